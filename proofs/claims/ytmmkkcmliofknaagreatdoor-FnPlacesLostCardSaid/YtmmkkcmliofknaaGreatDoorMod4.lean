/- More models of the functions, printed by my generator. -/
import Derived.Test.YtmmkkcmliofknaaGreatDoorMod3
import Derived.Test.YtmmkkcmliofknaaGreatDoorBase11
namespace Go.Proofs.YtmmkkcmliofknaaGreatDoor
open Go Go.RowKit Go.ChangeShapes Go.WideShapes
set_option linter.unusedVariables false
set_option linter.unusedSimpArgs false

def zFN (s_l1 : (List UInt8) × Int) : Option ByteArray :=
  some (bts s_l1.1)
def zDj (s_l1 : (List UInt8) × Int) (s_j1 : Bool) : Option (Stp ByteArray ((List UInt8) × Int)) :=
  ifB s_j1 (chk (([(UInt8.ofNat (IntKind.u8.wrap (w64 (48 + (s_l1.2.tmod 10)))).toNat)] : List UInt8).length + s_l1.1.length < 1099511627776) (some (.cont (([(UInt8.ofNat (IntKind.u8.wrap (w64 (48 + (s_l1.2.tmod 10)))).toNat)] : List UInt8) ++ s_l1.1, w64 (s_l1.2.tdiv 10))))) (some (.brk (s_l1.1, s_l1.2)))
def zFO (s_l1 : (List UInt8) × Int) : Option (Stp ByteArray ((List UInt8) × Int)) :=
  ifB (decide (0 < s_l1.2)) (zDj s_l1 true) (zDj s_l1 ((s_l1.1.length : Int) == 0))
def zC1 (a0 : Int) : Option ByteArray :=
  bnd (zAO (zFO) (([] : List UInt8), a0)) fun o => zBh o (fun x => some x) (fun s => zFN s)
def zHR (a0 : Int) : Option ByteArray :=
  bnd (zHn a0 10) fun x1 => some x1
def zIa (a0 : Int) : Option ByteArray :=
  bnd (zBr a0 0 9) fun x4 => ifB (!x4) (some (⟨#[]⟩ : ByteArray)) (bnd (idx ([(⟨#[70, 73, 78]⟩ : ByteArray), (⟨#[68, 78, 67]⟩ : ByteArray), (⟨#[68, 78, 83]⟩ : ByteArray), (⟨#[79, 67, 83]⟩ : ByteArray), (⟨#[68, 78, 70]⟩ : ByteArray), (⟨#[82, 69, 84]⟩ : ByteArray), (⟨#[68, 83, 81]⟩ : ByteArray), (⟨#[68, 78, 69]⟩ : ByteArray), (⟨#[66, 70, 68]⟩ : ByteArray), (⟨#[82, 68, 71]⟩ : ByteArray)] : List ByteArray) a0) fun aA => some aA)
def zBT (a0 : Penalty) (s_j1 : Bool) : Option ByteArray :=
  ifB s_j1 (some (⟨#[]⟩ : ByteArray)) (bnd (zHR a0.Race) fun aA => chk (aA.size + (⟨#[32]⟩ : ByteArray).size ≤ 9223372036854775807) (bnd (zHR a0.Boat) fun aB => chk ((aA ++ (⟨#[32]⟩ : ByteArray)).size + aB.size ≤ 9223372036854775807) (ifB (a0.Kind == 1) (chk (((aA ++ (⟨#[32]⟩ : ByteArray)) ++ aB).size + (⟨#[32, 99, 111, 100, 101, 32]⟩ : ByteArray).size ≤ 9223372036854775807) (bnd (zIa a0.Value) fun aC => chk ((((aA ++ (⟨#[32]⟩ : ByteArray)) ++ aB) ++ (⟨#[32, 99, 111, 100, 101, 32]⟩ : ByteArray)).size + aC.size ≤ 9223372036854775807) (some ((((aA ++ (⟨#[32]⟩ : ByteArray)) ++ aB) ++ (⟨#[32, 99, 111, 100, 101, 32]⟩ : ByteArray)) ++ aC)))) (ifB (a0.Kind == 2) (chk (((aA ++ (⟨#[32]⟩ : ByteArray)) ++ aB).size + (⟨#[32, 116, 105, 109, 101, 32]⟩ : ByteArray).size ≤ 9223372036854775807) (bnd (zHR a0.Value) fun aD => chk ((((aA ++ (⟨#[32]⟩ : ByteArray)) ++ aB) ++ (⟨#[32, 116, 105, 109, 101, 32]⟩ : ByteArray)).size + aD.size ≤ 9223372036854775807) (some ((((aA ++ (⟨#[32]⟩ : ByteArray)) ++ aB) ++ (⟨#[32, 116, 105, 109, 101, 32]⟩ : ByteArray)) ++ aD)))) (chk (((aA ++ (⟨#[32]⟩ : ByteArray)) ++ aB).size + (⟨#[32, 112, 101, 114, 99, 101, 110, 116, 32]⟩ : ByteArray).size ≤ 9223372036854775807) (bnd (zHR a0.Value) fun aE => chk ((((aA ++ (⟨#[32]⟩ : ByteArray)) ++ aB) ++ (⟨#[32, 112, 101, 114, 99, 101, 110, 116, 32]⟩ : ByteArray)).size + aE.size ≤ 9223372036854775807) (some ((((aA ++ (⟨#[32]⟩ : ByteArray)) ++ aB) ++ (⟨#[32, 112, 101, 114, 99, 101, 110, 116, 32]⟩ : ByteArray)) ++ aE))))))))
def zGu (a0 : Penalty) : Option ByteArray :=
  bnd (zBr a0.Race 0 11) fun aA => ifB (!aA) (zBT a0 true) (bnd (zD3 a0.Boat) fun aB => ifB (!aB) (zBT a0 true) (bnd (zFV a0) fun aC => zBT a0 (!aC)))
def zBU (a0 : Penalty) (s_j1 : Bool) : Option ByteArray :=
  ifB s_j1 (some (⟨#[]⟩ : ByteArray)) (bnd (zC1 a0.Race) fun aA => chk (aA.size + (⟨#[32]⟩ : ByteArray).size ≤ 9223372036854775807) (bnd (zC1 a0.Boat) fun aB => chk ((aA ++ (⟨#[32]⟩ : ByteArray)).size + aB.size ≤ 9223372036854775807) (chk (((aA ++ (⟨#[32]⟩ : ByteArray)) ++ aB).size + (⟨#[32]⟩ : ByteArray).size ≤ 9223372036854775807) (ifB (a0.Kind == 1) (chk ((((aA ++ (⟨#[32]⟩ : ByteArray)) ++ aB) ++ (⟨#[32]⟩ : ByteArray)).size + (⟨#[99, 111, 100, 101, 32]⟩ : ByteArray).size ≤ 9223372036854775807) (bnd (zIS) fun aF => bnd (idx aF a0.Value) fun aC => chk (((((aA ++ (⟨#[32]⟩ : ByteArray)) ++ aB) ++ (⟨#[32]⟩ : ByteArray)) ++ (⟨#[99, 111, 100, 101, 32]⟩ : ByteArray)).size + aC.size ≤ 9223372036854775807) (some (((((aA ++ (⟨#[32]⟩ : ByteArray)) ++ aB) ++ (⟨#[32]⟩ : ByteArray)) ++ (⟨#[99, 111, 100, 101, 32]⟩ : ByteArray)) ++ aC)))) (ifB (a0.Kind == 2) (chk ((((aA ++ (⟨#[32]⟩ : ByteArray)) ++ aB) ++ (⟨#[32]⟩ : ByteArray)).size + (⟨#[116, 105, 109, 101, 32]⟩ : ByteArray).size ≤ 9223372036854775807) (bnd (zC1 a0.Value) fun aD => chk (((((aA ++ (⟨#[32]⟩ : ByteArray)) ++ aB) ++ (⟨#[32]⟩ : ByteArray)) ++ (⟨#[116, 105, 109, 101, 32]⟩ : ByteArray)).size + aD.size ≤ 9223372036854775807) (some (((((aA ++ (⟨#[32]⟩ : ByteArray)) ++ aB) ++ (⟨#[32]⟩ : ByteArray)) ++ (⟨#[116, 105, 109, 101, 32]⟩ : ByteArray)) ++ aD)))) (chk ((((aA ++ (⟨#[32]⟩ : ByteArray)) ++ aB) ++ (⟨#[32]⟩ : ByteArray)).size + (⟨#[112, 101, 114, 99, 101, 110, 116, 32]⟩ : ByteArray).size ≤ 9223372036854775807) (bnd (zC1 a0.Value) fun aE => chk (((((aA ++ (⟨#[32]⟩ : ByteArray)) ++ aB) ++ (⟨#[32]⟩ : ByteArray)) ++ (⟨#[112, 101, 114, 99, 101, 110, 116, 32]⟩ : ByteArray)).size + aE.size ≤ 9223372036854775807) (some (((((aA ++ (⟨#[32]⟩ : ByteArray)) ++ aB) ++ (⟨#[32]⟩ : ByteArray)) ++ (⟨#[112, 101, 114, 99, 101, 110, 116, 32]⟩ : ByteArray)) ++ aE)))))))))
def zGv (a0 : Penalty) : Option ByteArray :=
  bnd (zBt a0.Race 0 11) fun aA => ifB (!aA) (zBU a0 true) (bnd (zBt a0.Boat 0 15) fun aB => ifB (!aB) (zBU a0 true) (bnd (zGB a0.Kind a0.Value) fun aC => zBU a0 (!aC)))
def zBQ (aF : Int × Int) (aA : Series × (List Penalty) × (List Int) × Int) (aB : (List Int) × Int) (aC : (List Int) × Int) (s_j3 : Bool) : Option Bool :=
  ifB s_j3 (some false) (bnd (idx aC.1 aA.2.2.2) fun aD => bnd (idx aB.1 aA.2.2.2) fun aE => some ((w64 (aD - aE)) == aF.1))
def zEm (aD : Int × Int) (aA : Series × (List Penalty) × (List Int) × Int) (s_l1 : Int) : Option Bool :=
  ifB (aD.2 != 0) (some true) (bnd (zCd aA.1 ([] : List Penalty)) fun aE => bnd (zCd aA.1 aA.2.1) fun aF => bnd (zHN aE.1 aA.2.2.1) fun aB => bnd (zHN aF.1 aA.2.2.1) fun aC => ifB (aE.2 != 0) (zBQ aD aA aB aC true) (ifB (aF.2 != 0) (zBQ aD aA aB aC true) (ifB (aB.2 != 0) (zBQ aD aA aB aC true) (ifB (aC.2 != 0) (zBQ aD aA aB aC true) (ifB (decide ((aB.1.length : Int) ≤ aA.2.2.2)) (zBQ aD aA aB aC true) (zBQ aD aA aB aC (decide ((aC.1.length : Int) ≤ aA.2.2.2))))))))
def zEn (s_l1 : Int) (s_j4 : Bool) : Option (Stp Bool Int) :=
  ifB s_j4 (some (.ret false)) (some (.cont (w64 (s_l1 + 1))))
def zC2 (aC : (List Penalty) × Int) (aD : (List Penalty) × Int) (s_l1 : Int) : Option (Stp Bool Int) :=
  ifB (decide (s_l1 < (aC.1.length : Int))) (bnd (idx aC.1 s_l1) fun aA => bnd (idx aD.1 s_l1) fun aB => ifB (!(eqL [aA.Race, aA.Boat, aA.Kind, aA.Value] [aB.Race, aB.Boat, aB.Kind, aB.Value])) (zEn s_l1 true) (bnd (idx aC.1 s_l1) fun aE => bnd (zGu aE) fun aF => bnd (idx aD.1 s_l1) fun aG => bnd (zGv aG) fun aH => zEn s_l1 (!(sEq aF aH)))) (some (.brk s_l1))
def zEo (aA : Int × Int) (aB : Series × (List Penalty) × (List Int) × Int) (aC : (List Penalty) × Int) (aD : (List Penalty) × Int) (s_j2 : Bool) : Option Bool :=
  ifB s_j2 (some false) (bnd (zAO (zC2 aC aD) 0) fun o => zBh o (fun x => some x) (fun s => zEm aA aB s))
def zEp (a0 : List UInt8) (aD : Int × Int) (aE : Series × (List Penalty) × (List Int) × Int) (s_j1 : Bool) : Option Bool :=
  ifB s_j1 (some false) (bnd (zDU a0) fun aA => bnd (zFD aA.1 aA.2.1 aA.2.2.1 aA.2.2.2.1 aA.2.2.2.2) fun aB => bnd (zFE aA.1 aA.2.1 aA.2.2.1 aA.2.2.2.1 aA.2.2.2.2) fun aC => ifB (aB.2 != aC.2) (zEo aD aE aB aC true) (zEo aD aE aB aC ((aB.1.length : Int) != (aC.1.length : Int))))
def zHy (a0 : List UInt8) : Option Bool :=
  bnd (zKD a0) fun x3 => ifB x3 (some true) (bnd (zDq a0) fun x9 => bnd (zFn x9.1 x9.2.1 x9.2.2.1 x9.2.2.2) fun aB => bnd (zDq a0) fun aA => bnd (zCi aA.1 aA.2.1 aA.2.2.1 aA.2.2.2) fun aC => ifB (aB.2 != aC.2) (zEp a0 aB aA true) (zEp a0 aB aA (aB.1 != aC.1)))
end Go.Proofs.YtmmkkcmliofknaaGreatDoor
