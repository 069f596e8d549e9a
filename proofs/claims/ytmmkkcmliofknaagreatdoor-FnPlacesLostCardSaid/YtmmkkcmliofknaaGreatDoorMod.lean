/- Models of the functions, printed by my generator: what each computes, as a Lean function on data. -/
import Derived.Test.YtmmkkcmliofknaaGreatDoorBase4
namespace Go.Proofs.YtmmkkcmliofknaaGreatDoor
open Go Go.RowKit Go.ChangeShapes Go.WideShapes
set_option linter.unusedVariables false
set_option linter.unusedSimpArgs false

def zH4 (s_j1 : Bool) : Option Bool :=
  some s_j1
def zBt (a0 : Int) (a1 : Int) (a2 : Int) : Option Bool :=
  ifB (decide (a1 ≤ a0)) (zH4 (decide (a0 ≤ a2))) (zH4 false)
def zHA (s_j1 : Bool) : Option Bool :=
  some s_j1
def zBr (a0 : Int) (a1 : Int) (a2 : Int) : Option Bool :=
  ifB (decide (a1 ≤ a0)) (zHA (decide (a0 ≤ a2))) (zHA false)
def zDH (s_l1 : Int) : Option Bool :=
  some true
def zCf (s_l1 : Int) (s_j1 : Bool) : Option (Stp Bool Int) :=
  ifB s_j1 (some (.ret false)) (some (.cont (w64 (s_l1 + 1))))
def zCH (a0 : List Int) (s_l1 : Int) : Option (Stp Bool Int) :=
  ifB (decide (s_l1 < (a0.length : Int))) (bnd (idx a0 s_l1) fun aA => bnd (zBt aA 1 12) fun aB => ifB (!aB) (zCf s_l1 true) (ifB (decide (0 < s_l1)) (bnd (idx a0 (w64 (s_l1 - 1))) fun aC => bnd (idx a0 s_l1) fun aD => zCf s_l1 (decide (aD ≤ aC))) (zCf s_l1 false))) (some (.brk s_l1))
def zDI (a0 : List Int) : Option Bool :=
  ifB (decide (3 < (a0.length : Int))) (some false) (bnd (zAO (zCH a0) 0) fun o => zBh o (fun x => some x) (fun s => zDH s))
def zDJ (a0 : List Int) (s_l1 : Int) : Option Bool :=
  some (decide ((a0.length : Int) ≤ 3))
def zCI (s_l1 : Int) (s_j1 : Bool) : Option (Stp Bool Int) :=
  ifB s_j1 (some (.ret false)) (some (.cont (w64 (s_l1 + 1))))
def zFe (a0 : List Int) (s_l1 : Int) : Option (Stp Bool Int) :=
  ifB (decide (s_l1 < (a0.length : Int))) (bnd (idx a0 s_l1) fun aA => bnd (zBr aA 1 12) fun aB => ifB (!aB) (zCI s_l1 true) (ifB (decide (0 < s_l1)) (bnd (idx a0 (w64 (s_l1 - 1))) fun aC => zCI s_l1 (decide (aA ≤ aC))) (zCI s_l1 false))) (some (.brk s_l1))
def zDK (a0 : List Int) : Option Bool :=
  bnd (zAO (zFe a0) 0) fun o => zBh o (fun x => some x) (fun s => zDJ a0 s)
def zFZ (s_l1 : Int × Int) : Option Int :=
  some s_l1.1
def zF0 (s_l1 : Int × Int) (s_j1 : Int) : Option (Stp Int (Int × Int)) :=
  some (.cont (s_j1, w64 (s_l1.2 + 1)))
def zEG (s_l1 : Int × Int) (s_j2 : Int) : Option (Stp Int (Int × Int)) :=
  zF0 s_l1 s_j2
def zDC (a0 : List Int) (a1 : Int) (s_l1 : Int × Int) : Option (Stp Int (Int × Int)) :=
  ifB (decide (s_l1.2 < (a0.length : Int))) (bnd (idx a0 s_l1.2) fun aA => ifB (decide (aA ≤ a1)) (zEG s_l1 (w64 (s_l1.1 + 1))) (zEG s_l1 s_l1.1)) (some (.brk (s_l1.1, s_l1.2)))
def zFo (a0 : List Int) (a1 : Int) : Option Int :=
  bnd (zAO (zDC a0 a1) (0, 0)) fun o => zBh o (fun x => some x) (fun s => zFZ s)
def zD5 (s_l1 : Int × Int) : Option Int :=
  some s_l1.1
def zFQ (s_l1 : Int × Int) (s_j1 : Int) : Option (Stp Int (Int × Int)) :=
  some (.cont (s_j1, w64 (s_l1.2 + 1)))
def zD6 (s_l1 : Int × Int) (s_j2 : Int) : Option (Stp Int (Int × Int)) :=
  zFQ s_l1 s_j2
def zFR (a0 : List Int) (a1 : Int) (s_l1 : Int × Int) : Option (Stp Int (Int × Int)) :=
  ifB (decide (s_l1.2 < (a0.length : Int))) (bnd (idx a0 s_l1.2) fun aA => ifB (decide (aA ≤ a1)) (zD6 s_l1 (w64 (s_l1.1 + 1))) (zD6 s_l1 s_l1.1)) (some (.brk (s_l1.1, s_l1.2)))
def zFt (a0 : List Int) (a1 : Int) : Option Int :=
  bnd (zAO (zFR a0 a1) (0, 0)) fun o => zBh o (fun x => some x) (fun s => zD5 s)
def zKD (a0 : List UInt8) : Option Bool :=
  some (decide (4096 < (a0.length : Int)))
def zGE (s_l1 : Int × Int) : Option (Int × Int) :=
  some (0, s_l1.1)
def zFf (a0 : List UInt8) (s_l1 : Int × Int) (s_j1 : Bool) : Option (Stp (Int × Int) (Int × Int)) :=
  ifB s_j1 (bnd (idx a0 s_l1.2) fun aA => some (.cont ((w64 ((w64 (s_l1.1 * 53)) + (IntKind.i64.wrap (aA.toNat : Int)))).tmod 2147483647, w64 (s_l1.2 + 1)))) (some (.brk (s_l1.1, s_l1.2)))
def zGF (a0 : List UInt8) (s_l1 : Int × Int) : Option (Stp (Int × Int) (Int × Int)) :=
  ifB (decide (s_l1.2 < (a0.length : Int))) (zFf a0 s_l1 (decide (s_l1.2 < 64))) (zFf a0 s_l1 false)
def zHB (a0 : List UInt8) : Option (Int × Int) :=
  bnd (zAO (zGF a0) (61657, 0)) fun o => zBh o (fun x => some x) (fun s => zGE s)
def zD7 (a0 : Src) (a1 : Int) (s_j1 : Int × Int) : Option ((Int) × (Int × Int)) :=
  chk (a1 ≠ 0) (some (s_j1.2.tmod a1, (s_j1.1, (w64 ((w64 (a0.seed * 48271)) + 23)).tmod 2147483647)))
def zGG (a0 : Src) (a1 : Int) (aA : UInt8) (s_j2 : Bool) : Option ((Int) × (Int × Int)) :=
  ifB s_j2 (bnd (idx a0.code (w64 ((w64 (a0.at_ + 1)) - 1))) fun aB => zD7 a0 a1 (w64 (a0.at_ + 1), IntKind.i64.wrap (aB.toNat : Int))) (zD7 a0 a1 (w64 (a0.at_ + 1), w64 ((w64 (((w64 ((w64 (a0.seed * 48271)) + 23)).tmod 2147483647).tdiv 17)) + (IntKind.i64.wrap (aA.toNat : Int)))))
def zAE (a0 : Src) (a1 : Int) : Option ((Int) × (Int × Int)) :=
  ifB (decide (a1 ≤ 1)) (some (0, (a0.at_, a0.seed))) (ifB (decide (a0.at_ < (a0.code.length : Int))) (bnd (idx a0.code a0.at_) fun aA => ifB (decide (a1 ≤ 256)) (zGG a0 a1 aA (((w64 (a0.at_ + 1)).tmod 2) == 0)) (zGG a0 a1 aA false)) (zD7 a0 a1 (a0.at_, w64 (((w64 ((w64 (a0.seed * 48271)) + 23)).tmod 2147483647).tdiv 17))))
def zD3 (a0 : Int) : Option Bool :=
  bnd (zBr a0 0 15) fun x1 => some x1
def zF1 (s_j1 : Bool) : Option Bool :=
  some s_j1
def zEH (s_j2 : Bool) : Option Bool :=
  some s_j2
def zH5 (a0 : Finish) : Option Bool :=
  ifB (a0.Code == 0) (bnd (zD3 a0.Boat) fun aA => ifB aA (bnd (zBr a0.Time 1 1000000000) fun aB => zF1 aB) (zF1 false)) (bnd (zD3 a0.Boat) fun aC => ifB aC (bnd (zBr a0.Code 1 9) fun aD => ifB aD (zEH (a0.Time == 0)) (zEH false)) (zEH false))
def zEx (s_l1 : Int) : Option Bool :=
  some true
def zEy (s_l1 : Int) (s_j2 : Bool) : Option (Stp Bool Int) :=
  ifB s_j2 (some (.ret false)) (some (.cont (w64 (s_l1 + 1))))
def zEz (a1 : List Finish) (s_l1 : Int) : Option (Stp Bool Int) :=
  ifB (decide (s_l1 < (a1.length : Int))) (bnd (idx a1 s_l1) fun aA => ifB (aA.Boat != s_l1) (zEy s_l1 true) (bnd (zH5 aA) fun aB => zEy s_l1 (!aB))) (some (.brk s_l1))
def zEA (a1 : List Finish) (s_j1 : Bool) : Option Bool :=
  ifB s_j1 (some false) (bnd (zAO (zEz a1) 0) fun o => zBh o (fun x => some x) (fun s => zEx s))
def zF2 (a0 : Int) (a1 : List Finish) : Option Bool :=
  bnd (zBr a0 1 16) fun aA => ifB (!aA) (zEA a1 true) (zEA a1 ((a1.length : Int) != a0))
def zHC (a0 : Int) : Option Bool :=
  bnd (zBt a0 0 9) fun x1 => some x1
def zGH (s_l1 : Int) : Option Bool :=
  some true
def zDl (s_l1 : Int) (s_j2 : Bool) : Option (Stp Bool Int) :=
  ifB s_j2 (some (.ret false)) (some (.cont (w64 (s_l1 + 1))))
def zGI (s_l1 : Int) (aA : Finish) (s_j1 : Bool) : Option (Stp Bool Int) :=
  ifB s_j1 (some (.ret false)) (ifB (aA.Code == 0) (bnd (zBt aA.Time 1 1000000000) fun aB => ifB (!aB) (zDl s_l1 true) (ifB (aA.Code != 0) (zDl s_l1 (aA.Time != 0)) (zDl s_l1 false))) (ifB (aA.Code != 0) (zDl s_l1 (aA.Time != 0)) (zDl s_l1 false)))
def zGJ (a1 : Race) (s_l1 : Int) : Option (Stp Bool Int) :=
  ifB (decide (s_l1 < (a1.Finishes.length : Int))) (bnd (idx a1.Finishes s_l1) fun aA => ifB (aA.Boat != s_l1) (zGI s_l1 aA true) (bnd (zHC aA.Code) fun aB => zGI s_l1 aA (!aB))) (some (.brk s_l1))
def zIt (a0 : Int) (a1 : Race) : Option Bool :=
  ifB ((a1.Finishes.length : Int) != a0) (some false) (bnd (zAO (zGJ a1) 0) fun o => zBh o (fun x => some x) (fun s => zGH s))
def zIS  : Option (List ByteArray) :=
  some ([(⟨#[70, 73, 78]⟩ : ByteArray), (⟨#[68, 78, 67]⟩ : ByteArray), (⟨#[68, 78, 83]⟩ : ByteArray), (⟨#[79, 67, 83]⟩ : ByteArray), (⟨#[68, 78, 70]⟩ : ByteArray), (⟨#[82, 69, 84]⟩ : ByteArray), (⟨#[68, 83, 81]⟩ : ByteArray), (⟨#[68, 78, 69]⟩ : ByteArray), (⟨#[66, 70, 68]⟩ : ByteArray), (⟨#[82, 68, 71]⟩ : ByteArray)] : List ByteArray)
def zHD (a0 : Finish) : Option Bool :=
  some (a0.Code == 0)
def zIO (a0 : Int) (a1 : Race) : Option Bool :=
  bnd (zF2 a0 a1.Finishes) fun x5 => some x5
def zJ5 (s_l1 : Int) : Option Bool :=
  some true
def zJ6 (s_l1 : Int) (s_l2 : Int) : Option (Stp Bool Int) :=
  some (.cont (w64 (s_l1 + 1)))
def zJc (s_l2 : Int) (s_j3 : Bool) : Option (Stp Bool Int) :=
  ifB s_j3 (some (.ret false)) (some (.cont (w64 (s_l2 + 1))))
def zIe (a0 : Table) (s_l1 : Int) (s_l2 : Int) : Option (Stp Bool Int) :=
  ifB (decide (s_l2 < a0.Boats)) (bnd (idx a0.Points s_l1) fun aA => bnd (idx aA s_l2) fun aB => bnd (zBt aB 0 10000) fun aC => ifB (!aC) (zJc s_l2 true) (bnd (idx a0.Codes s_l1) fun aD => bnd (idx aD s_l2) fun aE => bnd (zHC aE) fun aF => zJc s_l2 (!aF))) (some (.brk s_l2))
def zJd (a0 : Table) (s_l1 : Int) (s_j2 : Bool) : Option (Stp Bool Int) :=
  ifB s_j2 (some (.ret false)) (bnd (zAO (zIe a0 s_l1) 0) fun o => zBh o (fun x => some (.ret x)) (fun s => zJ6 s_l1 s))
def zIf (a0 : Table) (s_l1 : Int) : Option (Stp Bool Int) :=
  ifB (decide (s_l1 < (a0.Points.length : Int))) (bnd (idx a0.Points s_l1) fun aA => ifB ((aA.length : Int) != a0.Boats) (zJd a0 s_l1 true) (bnd (idx a0.Codes s_l1) fun aB => zJd a0 s_l1 ((aB.length : Int) != a0.Boats))) (some (.brk s_l1))
def zIg (a0 : Table) (s_j1 : Bool) : Option Bool :=
  ifB s_j1 (some false) (bnd (zAO (zIf a0) 0) fun o => zBh o (fun x => some x) (fun s => zJ5 s))
def zJR (a0 : Table) : Option Bool :=
  bnd (zBt a0.Boats 1 16) fun aA => ifB (!aA) (zIg a0 true) (ifB (decide (12 < (a0.Points.length : Int))) (zIg a0 true) (zIg a0 ((a0.Codes.length : Int) != (a0.Points.length : Int))))
def zJe (s_j1 : Bool) : Option Int :=
  ifB s_j1 (some 2) (some 0)
def zK8 (a0 : Table) (a1 : List Int) (a2 : Int) : Option Int :=
  bnd (zJR a0) fun x9 => ifB (!x9) (some 1) (bnd (zDI a1) fun aA => ifB (!aA) (zJe true) (bnd (zBt a2 0 (w64 (a0.Boats - 1))) fun aB => zJe (!aB)))
def zIE (s_l1 : (List Bool) × Int) : Option (List Bool) :=
  some s_l1.1
def zIF (s_l1 : (List Bool) × Int) (s_j1 : (List Bool)) : Option (Stp (List Bool) ((List Bool) × Int)) :=
  some (.cont (s_j1, w64 (s_l1.2 - 1)))
def zHE (s_l1 : (List Bool) × Int) (s_j2 : (List Bool)) : Option (Stp (List Bool) ((List Bool) × Int)) :=
  zIF s_l1 s_j2
def zHF (s_l1 : (List Bool) × Int) (s_l2 : Int × Int) : Option (Stp (List Bool) ((List Bool) × Int)) :=
  ifB (decide (0 ≤ s_l2.1)) (bnd (idx s_l1.1 s_l2.1) fun aA => zHE s_l1 (s_l1.1.set (s_l2.1 : Int).toNat true)) (zHE s_l1 s_l1.1)
def zDL (s_l2 : Int × Int) (s_j3 : Int) : Option (Stp (List Bool) (Int × Int)) :=
  some (.cont (s_j3, w64 (s_l2.2 + 1)))
def zCT (s_l2 : Int × Int) (s_j4 : Int) : Option (Stp (List Bool) (Int × Int)) :=
  zDL s_l2 s_j4
def zCg (s_l2 : Int × Int) (s_j5 : Bool) : Option (Stp (List Bool) (Int × Int)) :=
  ifB s_j5 (zCT s_l2 s_l2.2) (zCT s_l2 s_l2.1)
def zCU (a0 : Table) (a2 : Int) (s_l1 : (List Bool) × Int) (s_l2 : Int × Int) : Option (Stp (List Bool) (Int × Int)) :=
  ifB (decide (s_l2.2 < (s_l1.1.length : Int))) (bnd (idx s_l1.1 s_l2.2) fun aA => ifB (!aA) (bnd (idx a0.Codes s_l2.2) fun aB => bnd (idx aB a2) fun aC => ifB (aC != 7) (ifB (decide (s_l2.1 < 0)) (zCg s_l2 true) (bnd (idx a0.Points s_l2.2) fun aD => bnd (idx aD a2) fun aE => bnd (idx a0.Points s_l2.1) fun aF => bnd (idx aF a2) fun aG => zCg s_l2 (decide (aG < aE)))) (zCg s_l2 false)) (zCg s_l2 false)) (some (.brk (s_l2.1, s_l2.2)))
def zHG (a0 : Table) (a2 : Int) (s_l1 : (List Bool) × Int) : Option (Stp (List Bool) ((List Bool) × Int)) :=
  ifB (decide (0 < s_l1.2)) (bnd (zAO (zCU a0 a2 s_l1) ((-1), 0)) fun o => zBh o (fun x => some (.ret x)) (fun s => zHF s_l1 s)) (some (.brk (s_l1.1, s_l1.2)))
def zIP (a0 : Table) (a1 : List Int) (a2 : Int) : Option (List Bool) :=
  chk (0 ≤ (a0.Points.length : Int) ∧ (a0.Points.length : Int) < 1099511627776) (bnd (zFo a1 (a0.Points.length : Int)) fun aA => bnd (zAO (zHG a0 a2) (List.replicate ((a0.Points.length : Int)).toNat (false : Bool), aA)) fun o => zBh o (fun x => some x) (fun s => zIE s))
def zHH (a0 : List Int) (a1 : Int) (s_l1 : Int) : Option Bool :=
  some ((a0.length : Int) == a1)
def zHI (a0 : List Int) (a2 : Int) (s_l1 : Int) : Option (Stp Bool Int) :=
  ifB (decide (s_l1 < (a0.length : Int))) (bnd (idx a0 s_l1) fun aA => bnd (zBr aA 0 a2) fun aB => ifB (!aB) (some (.ret false)) (some (.cont (w64 (s_l1 + 1))))) (some (.brk s_l1))
def zIc (a0 : List Int) (a1 : Int) (a2 : Int) : Option Bool :=
  bnd (zAO (zHI a0 a2) 0) fun o => zBh o (fun x => some x) (fun s => zHH a0 a1 s)
def zGK (s_l1 : Int) : Option Bool :=
  some true
def zGL (s_l1 : Int) (s_j2 : Bool) : Option (Stp Bool Int) :=
  ifB s_j2 (some (.ret false)) (some (.cont (w64 (s_l1 + 1))))
def zGM (a0 : Table) (s_l1 : Int) : Option (Stp Bool Int) :=
  ifB (decide (s_l1 < (a0.Points.length : Int))) (bnd (idx a0.Points s_l1) fun aA => bnd (zIc aA a0.Boats 10000) fun aB => ifB (!aB) (zGL s_l1 true) (bnd (idx a0.Codes s_l1) fun aC => bnd (zIc aC a0.Boats 9) fun aD => zGL s_l1 (!aD))) (some (.brk s_l1))
def zFg (a0 : Table) (s_j1 : Bool) : Option Bool :=
  ifB s_j1 (some false) (bnd (zAO (zGM a0) 0) fun o => zBh o (fun x => some x) (fun s => zGK s))
def zIu (a0 : Table) : Option Bool :=
  bnd (zBr a0.Boats 1 16) fun aA => ifB (!aA) (zFg a0 true) (ifB (decide (12 < (a0.Points.length : Int))) (zFg a0 true) (zFg a0 ((a0.Points.length : Int) != (a0.Codes.length : Int))))
def zFu (s_j1 : Bool) : Option Int :=
  ifB s_j1 (some 2) (some 0)
def zHJ (a0 : Table) (a1 : List Int) (a2 : Int) : Option Int :=
  bnd (zIu a0) fun x9 => ifB (!x9) (some 1) (bnd (zDK a1) fun aA => ifB (!aA) (zFu true) (bnd (zBr a2 0 (w64 (a0.Boats - 1))) fun aB => zFu (!aB)))
def zGN (a0 : Int) : Option Int :=
  some (max (-1) (min 1 a0))
def zGO (s_l1 : (List Int) × Int) : Option (List Int) :=
  some s_l1.1
def zGP (s_l1 : (List Int) × Int) (s_j1 : (List Int)) : Option (Stp (List Int) ((List Int) × Int)) :=
  some (.cont (s_j1, w64 (s_l1.2 + 1)))
def zEW (s_l1 : (List Int) × Int) (s_j2 : (List Int)) : Option (Stp (List Int) ((List Int) × Int)) :=
  zGP s_l1 s_j2
def zEX (a0 : Table) (a2 : Int) (x9 : (List Bool)) (s_l1 : (List Int) × Int) : Option (Stp (List Int) ((List Int) × Int)) :=
  ifB (decide (s_l1.2 < (x9.length : Int))) (bnd (idx x9 s_l1.2) fun aB => ifB (!aB) (bnd (idx a0.Points s_l1.2) fun aC => bnd (idx aC a2) fun aA => chk (s_l1.1.length + ([aA] : List Int).length < 1099511627776) (zEW s_l1 (s_l1.1 ++ ([aA] : List Int)))) (zEW s_l1 s_l1.1)) (some (.brk (s_l1.1, s_l1.2)))
def zFh (a0 : Table) (a1 : List Int) (a2 : Int) : Option (List Int) :=
  bnd (zIP a0 a1 a2) fun x9 => bnd (zAO (zEX a0 a2 x9) (([] : List Int), 0)) fun o => zBh o (fun x => some x) (fun s => zGO s)
def zIG (s_l1 : Int × Int) : Option Int :=
  some s_l1.1
def zDM (a0 : List Int) (s_l1 : Int × Int) : Option (Stp Int (Int × Int)) :=
  ifB (decide (s_l1.2 < (a0.length : Int))) (bnd (idx a0 s_l1.2) fun aA => some (.cont (w64 (s_l1.1 + aA), w64 (s_l1.2 + 1)))) (some (.brk (s_l1.1, s_l1.2)))
def zBN (a0 : List Int) : Option Int :=
  bnd (zAO (zDM a0) (0, 0)) fun o => zBh o (fun x => some x) (fun s => zIG s)
def zHp (s_l1 : (List Int) × Int) : Option (List Int) :=
  some s_l1.1
def zEq (s_l1 : (List Int) × Int) (s_l2 : (List Int) × Int) : Option (Stp (List Int) ((List Int) × Int)) :=
  some (.cont (s_l2.1, w64 (s_l1.2 + 1)))
def zFv (s_l2 : (List Int) × Int) (s_j1 : Bool) : Option (Stp (List Int) ((List Int) × Int)) :=
  ifB s_j1 (bnd (idx s_l2.1 s_l2.2) fun aB => bnd (idx s_l2.1 (w64 (s_l2.2 - 1))) fun aA => bnd (idx s_l2.1 s_l2.2) fun aC => bnd (idx (s_l2.1.set (s_l2.2 : Int).toNat aA) (w64 (s_l2.2 - 1))) fun aD => some (.cont ((s_l2.1.set (s_l2.2 : Int).toNat aA).set (w64 (s_l2.2 - 1) : Int).toNat aB, w64 (s_l2.2 - 1)))) (some (.brk (s_l2.1, s_l2.2)))
def zEr (s_l2 : (List Int) × Int) : Option (Stp (List Int) ((List Int) × Int)) :=
  ifB (decide (0 < s_l2.2)) (bnd (idx s_l2.1 (w64 (s_l2.2 - 1))) fun aA => bnd (idx s_l2.1 s_l2.2) fun aB => zFv s_l2 (decide (aB < aA))) (zFv s_l2 false)
def zDe (s_l1 : (List Int) × Int) : Option (Stp (List Int) ((List Int) × Int)) :=
  ifB (decide (s_l1.2 < (s_l1.1.length : Int))) (bnd (zAO (zEr) (s_l1.1, s_l1.2)) fun o => zBh o (fun x => some (.ret x)) (fun s => zEq s_l1 s)) (some (.brk (s_l1.1, s_l1.2)))
def zFT (a0 : List Int) : Option (List Int) :=
  chk (([] : List Int).length + a0.length < 1099511627776) (bnd (zAO (zDe) (([] : List Int) ++ a0, 1)) fun o => zBh o (fun x => some x) (fun s => zHp s))
def zEY (a0 : Int) (a1 : Int) : Option Int :=
  ifB (decide (a0 < a1)) (some (-1)) (ifB (decide (a1 < a0)) (some 1) (some 0))
def zEZ (s_l2 : Int) : Option (Int × Int × Int) :=
  some (0, 0, 0)
def zE0 (a0 : Table) (a2 : Int) (a3 : Int) (s_l2 : Int) : Option (Stp (Int × Int × Int) Int) :=
  ifB (decide (0 ≤ s_l2)) (bnd (idx a0.Points s_l2) fun aA => bnd (idx aA a2) fun aB => bnd (idx a0.Points s_l2) fun aC => bnd (idx aC a3) fun aD => ifB (aB != aD) (bnd (idx a0.Points s_l2) fun aE => bnd (idx aE a2) fun aF => bnd (idx a0.Points s_l2) fun aG => bnd (idx aG a3) fun aH => bnd (zEY aF aH) fun aI => some (.ret (aI, 3, s_l2))) (some (.cont (w64 (s_l2 - 1))))) (some (.brk s_l2))
def zDN (a0 : Table) (a2 : Int) (a3 : Int) (s_l1 : Int) : Option (Int × Int × Int) :=
  bnd (zAO (zE0 a0 a2 a3) (w64 ((a0.Points.length : Int) - 1))) fun o => zBh o (fun x => some x) (fun s => zEZ s)
def zCO (aA : (List Int)) (aB : (List Int)) (s_l1 : Int) (s_j1 : Bool) : Option (Stp (Int × Int × Int) Int) :=
  ifB s_j1 (bnd (idx aA s_l1) fun aC => bnd (idx aB s_l1) fun aD => ifB (aC != aD) (bnd (idx aA s_l1) fun aE => bnd (idx aB s_l1) fun aF => bnd (zEY aE aF) fun aG => some (.ret (aG, 2, 0))) (some (.cont (w64 (s_l1 + 1))))) (some (.brk s_l1))
def zCP (aA : (List Int)) (aB : (List Int)) (s_l1 : Int) : Option (Stp (Int × Int × Int) Int) :=
  ifB (decide (s_l1 < (aA.length : Int))) (zCO aA aB s_l1 (decide (s_l1 < (aB.length : Int)))) (zCO aA aB s_l1 false)
def zGQ (a0 : Table) (a1 : List Int) (a2 : Int) (a3 : Int) : Option (Int × Int × Int) :=
  bnd (zFh a0 a1 a2) fun x9 => bnd (zFT x9) fun aA => bnd (zFh a0 a1 a3) fun aC => bnd (zFT aC) fun aB => bnd (zBN aA) fun aD => bnd (zBN aB) fun aE => ifB (aD != aE) (bnd (zBN aA) fun aF => bnd (zBN aB) fun aG => bnd (zEY aF aG) fun aH => some (aH, 1, 0)) (bnd (zAO (zCP aA aB) 0) fun o => zBh o (fun x => some x) (fun s => zDN a0 a2 a3 s))
def zIh (s_l1 : Int × Int) : Option Int :=
  some s_l1.1
def zIi (s_l1 : Int × Int) (s_j1 : Int) : Option (Stp Int (Int × Int)) :=
  some (.cont (s_j1, w64 (s_l1.2 + 1)))
def zGR (s_l1 : Int × Int) (s_j2 : Int) : Option (Stp Int (Int × Int)) :=
  zIi s_l1 s_j2
def zGS (a0 : Table) (a1 : List Int) (a2 : Int) (s_l1 : Int × Int) : Option (Stp Int (Int × Int)) :=
  ifB (decide (s_l1.2 < a0.Boats)) (bnd (zGQ a0 a1 s_l1.2 a2) fun aA => ifB (decide (aA.1 < 0)) (zGR s_l1 (w64 (s_l1.1 + 1))) (zGR s_l1 s_l1.1)) (some (.brk (s_l1.1, s_l1.2)))
def zHK (a0 : Table) (a1 : List Int) (a2 : Int) : Option Int :=
  bnd (zAO (zGS a0 a1 a2) (1, 0)) fun o => zBh o (fun x => some x) (fun s => zIh s)
def zHq (a0 : Src) : Option ((Int) × (Int × Int)) :=
  bnd (zAE (Src.mk a0.code a0.at_ a0.seed) 24) fun x5 => ifB (x5.1 == 0) (bnd (zAE (Src.mk a0.code x5.2.1 x5.2.2) 2) fun aA => some (w64 (16 * aA.1), (aA.2.1, aA.2.2))) (bnd (zAE (Src.mk a0.code x5.2.1 x5.2.2) 6) fun aB => some (w64 (1 + aB.1), (aB.2.1, aB.2.2)))
def zGx (s_l1 : Int × Int × (List Finish) × Int) : Option ((Race) × (Int × Int)) :=
  some ((Race.mk s_l1.2.2.1), (s_l1.1, s_l1.2.1))
def zDo (s_l1 : Int × Int × (List Finish) × Int) (s_j1 : Int × Int × Int × Int) : Option (Stp ((Race) × (Int × Int)) (Int × Int × (List Finish) × Int)) :=
  chk (s_l1.2.2.1.length + ([(Finish.mk s_l1.2.2.2 s_j1.2.2.1 s_j1.2.2.2)] : List Finish).length < 1099511627776) (some (.cont (s_j1.1, s_j1.2.1, s_l1.2.2.1 ++ ([(Finish.mk s_l1.2.2.2 s_j1.2.2.1 s_j1.2.2.2)] : List Finish), w64 (s_l1.2.2.2 + 1))))
def zDp (a0 : Src) (a1 : Int) (s_l1 : Int × Int × (List Finish) × Int) : Option (Stp ((Race) × (Int × Int)) (Int × Int × (List Finish) × Int)) :=
  ifB (decide (s_l1.2.2.2 < a1)) (bnd (zAE (Src.mk a0.code s_l1.1 s_l1.2.1) (w64 (2 * a1))) fun aB => bnd (zAE (Src.mk a0.code aB.2.1 aB.2.2) 4) fun aA => ifB (aA.1 == 0) (bnd (zAE (Src.mk a0.code aA.2.1 aA.2.2) 9) fun aC => zDo s_l1 (aC.2.1, aC.2.2, w64 (1 + aC.1), 0)) (zDo s_l1 (aA.2.1, aA.2.2, 0, w64 (1 + aB.1)))) (some (.brk (s_l1.1, s_l1.2.1, s_l1.2.2.1, s_l1.2.2.2)))
def zDD (a0 : Src) (a1 : Int) : Option ((Race) × (Int × Int)) :=
  bnd (zAO (zDp a0 a1) (a0.at_, a0.seed, ([] : List Finish), 0)) fun o => zBh o (fun x => some x) (fun s => zGx s)
def zHL (x7 : (Int) × (Int × Int)) (s_j1 : Int × Int × Int × (List Race)) : Option ((Series) × (Int × Int)) :=
  some ((Series.mk x7.1 s_j1.2.2.1 s_j1.2.2.2), (s_j1.1, s_j1.2.1))
def zCh (x7 : (Int) × (Int × Int)) (s_j2 : Int × Int × Int × (List Race)) : Option ((Series) × (Int × Int)) :=
  zHL x7 (s_j2.1, s_j2.2.1, s_j2.2.2.1, s_j2.2.2.2)
def zDO (a0 : Src) (x7 : (Int) × (Int × Int)) (aB : (Int) × (Int × Int)) (s_l2 : Int × Int × (List Race)) : Option ((Series) × (Int × Int)) :=
  bnd (zAE (Src.mk a0.code s_l2.1 s_l2.2.1) 2) fun aA => chk (0 ≤ (0 : Int) ∧ (0 : Int) ≤ w64 (12 + aA.1) ∧ w64 (12 + aA.1) ≤ (s_l2.2.2.length : Int)) (zCh x7 (aA.2.1, aA.2.2, aB.1, zNN s_l2.2.2 0 (w64 (12 + aA.1))))
def zDP (a0 : Src) (x7 : (Int) × (Int × Int)) (s_l2 : Int × Int × (List Race)) : Option (Stp ((Series) × (Int × Int)) (Int × Int × (List Race))) :=
  ifB (decide ((s_l2.2.2.length : Int) < 13)) (bnd (zDD (Src.mk a0.code s_l2.1 s_l2.2.1) x7.1) fun aA => chk (s_l2.2.2.length + ([(Race.mk aA.1.Finishes)] : List Race).length < 1099511627776) (some (.cont (aA.2.1, aA.2.2, s_l2.2.2 ++ ([(Race.mk aA.1.Finishes)] : List Race))))) (some (.brk (s_l2.1, s_l2.2.1, s_l2.2.2)))
def zDQ (a0 : Src) (x7 : (Int) × (Int × Int)) (aC : (Int) × (Int × Int)) (s_l1 : Int × Int × (List Race) × Int) : Option ((Series) × (Int × Int)) :=
  bnd (zAE (Src.mk a0.code s_l1.1 s_l1.2.1) 30) fun aA => ifB (aA.1 == 0) (zCh x7 (aA.2.1, aA.2.2, 2, s_l1.2.2.1)) (ifB (aA.1 == 1) (bnd (zDD (Src.mk a0.code aA.2.1 aA.2.2) (w64 (x7.1 + 1))) fun aB => chk (s_l1.2.2.1.length + ([(Race.mk aB.1.Finishes)] : List Race).length < 1099511627776) (zCh x7 (aB.2.1, aB.2.2, aC.1, s_l1.2.2.1 ++ ([(Race.mk aB.1.Finishes)] : List Race)))) (ifB (aA.1 == 2) (bnd (zAO (zDP a0 x7) (aA.2.1, aA.2.2, s_l1.2.2.1)) fun o => zBh o (fun x => some x) (fun s => zDO a0 x7 aC s)) (zCh x7 (aA.2.1, aA.2.2, aC.1, s_l1.2.2.1))))
def zCJ (a0 : Src) (x7 : (Int) × (Int × Int)) (s_l1 : Int × Int × (List Race) × Int) : Option (Stp ((Series) × (Int × Int)) (Int × Int × (List Race) × Int)) :=
  ifB (decide (0 < s_l1.2.2.2)) (bnd (zDD (Src.mk a0.code s_l1.1 s_l1.2.1) x7.1) fun aA => chk (s_l1.2.2.1.length + ([(Race.mk aA.1.Finishes)] : List Race).length < 1099511627776) (some (.cont (aA.2.1, aA.2.2, s_l1.2.2.1 ++ ([(Race.mk aA.1.Finishes)] : List Race), w64 (s_l1.2.2.2 - 1))))) (some (.brk (s_l1.1, s_l1.2.1, s_l1.2.2.1, s_l1.2.2.2)))
def zGT (a0 : Src) : Option ((Series) × (Int × Int)) :=
  bnd (zHq (Src.mk a0.code a0.at_ a0.seed)) fun x7 => bnd (zAE (Src.mk a0.code x7.2.1 x7.2.2) 2) fun aA => bnd (zAE (Src.mk a0.code aA.2.1 aA.2.2) 7) fun aB => bnd (zAO (zCJ a0 x7) (aB.2.1, aB.2.2, ([] : List Race), aB.1)) fun o => zBh o (fun x => some x) (fun s => zDQ a0 x7 aA s)
def zF3 (s_l1 : Int) : Option Bool :=
  some true
def zF4 (a0 : Series) (s_l1 : Int) : Option (Stp Bool Int) :=
  ifB (decide (s_l1 < (a0.Races.length : Int))) (bnd (idx a0.Races s_l1) fun aA => bnd (zIt a0.Boats aA) fun aB => ifB (!aB) (some (.ret false)) (some (.cont (w64 (s_l1 + 1))))) (some (.brk s_l1))
def zEI (a0 : Series) (s_j1 : Bool) : Option Bool :=
  ifB s_j1 (some false) (bnd (zAO (zF4 a0) 0) fun o => zBh o (fun x => some x) (fun s => zF3 s))
def zGA (a0 : Series) : Option Bool :=
  bnd (zBt a0.Boats 1 16) fun aB => ifB (!aB) (zEI a0 true) (bnd (zBt a0.Scheme 0 1) fun aA => ifB (!aA) (zEI a0 true) (zEI a0 (decide (12 < (a0.Races.length : Int)))))
def zF5 (s_l1 : Int × Int × Int) : Option (Int × Int) :=
  some (s_l1.1, s_l1.2.1)
def zHU (s_l1 : Int × Int × Int) (s_j1 : Int × Int) : Option (Stp (Int × Int) (Int × Int × Int)) :=
  some (.cont (s_j1.1, s_j1.2, w64 (s_l1.2.2 + 1)))
def zEJ (s_l1 : Int × Int × Int) (s_j2 : Int × Int) : Option (Stp (Int × Int) (Int × Int × Int)) :=
  zHU s_l1 (s_j2.1, s_j2.2)
def zF6 (a0 : Race) (a2 : Int) (s_l1 : Int × Int × Int) (aA : Finish) (s_j4 : Int) : Option (Stp (Int × Int) (Int × Int × Int)) :=
  bnd (idx a0.Finishes a2) fun aB => ifB (aA.Time == aB.Time) (zEJ s_l1 (s_j4, w64 (s_l1.2.1 + 1))) (zEJ s_l1 (s_j4, s_l1.2.1))
def zF7 (a0 : Race) (a2 : Int) (s_l1 : Int × Int × Int) (aA : Finish) (s_j3 : Bool) : Option (Stp (Int × Int) (Int × Int × Int)) :=
  ifB s_j3 (zEJ s_l1 (s_l1.1, s_l1.2.1)) (bnd (idx a0.Finishes a2) fun aB => ifB (decide (aA.Time < aB.Time)) (zF6 a0 a2 s_l1 aA (w64 (s_l1.1 + 1))) (zF6 a0 a2 s_l1 aA s_l1.1))
def zF8 (a0 : Race) (a1 : List Int) (a2 : Int) (s_l1 : Int × Int × Int) : Option (Stp (Int × Int) (Int × Int × Int)) :=
  ifB (decide (s_l1.2.2 < (a0.Finishes.length : Int))) (bnd (idx a0.Finishes s_l1.2.2) fun aA => bnd (zHD aA) fun aB => ifB (!aB) (zF7 a0 a2 s_l1 aA true) (bnd (idx a1 s_l1.2.2) fun aC => bnd (idx a1 a2) fun aD => zF7 a0 a2 s_l1 aA (aC != aD))) (some (.brk (s_l1.1, s_l1.2.1, s_l1.2.2)))
def zH6 (a0 : Race) (a1 : List Int) (a2 : Int) : Option (Int × Int) :=
  bnd (zAO (zF8 a0 a1 a2) (1, 0, 0)) fun o => zBh o (fun x => some x) (fun s => zF5 s)
def zHr (s_l2 : (List Int) × Int) : Option (List Int) :=
  some s_l2.1
def zHs (s_l2 : (List Int) × Int) (s_j1 : (List Int)) : Option (Stp (List Int) ((List Int) × Int)) :=
  some (.cont (s_j1, w64 (s_l2.2 + 1)))
def zHt (s_l2 : (List Int) × Int) (s_j2 : (List Int)) : Option (Stp (List Int) ((List Int) × Int)) :=
  zHs s_l2 s_j2
def zDf (s_l2 : (List Int) × Int) (s_j3 : (List Int)) : Option (Stp (List Int) ((List Int) × Int)) :=
  zHt s_l2 s_j3
def zFw (a0 : Race) (s_l1 : Int × Int) (s_l2 : (List Int) × Int) (s_j4 : Bool) : Option (Stp (List Int) ((List Int) × Int)) :=
  ifB s_j4 (bnd (idx s_l2.1 s_l2.2) fun aA => zDf s_l2 (s_l2.1.set (s_l2.2 : Int).toNat (w64 (10 * (w64 ((a0.Finishes.length : Int) + 1)))))) (bnd (idx s_l2.1 s_l2.2) fun aB => zDf s_l2 (s_l2.1.set (s_l2.2 : Int).toNat (w64 (10 * (w64 (s_l1.1 + 1))))))
def zFx (a0 : Race) (a1 : Int) (s_l1 : Int × Int) (s_l2 : (List Int) × Int) : Option (Stp (List Int) ((List Int) × Int)) :=
  ifB (decide (s_l2.2 < (s_l2.1.length : Int))) (bnd (idx a0.Finishes s_l2.2) fun aA => ifB (aA.Code == 0) (bnd (zH6 a0 (List.replicate ((a0.Finishes.length : Int)).toNat (0 : Int)) s_l2.2) fun aB => bnd (idx s_l2.1 s_l2.2) fun aC => zDf s_l2 (s_l2.1.set (s_l2.2 : Int).toNat (w64 (5 * (w64 ((w64 ((w64 (2 * aB.1)) + aB.2)) - 1)))))) (ifB (aA.Code == 9) (zDf s_l2 s_l2.1) (ifB (aA.Code == 1) (zFw a0 s_l1 s_l2 true) (zFw a0 s_l1 s_l2 (a1 == 0))))) (some (.brk (s_l2.1, s_l2.2)))
def zFy (a0 : Race) (a1 : Int) (s_l1 : Int × Int) : Option (List Int) :=
  chk (0 ≤ (a0.Finishes.length : Int) ∧ (a0.Finishes.length : Int) < 1099511627776) (chk (0 ≤ (a0.Finishes.length : Int) ∧ (a0.Finishes.length : Int) < 1099511627776) (bnd (zAO (zFx a0 a1 s_l1) (List.replicate ((a0.Finishes.length : Int)).toNat (0 : Int), 0)) fun o => zBh o (fun x => some x) (fun s => zHr s)))
def zHu (s_l1 : Int × Int) (s_j5 : Int) : Option (Stp (List Int) (Int × Int)) :=
  some (.cont (s_j5, w64 (s_l1.2 + 1)))
def zFz (s_l1 : Int × Int) (s_j6 : Int) : Option (Stp (List Int) (Int × Int)) :=
  zHu s_l1 s_j6
def zFA (a0 : Race) (s_l1 : Int × Int) : Option (Stp (List Int) (Int × Int)) :=
  ifB (decide (s_l1.2 < (a0.Finishes.length : Int))) (bnd (idx a0.Finishes s_l1.2) fun aA => ifB (aA.Code != 1) (zFz s_l1 (w64 (s_l1.1 + 1))) (zFz s_l1 s_l1.1)) (some (.brk (s_l1.1, s_l1.2)))
def zFU (a0 : Race) (a1 : Int) : Option (List Int) :=
  bnd (zAO (zFA a0) (0, 0)) fun o => zBh o (fun x => some x) (fun s => zFy a0 a1 s)
def zEB (a0 : Src) (s_l1 : Int × Int × (List Int) × Int × Int) : Option (((List Int)) × (Int × Int)) :=
  bnd (zAE (Src.mk a0.code s_l1.1 s_l1.2.1) 30) fun aA => ifB (aA.1 == 0) (chk (s_l1.2.2.1.length + ([s_l1.2.2.2.1] : List Int).length < 1099511627776) (some (s_l1.2.2.1 ++ ([s_l1.2.2.2.1] : List Int), (aA.2.1, aA.2.2)))) (ifB (aA.1 == 1) (bnd (zAE (Src.mk a0.code aA.2.1 aA.2.2) 2) fun aB => some (([w64 (13 * aB.1)] : List Int), (aB.2.1, aB.2.2))) (ifB (aA.1 == 2) (some (([1, 2, 3, 4] : List Int), (aA.2.1, aA.2.2))) (some (s_l1.2.2.1, (aA.2.1, aA.2.2)))))
def zEC (a0 : Src) (s_l1 : Int × Int × (List Int) × Int × Int) : Option (Stp (((List Int)) × (Int × Int)) (Int × Int × (List Int) × Int × Int)) :=
  ifB (decide (0 < s_l1.2.2.2.2)) (bnd (zAE (Src.mk a0.code s_l1.1 s_l1.2.1) 4) fun aA => chk (s_l1.2.2.1.length + ([w64 ((w64 (s_l1.2.2.2.1 + 1)) + aA.1)] : List Int).length < 1099511627776) (some (.cont (aA.2.1, aA.2.2, s_l1.2.2.1 ++ ([w64 ((w64 (s_l1.2.2.2.1 + 1)) + aA.1)] : List Int), w64 ((w64 (s_l1.2.2.2.1 + 1)) + aA.1), w64 (s_l1.2.2.2.2 - 1))))) (some (.brk (s_l1.1, s_l1.2.1, s_l1.2.2.1, s_l1.2.2.2.1, s_l1.2.2.2.2)))
def zHV (a0 : Src) : Option (((List Int)) × (Int × Int)) :=
  bnd (zAE (Src.mk a0.code a0.at_ a0.seed) 4) fun x8 => bnd (zAO (zEC a0) (x8.2.1, x8.2.2, ([] : List Int), 0, x8.1)) fun o => zBh o (fun x => some x) (fun s => zEB a0 s)
def zD8 (s_j1 : Bool) : Option Bool :=
  some s_j1
def zE1 (a0 : Int) : Option Bool :=
  ifB (a0 == 6) (zD8 true) (ifB (a0 == 7) (zD8 true) (zD8 (a0 == 5)))
def zGB (a0 : Int) (a1 : Int) : Option Bool :=
  ifB (a0 == 1) (bnd (zE1 a1) fun x2 => some x2) (ifB (a0 == 2) (bnd (zBt a1 1 1000000000) fun x8 => some x8) (ifB (a0 == 3) (bnd (zBt a1 1 100) fun aA => some aA) (some false)))
def zEK (a1 : List Penalty) (s_l1 : Int) : Option Bool :=
  some (decide ((a1.length : Int) ≤ 60))
def zDE (s_l1 : Int) (s_j1 : Bool) : Option (Stp Bool Int) :=
  ifB s_j1 (some (.ret false)) (some (.cont (w64 (s_l1 + 1))))
def zDF (a0 : Series) (a1 : List Penalty) (s_l1 : Int) : Option (Stp Bool Int) :=
  ifB (decide (s_l1 < (a1.length : Int))) (bnd (idx a1 s_l1) fun aA => bnd (zBt aA.Race 0 (w64 ((a0.Races.length : Int) - 1))) fun aB => ifB (!aB) (zDE s_l1 true) (bnd (zBt aA.Boat 0 (w64 (a0.Boats - 1))) fun aC => ifB (!aC) (zDE s_l1 true) (bnd (zGB aA.Kind aA.Value) fun aD => zDE s_l1 (!aD)))) (some (.brk s_l1))
def zFp (a0 : Series) (a1 : List Penalty) : Option Bool :=
  bnd (zAO (zDF a0 a1) 0) fun o => zBh o (fun x => some x) (fun s => zEK a1 s)
def zIT (a0 : Int) : Option Bool :=
  bnd (zBr a0 0 1) fun x1 => some x1
def zEL (s_j1 : Bool) : Option Bool :=
  some s_j1
def zF9 (a0 : Series) (s_l1 : Int) : Option Bool :=
  bnd (zBr a0.Boats 1 16) fun aA => ifB aA (bnd (zIT a0.Scheme) fun aB => ifB aB (zEL (decide ((a0.Races.length : Int) ≤ 12))) (zEL false)) (zEL false)
def zGa (a0 : Series) (s_l1 : Int) : Option (Stp Bool Int) :=
  ifB (decide (s_l1 < (a0.Races.length : Int))) (bnd (idx a0.Races s_l1) fun aA => bnd (zIO a0.Boats aA) fun aB => ifB (!aB) (some (.ret false)) (some (.cont (w64 (s_l1 + 1))))) (some (.brk s_l1))
def zGC (a0 : Series) : Option Bool :=
  bnd (zAO (zGa a0) 0) fun o => zBh o (fun x => some x) (fun s => zF9 a0 s)
def zCK (s_j1 : Bool) : Option Bool :=
  some s_j1
def zDR (a0 : Int) : Option Bool :=
  ifB (a0 == 6) (zCK true) (ifB (a0 == 7) (zCK true) (zCK (a0 == 5)))
def zIH (a0 : Int) : Option Bool :=
  bnd (zBr a0 1 1000000000) fun x1 => some x1
def zFB (s_j1 : Bool) : Option Bool :=
  some s_j1
def zFV (a0 : Penalty) : Option Bool :=
  ifB (a0.Kind == 1) (bnd (zDR a0.Value) fun x4 => some x4) (ifB (a0.Kind == 2) (bnd (zIH a0.Value) fun aA => some aA) (ifB (a0.Kind == 3) (bnd (zBr a0.Value 1 100) fun aB => zFB aB) (zFB false)))
def zD9 (a1 : List Penalty) (s_l1 : Int) : Option Bool :=
  some (decide ((a1.length : Int) ≤ 60))
def zCV (s_l1 : Int) (s_j1 : Bool) : Option (Stp Bool Int) :=
  ifB s_j1 (some (.ret false)) (some (.cont (w64 (s_l1 + 1))))
def zFS (a0 : Series) (a1 : List Penalty) (s_l1 : Int) : Option (Stp Bool Int) :=
  ifB (decide (s_l1 < (a1.length : Int))) (bnd (idx a1 s_l1) fun aA => bnd (zBr aA.Race 0 (w64 ((a0.Races.length : Int) - 1))) fun aB => ifB (!aB) (zCV s_l1 true) (bnd (zBr aA.Boat 0 (w64 (a0.Boats - 1))) fun aC => ifB (!aC) (zCV s_l1 true) (bnd (zFV aA) fun aD => zCV s_l1 (!aD)))) (some (.brk s_l1))
def zFC (a0 : Series) (a1 : List Penalty) : Option Bool :=
  bnd (zAO (zFS a0 a1) 0) fun o => zBh o (fun x => some x) (fun s => zD9 a1 s)
def zHj (aA : (Int) × (Int × Int)) (aB : (Int) × (Int × Int)) (aC : (Int) × (Int × Int)) (s_j1 : Int × Int × Int) : Option ((Penalty) × (Int × Int)) :=
  some ((Penalty.mk aA.1 aB.1 (w64 (1 + aC.1)) s_j1.2.2), (s_j1.1, s_j1.2.1))
def zCu (aA : (Int) × (Int × Int)) (aB : (Int) × (Int × Int)) (aC : (Int) × (Int × Int)) (s_j2 : Int × Int × Int) : Option ((Penalty) × (Int × Int)) :=
  zHj aA aB aC (s_j2.1, s_j2.2.1, s_j2.2.2)
def zGy (a0 : Src) (a1 : Series) : Option ((Penalty) × (Int × Int)) :=
  bnd (zAE (Src.mk a0.code a0.at_ a0.seed) (max 1 (a1.Races.length : Int))) fun aB => bnd (zAE (Src.mk a0.code aB.2.1 aB.2.2) (max 1 a1.Boats)) fun aC => bnd (zAE (Src.mk a0.code aC.2.1 aC.2.2) 3) fun aA => ifB ((w64 (1 + aA.1)) == 1) (bnd (zAE (Src.mk a0.code aA.2.1 aA.2.2) 3) fun aD => bnd (idx ([6, 7, 5] : List Int) aD.1) fun aG => zCu aB aC aA (aD.2.1, aD.2.2, aG)) (ifB ((w64 (1 + aA.1)) == 2) (bnd (zAE (Src.mk a0.code aA.2.1 aA.2.2) 8) fun aE => zCu aB aC aA (aE.2.1, aE.2.2, w64 (1 + aE.1))) (ifB ((w64 (1 + aA.1)) == 3) (bnd (zAE (Src.mk a0.code aA.2.1 aA.2.2) 100) fun aF => zCu aB aC aA (aF.2.1, aF.2.2, w64 (1 + aF.1))) (zCu aB aC aA (aA.2.1, aA.2.2, 0))))
def zJf (x7 : (Series) × (Int × Int)) (s_j1 : Int × Int × (List Penalty)) : Option ((Series × (List Penalty)) × (Int × Int)) :=
  some ((x7.1, s_j1.2.2), (s_j1.1, s_j1.2.1))
def zCC (x7 : (Series) × (Int × Int)) (s_j2 : Int × Int × (List Penalty)) : Option ((Series × (List Penalty)) × (Int × Int)) :=
  zJf x7 (s_j2.1, s_j2.2.1, s_j2.2.2)
def zGU (a0 : Src) (x7 : (Series) × (Int × Int)) (s_l1 : Int × Int × (List Penalty) × Int) : Option ((Series × (List Penalty)) × (Int × Int)) :=
  ifB ((s_l1.2.2.1.length : Int) == 0) (some ((x7.1, s_l1.2.2.1), (s_l1.1, s_l1.2.1))) (bnd (zAE (Src.mk a0.code s_l1.1 s_l1.2.1) (s_l1.2.2.1.length : Int)) fun aB => bnd (zAE (Src.mk a0.code aB.2.1 aB.2.2) 24) fun aA => ifB (aA.1 == 0) (bnd (idx s_l1.2.2.1 aB.1) fun aC => zCC x7 (aA.2.1, aA.2.2, s_l1.2.2.1.set (aB.1 : Int).toNat (Penalty.mk (x7.1.Races.length : Int) aC.Boat aC.Kind aC.Value))) (ifB (aA.1 == 1) (bnd (idx s_l1.2.2.1 aB.1) fun aD => zCC x7 (aA.2.1, aA.2.2, s_l1.2.2.1.set (aB.1 : Int).toNat (Penalty.mk aD.Race x7.1.Boats aD.Kind aD.Value))) (ifB (aA.1 == 2) (bnd (zAE (Src.mk a0.code aA.2.1 aA.2.2) 2) fun aE => bnd (idx s_l1.2.2.1 aB.1) fun aF => zCC x7 (aE.2.1, aE.2.2, s_l1.2.2.1.set (aB.1 : Int).toNat (Penalty.mk aF.Race aF.Boat (w64 (4 * aE.1)) aF.Value))) (ifB (aA.1 == 3) (bnd (idx s_l1.2.2.1 aB.1) fun aG => zCC x7 (aA.2.1, aA.2.2, s_l1.2.2.1.set (aB.1 : Int).toNat (Penalty.mk aG.Race aG.Boat aG.Kind 0))) (ifB (aA.1 == 4) (bnd (idx s_l1.2.2.1 aB.1) fun aH => bnd (idx s_l1.2.2.1 aB.1) fun aI => bnd (idx s_l1.2.2.1 aB.1) fun aJ => zCC x7 (aA.2.1, aA.2.2, s_l1.2.2.1.set (aB.1 : Int).toNat (Penalty.mk aH.Race aI.Boat 2 1000000000))) (zCC x7 (aA.2.1, aA.2.2, s_l1.2.2.1)))))))
def zDm (a0 : Src) (x7 : (Series) × (Int × Int)) (s_l1 : Int × Int × (List Penalty) × Int) (s_j3 : Bool) : Option (Stp ((Series × (List Penalty)) × (Int × Int)) (Int × Int × (List Penalty) × Int)) :=
  ifB s_j3 (bnd (zGy (Src.mk a0.code s_l1.1 s_l1.2.1) x7.1) fun aA => chk (s_l1.2.2.1.length + ([aA.1] : List Penalty).length < 1099511627776) (some (.cont (aA.2.1, aA.2.2, s_l1.2.2.1 ++ ([aA.1] : List Penalty), w64 (s_l1.2.2.2 - 1))))) (some (.brk (s_l1.1, s_l1.2.1, s_l1.2.2.1, s_l1.2.2.2)))
def zEa (a0 : Src) (x7 : (Series) × (Int × Int)) (s_l1 : Int × Int × (List Penalty) × Int) : Option (Stp ((Series × (List Penalty)) × (Int × Int)) (Int × Int × (List Penalty) × Int)) :=
  ifB (decide (0 < s_l1.2.2.2)) (zDm a0 x7 s_l1 (decide (0 < (x7.1.Races.length : Int)))) (zDm a0 x7 s_l1 false)
def zJg (a0 : Src) : Option ((Series × (List Penalty)) × (Int × Int)) :=
  bnd (zGT (Src.mk a0.code a0.at_ a0.seed)) fun x7 => bnd (zAE (Src.mk a0.code x7.2.1 x7.2.2) 6) fun aA => bnd (zAO (zEa a0 x7) (aA.2.1, aA.2.2, ([] : List Penalty), aA.1)) fun o => zBh o (fun x => some x) (fun s => zGU a0 x7 s)
def zEM (a0 : Series) (a1 : List Penalty) : Option Int :=
  bnd (zGC a0) fun x7 => ifB (!x7) (some 1) (bnd (zFC a0 a1) fun aA => ifB (!aA) (some 2) (some 0))
def zFW (a0 : Series) (a1 : List Penalty) : Option Int :=
  bnd (zGA a0) fun x7 => ifB (!x7) (some 1) (bnd (zFp a0 a1) fun aA => ifB (!aA) (some 2) (some 0))
def zE2 (s_l1 : Int × Int) : Option Int :=
  some (w64 (10 * (w64 (s_l1.1 + 1))))
def zGV (s_l1 : Int × Int) (s_j1 : Int) : Option (Stp Int (Int × Int)) :=
  some (.cont (s_j1, w64 (s_l1.2 + 1)))
def zE3 (s_l1 : Int × Int) (s_j2 : Int) : Option (Stp Int (Int × Int)) :=
  zGV s_l1 s_j2
def zDS (s_l1 : Int × Int) (s_j3 : Bool) : Option (Stp Int (Int × Int)) :=
  ifB s_j3 (zE3 s_l1 (w64 (s_l1.1 - 1))) (zE3 s_l1 s_l1.1)
def zE4 (a0 : List Finish) (a1 : Int) (a2 : Int) (s_l1 : Int × Int) : Option (Stp Int (Int × Int)) :=
  ifB (decide (s_l1.2 < (a0.length : Int))) (bnd (idx a0 s_l1.2) fun aA => ifB (aA.Code == 1) (ifB (a1 != 1) (zDS s_l1 (a2 == 1)) (zDS s_l1 false)) (zDS s_l1 false)) (some (.brk (s_l1.1, s_l1.2)))
def zEb (a0 : List Finish) (a1 : Int) (a2 : Int) : Option Int :=
  ifB (a1 == 9) (some 0) (bnd (zAO (zE4 a0 a1 a2) ((a0.length : Int), 0)) fun o => zBh o (fun x => some x) (fun s => zE2 s))
def zDT (a0 : Int) (a1 : Int) : Option Int :=
  some (w64 ((w64 ((w64 ((w64 (20 * a0)) * a1)) + 100)).tdiv 200))
def zFi (a0 : Int) (a1 : Int) : Option Int :=
  some (w64 ((w64 ((w64 ((w64 (20 * a0)) * a1)) + 100)).tdiv 200))
def zH7 (a0 : Series) (a1 : Int) (a2 : Int) : Option Int :=
  bnd (idx a0.Races a1) fun aA => chk (([] : List Finish).length + aA.Finishes.length < 1099511627776) (bnd (idx (([] : List Finish) ++ aA.Finishes) a2) fun aD => bnd (zFU (Race.mk ((([] : List Finish) ++ aA.Finishes).set (a2 : Int).toNat (Finish.mk a2 4 0))) a0.Scheme) fun aB => bnd (idx aB a2) fun aC => some aC)
def zDq (a0 : List UInt8) : Option (Series × (List Penalty) × (List Int) × Int) :=
  bnd (zHB a0) fun x5 => bnd (zJg (Src.mk a0 x5.1 x5.2)) fun aA => bnd (zHV (Src.mk a0 aA.2.1 aA.2.2)) fun aB => bnd (zAE (Src.mk a0 aB.2.1 aB.2.2) (max 1 aA.1.1.Boats)) fun aC => bnd (zAE (Src.mk a0 aC.2.1 aC.2.2) 24) fun aD => some (aA.1.1, aA.1.2, aB.1, w64 (aC.1 + (w64 (16 * (w64 (aD.1.tdiv 23))))))
def zHW (s_l1 : Int) : Option Bool :=
  some true
def zGb (s_l1 : Int) (s_l2 : Int) : Option (Stp Bool Int) :=
  some (.cont (w64 (s_l1 + 1)))
def zGc (s_l2 : Int) (s_j3 : Bool) : Option (Stp Bool Int) :=
  ifB s_j3 (some (.ret false)) (some (.cont (w64 (s_l2 + 1))))
def zEN (a2 : List Statement) (s_l1 : Int) (aA : Statement) (s_l2 : Int) : Option (Stp Bool Int) :=
  ifB (decide (s_l2 < s_l1)) (bnd (idx a2 s_l2) fun aB => ifB (aB.Speaker == aA.Speaker) (bnd (idx a2 s_l2) fun aC => zGc s_l2 (aC.Fact == aA.Fact)) (zGc s_l2 false)) (some (.brk s_l2))
def zCQ (a2 : List Statement) (s_l1 : Int) (aA : Statement) (s_j2 : Bool) : Option (Stp Bool Int) :=
  ifB s_j2 (some (.ret false)) (bnd (zAO (zEN a2 s_l1 aA) 0) fun o => zBh o (fun x => some (.ret x)) (fun s => zGb s_l1 s))
def zCl (a2 : List Statement) (s_l1 : Int) (aA : Statement) (s_j1 : Bool) : Option (Stp Bool Int) :=
  ifB s_j1 (some (.ret false)) (bnd (zBt aA.Fact 0 7) fun aB => ifB (!aB) (zCQ a2 s_l1 aA true) (ifB (aA.Says != 1) (zCQ a2 s_l1 aA (aA.Says != (-1))) (zCQ a2 s_l1 aA false)))
def zEO (a0 : Int) (a1 : Int) (a2 : List Statement) (s_l1 : Int) : Option (Stp Bool Int) :=
  ifB (decide (s_l1 < (a2.length : Int))) (bnd (idx a2 s_l1) fun aA => ifB (aA.Speaker != a0) (ifB (aA.Speaker != a1) (bnd (zBt aA.Speaker 100 199) fun aB => zCl a2 s_l1 aA (!aB)) (zCl a2 s_l1 aA false)) (zCl a2 s_l1 aA false)) (some (.brk s_l1))
def zH8 (a0 : Int) (a1 : Int) (a2 : List Statement) : Option Bool :=
  ifB (decide (60 < (a2.length : Int))) (some false) (bnd (zAO (zEO a0 a1 a2) 0) fun o => zBh o (fun x => some x) (fun s => zHW s))
def zIj (x5 : (Int) × (Int × Int)) (s_j1 : Int × Int × (List Statement)) (s_j2 : Int × Int × Int) : Option ((Int × Int × (List Statement)) × (Int × Int)) :=
  some ((x5.1, s_j2.2.2, s_j1.2.2), (s_j2.1, s_j2.2.1))
def zGW (a0 : Src) (x5 : (Int) × (Int × Int)) (aB : (Int) × (Int × Int)) (s_j1 : Int × Int × (List Statement)) : Option ((Int × Int × (List Statement)) × (Int × Int)) :=
  bnd (zAE (Src.mk a0.code s_j1.1 s_j1.2.1) 24) fun aA => ifB (aA.1 == 0) (zIj x5 s_j1 (aA.2.1, aA.2.2, x5.1)) (zIj x5 s_j1 (aA.2.1, aA.2.2, (w64 ((w64 (x5.1 + 1)) + aB.1)).tmod 5))
def zFj (a0 : Src) (x5 : (Int) × (Int × Int)) (aB : (Int) × (Int × Int)) (aA : (Int) × (Int × Int)) (s_j4 : (List Statement)) : Option ((Int × Int × (List Statement)) × (Int × Int)) :=
  zGW a0 x5 aB (aA.2.1, aA.2.2, s_j4)
def zGX (a0 : Src) (x5 : (Int) × (Int × Int)) (aF : (Int) × (Int × Int)) (s_l1 : Int × Int × (List Statement) × Int) (s_j3 : Int × Int × Bool) : Option ((Int × Int × (List Statement)) × (Int × Int)) :=
  ifB s_j3.2.2 (bnd (zAE (Src.mk a0.code s_j3.1 s_j3.2.1) (s_l1.2.2.1.length : Int)) fun aA => bnd (zAE (Src.mk a0.code aA.2.1 aA.2.2) 3) fun aB => ifB (aB.1 == 0) (bnd (idx s_l1.2.2.1 aA.1) fun aC => zFj a0 x5 aF aB (s_l1.2.2.1.set (aA.1 : Int).toNat (Statement.mk aC.Speaker aC.Fact 0))) (ifB (aB.1 == 1) (bnd (idx s_l1.2.2.1 aA.1) fun aD => zFj a0 x5 aF aB (s_l1.2.2.1.set (aA.1 : Int).toNat (Statement.mk aD.Speaker 8 aD.Says))) (ifB (aB.1 == 2) (bnd (idx s_l1.2.2.1 aA.1) fun aE => zFj a0 x5 aF aB (s_l1.2.2.1.set (aA.1 : Int).toNat (Statement.mk 50 aE.Fact aE.Says))) (zFj a0 x5 aF aB s_l1.2.2.1)))) (zGW a0 x5 aF (s_j3.1, s_j3.2.1, s_l1.2.2.1))
def zGY (a0 : Src) (x5 : (Int) × (Int × Int)) (aB : (Int) × (Int × Int)) (s_l1 : Int × Int × (List Statement) × Int) : Option ((Int × Int × (List Statement)) × (Int × Int)) :=
  ifB (decide (0 < (s_l1.2.2.1.length : Int))) (bnd (zAE (Src.mk a0.code s_l1.1 s_l1.2.1) 16) fun aA => zGX a0 x5 aB s_l1 (aA.2.1, aA.2.2, aA.1 == 0)) (zGX a0 x5 aB s_l1 (s_l1.1, s_l1.2.1, false))
def zGZ (s_l1 : Int × Int × (List Statement) × Int) (s_j5 : Int × Int × (List Statement)) : Option (Stp ((Int × Int × (List Statement)) × (Int × Int)) (Int × Int × (List Statement) × Int)) :=
  some (.cont (s_j5.1, s_j5.2.1, s_j5.2.2, w64 (s_l1.2.2.2 - 1)))
def zFk (s_l1 : Int × Int × (List Statement) × Int) (s_j6 : Int × Int × (List Statement)) : Option (Stp ((Int × Int × (List Statement)) × (Int × Int)) (Int × Int × (List Statement) × Int)) :=
  zGZ s_l1 (s_j6.1, s_j6.2.1, s_j6.2.2)
def zEc (s_l1 : Int × Int × (List Statement) × Int) (aA : Int) (aB : (Int) × (Int × Int)) (aC : (Int) × (Int × Int)) (s_j7 : Int × Int × Bool) : Option (Stp ((Int × Int × (List Statement)) × (Int × Int)) (Int × Int × (List Statement) × Int)) :=
  ifB s_j7.2.2 (chk (s_l1.2.2.1.length + ([(Statement.mk aA aB.1 (w64 ((w64 (2 * aC.1)) - 1)))] : List Statement).length < 1099511627776) (zFk s_l1 (s_j7.1, s_j7.2.1, s_l1.2.2.1 ++ ([(Statement.mk aA aB.1 (w64 ((w64 (2 * aC.1)) - 1)))] : List Statement)))) (zFk s_l1 (s_j7.1, s_j7.2.1, s_l1.2.2.1))
def zG0 (a0 : Src) (x5 : (Int) × (Int × Int)) (aG : (Int) × (Int × Int)) (s_l1 : Int × Int × (List Statement) × Int) : Option (Stp ((Int × Int × (List Statement)) × (Int × Int)) (Int × Int × (List Statement) × Int)) :=
  ifB (decide (0 < s_l1.2.2.2)) (bnd (zAE (Src.mk a0.code s_l1.1 s_l1.2.1) 5) fun aD => bnd (idx ([x5.1, (w64 ((w64 (x5.1 + 1)) + aG.1)).tmod 5, 100, 101, 199] : List Int) aD.1) fun aC => bnd (zAE (Src.mk a0.code aD.2.1 aD.2.2) 4) fun aB => bnd (zAE (Src.mk a0.code aB.2.1 aB.2.2) 2) fun aA => chk (([] : List Statement).length + s_l1.2.2.1.length < 1099511627776) (chk ((([] : List Statement) ++ s_l1.2.2.1).length + ([(Statement.mk aC aB.1 (w64 ((w64 (2 * aA.1)) - 1)))] : List Statement).length < 1099511627776) (bnd (zH8 x5.1 ((w64 ((w64 (x5.1 + 1)) + aG.1)).tmod 5) ((([] : List Statement) ++ s_l1.2.2.1) ++ ([(Statement.mk aC aB.1 (w64 ((w64 (2 * aA.1)) - 1)))] : List Statement))) fun aF => ifB aF (zEc s_l1 aC aB aA (aA.2.1, aA.2.2, true)) (bnd (zAE (Src.mk a0.code aA.2.1 aA.2.2) 60) fun aE => zEc s_l1 aC aB aA (aE.2.1, aE.2.2, aE.1 == 0))))) (some (.brk (s_l1.1, s_l1.2.1, s_l1.2.2.1, s_l1.2.2.2)))
def zJh (a0 : Src) : Option ((Int × Int × (List Statement)) × (Int × Int)) :=
  bnd (zAE (Src.mk a0.code a0.at_ a0.seed) 5) fun x5 => bnd (zAE (Src.mk a0.code x5.2.1 x5.2.2) 4) fun aA => bnd (zAE (Src.mk a0.code aA.2.1 aA.2.2) 14) fun aB => bnd (zAO (zG0 a0 x5 aA) (aB.2.1, aB.2.2, ([] : List Statement), aB.1)) fun o => zBh o (fun x => some x) (fun s => zGY a0 x5 aA s)
def zDU (a0 : List UInt8) : Option (Int × Int × Int × Int × Int) :=
  bnd (zHB a0) fun x3 => bnd (zJh (Src.mk a0 x3.1 x3.2)) fun x9 => bnd (zAE (Src.mk a0 x9.2.1 x9.2.2) 13) fun aA => bnd (zAE (Src.mk a0 aA.2.1 aA.2.2) 24) fun aB => bnd (zAE (Src.mk a0 aB.2.1 aB.2.2) 4) fun aC => bnd (zAE (Src.mk a0 aC.2.1 aC.2.2) 24) fun aD => bnd (zAE (Src.mk a0 aD.2.1 aD.2.2) 7) fun aE => bnd (idx ([6, 7, 5, 4] : List Int) (w64 (aE.1.tdiv 2))) fun aF => some (w64 (aA.1 - (w64 (aB.1.tdiv 23))), x9.1.1, x9.1.2.1, w64 (aC.1 + (w64 (aD.1.tdiv 23))), aF)
def zDV (s_j1 : Bool) : Option Bool :=
  some s_j1
def zG1 (a0 : Int) (a1 : Int) : Option Bool :=
  bnd (zD3 a0) fun aA => ifB aA (bnd (zD3 a1) fun aB => ifB aB (zDV (a0 != a1)) (zDV false)) (zDV false)
def zII (a0 : Int) : Option Bool :=
  bnd (zBr a0 0 3) fun x1 => some x1
def zCv (a0 : Int) (a1 : Int) (a2 : Int) (s_j1 : Bool) : Option ((List Int) × Int) :=
  ifB s_j1 (some ([], 2)) (ifB (a2 == 1) (some (([a1] : List Int), 0)) (ifB (a2 == 2) (some (([a0] : List Int), 0)) (ifB (a2 == 3) (some (([min a0 a1, max a0 a1] : List Int), 0)) (some ([], 0)))))
def zED (a0 : Int) (a1 : Int) (a2 : Int) : Option ((List Int) × Int) :=
  bnd (zG1 a0 a1) fun aA => ifB (!aA) (zCv a0 a1 a2 true) (bnd (zII a2) fun aB => zCv a0 a1 a2 (!aB))
def zEd (s_l1 : (List Penalty) × Int) : Option ((List Penalty) × Int) :=
  some (s_l1.1, 0)
def zCW (a0 : Int) (a4 : Int) (x1 : (List Int) × Int) (s_l1 : (List Penalty) × Int) : Option (Stp ((List Penalty) × Int) ((List Penalty) × Int)) :=
  ifB (decide (s_l1.2 < (x1.1.length : Int))) (bnd (idx x1.1 s_l1.2) fun aA => chk (s_l1.1.length + ([(Penalty.mk a0 aA 1 a4)] : List Penalty).length < 1099511627776) (some (.cont (s_l1.1 ++ ([(Penalty.mk a0 aA 1 a4)] : List Penalty), w64 (s_l1.2 + 1))))) (some (.brk (s_l1.1, s_l1.2)))
def zCX (a0 : Int) (a4 : Int) (x1 : (List Int) × Int) (s_j1 : Bool) : Option ((List Penalty) × Int) :=
  ifB s_j1 (some ([], 2)) (bnd (zAO (zCW a0 a4 x1) (([] : List Penalty), 0)) fun o => zBh o (fun x => some x) (fun s => zEd s))
def zFD (a0 : Int) (a1 : Int) (a2 : Int) (a3 : Int) (a4 : Int) : Option ((List Penalty) × Int) :=
  bnd (zED a1 a2 a3) fun x1 => ifB (x1.2 != 0) (zCX a0 a4 x1 true) (bnd (zBr a0 0 11) fun aB => ifB (!aB) (zCX a0 a4 x1 true) (bnd (zDR a4) fun aA => zCX a0 a4 x1 (!aA)))
def zCR (s_j1 : Bool) : Option Bool :=
  some s_j1
def zEe (a0 : Int) (a1 : Int) : Option Bool :=
  bnd (zBt a0 0 15) fun aA => ifB aA (bnd (zBt a1 0 15) fun aB => ifB aB (zCR (a0 != a1)) (zCR false)) (zCR false)
def zCw (a0 : Int) (a1 : Int) (a2 : Int) (s_j1 : Bool) : Option ((List Int) × Int) :=
  ifB s_j1 (some ([], 2)) (ifB (a2 == 1) (some (([a1] : List Int), 0)) (ifB (a2 == 2) (some (([a0] : List Int), 0)) (ifB (a2 == 3) (some (([min a0 a1, max a0 a1] : List Int), 0)) (some (([] : List Int), 0)))))
def zEE (a0 : Int) (a1 : Int) (a2 : Int) : Option ((List Int) × Int) :=
  bnd (zEe a0 a1) fun aA => ifB (!aA) (zCw a0 a1 a2 true) (bnd (zBt a2 0 3) fun aB => zCw a0 a1 a2 (!aB))
def zEf (s_l1 : (List Penalty) × Int) : Option ((List Penalty) × Int) :=
  some (s_l1.1, 0)
def zHX (a0 : Int) (a4 : Int) (aA : (List Int) × Int) (s_l1 : (List Penalty) × Int) : Option (Stp ((List Penalty) × Int) ((List Penalty) × Int)) :=
  ifB (decide (s_l1.2 < (aA.1.length : Int))) (bnd (idx aA.1 s_l1.2) fun aB => chk (s_l1.1.length + ([(Penalty.mk a0 aB 1 a4)] : List Penalty).length < 1099511627776) (some (.cont (s_l1.1 ++ ([(Penalty.mk a0 aB 1 a4)] : List Penalty), w64 (s_l1.2 + 1))))) (some (.brk (s_l1.1, s_l1.2)))
def zEg (a0 : Int) (a1 : Int) (a2 : Int) (a3 : Int) (a4 : Int) (s_j1 : Bool) : Option ((List Penalty) × Int) :=
  ifB s_j1 (some ([], 2)) (bnd (zEE a1 a2 a3) fun aA => ifB (aA.2 != 0) (some ([], 2)) (bnd (zAO (zHX a0 a4 aA) (([] : List Penalty), 0)) fun o => zBh o (fun x => some x) (fun s => zEf s)))
def zFE (a0 : Int) (a1 : Int) (a2 : Int) (a3 : Int) (a4 : Int) : Option ((List Penalty) × Int) :=
  bnd (zBt a0 0 11) fun aB => ifB (!aB) (zEg a0 a1 a2 a3 a4 true) (bnd (zE1 a4) fun aA => zEg a0 a1 a2 a3 a4 (!aA))
end Go.Proofs.YtmmkkcmliofknaaGreatDoor
