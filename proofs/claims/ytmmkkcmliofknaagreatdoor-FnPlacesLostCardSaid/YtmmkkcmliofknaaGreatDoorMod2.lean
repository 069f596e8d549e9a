/- More models of the functions, printed by my generator. -/
import Derived.Test.YtmmkkcmliofknaaGreatDoorMod
import Derived.Test.YtmmkkcmliofknaaGreatDoorBase5
namespace Go.Proofs.YtmmkkcmliofknaaGreatDoor
open Go Go.RowKit Go.ChangeShapes Go.WideShapes
set_option linter.unusedVariables false
set_option linter.unusedSimpArgs false

def zHY (s_l1 : (List Int) × (List Int) × Int) : Option ((List Int) × (List Int)) :=
  some (s_l1.1, s_l1.2.1)
def zGd (s_l1 : (List Int) × (List Int) × Int) (s_j1 : (List Int) × (List Int)) : Option (Stp ((List Int) × (List Int)) ((List Int) × (List Int) × Int)) :=
  some (.cont (s_j1.1, s_j1.2, w64 (s_l1.2.2 + 1)))
def zEP (s_l1 : (List Int) × (List Int) × Int) (s_j2 : (List Int) × (List Int)) : Option (Stp ((List Int) × (List Int)) ((List Int) × (List Int) × Int)) :=
  zGd s_l1 (s_j2.1, s_j2.2)
def zGe (s_l1 : (List Int) × (List Int) × Int) (s_l2 : (List Int) × (List Int) × Int) : Option (Stp ((List Int) × (List Int)) ((List Int) × (List Int) × Int)) :=
  zEP s_l1 (s_l2.1, s_l2.2.1)
def zHZ (s_l2 : (List Int) × (List Int) × Int) (s_j3 : (List Int) × (List Int)) : Option (Stp ((List Int) × (List Int)) ((List Int) × (List Int) × Int)) :=
  some (.cont (s_j3.1, s_j3.2, w64 (s_l2.2.2 + 1)))
def zEQ (s_l2 : (List Int) × (List Int) × Int) (s_j4 : (List Int) × (List Int)) : Option (Stp ((List Int) × (List Int)) ((List Int) × (List Int) × Int)) :=
  zHZ s_l2 (s_j4.1, s_j4.2)
def zGf (s_l1 : (List Int) × (List Int) × Int) (s_l2 : (List Int) × (List Int) × Int) (s_j6 : Bool) : Option (Stp ((List Int) × (List Int)) ((List Int) × (List Int) × Int)) :=
  ifB s_j6 (bnd (idx s_l2.2.1 s_l1.2.2) fun aA => bnd (idx s_l2.2.1 s_l1.2.2) fun aB => zEQ s_l2 (s_l2.1, s_l2.2.1.set (s_l1.2.2 : Int).toNat (w64 (aA + 1)))) (zEQ s_l2 (s_l2.1, s_l2.2.1))
def zGg (s_l1 : (List Int) × (List Int) × Int) (aB : Finish) (s_l2 : (List Int) × (List Int) × Int) (aA : Finish) (s_j5 : Bool) : Option (Stp ((List Int) × (List Int)) ((List Int) × (List Int) × Int)) :=
  ifB s_j5 (bnd (idx s_l2.1 s_l1.2.2) fun aC => bnd (idx s_l2.1 s_l1.2.2) fun aD => zEQ s_l2 (s_l2.1.set (s_l1.2.2 : Int).toNat (w64 (aC + 1)), s_l2.2.1)) (ifB (aA.Code == 0) (zGf s_l1 s_l2 (aA.Time == aB.Time)) (zGf s_l1 s_l2 false))
def zGh (a0 : List Finish) (s_l1 : (List Int) × (List Int) × Int) (aB : Finish) (s_l2 : (List Int) × (List Int) × Int) : Option (Stp ((List Int) × (List Int)) ((List Int) × (List Int) × Int)) :=
  ifB (decide (s_l2.2.2 < (a0.length : Int))) (bnd (idx a0 s_l2.2.2) fun aA => ifB (aA.Code == 0) (zGg s_l1 aB s_l2 aA (decide (aA.Time < aB.Time))) (zGg s_l1 aB s_l2 aA false)) (some (.brk (s_l2.1, s_l2.2.1, s_l2.2.2)))
def zGi (a0 : List Finish) (s_l1 : (List Int) × (List Int) × Int) : Option (Stp ((List Int) × (List Int)) ((List Int) × (List Int) × Int)) :=
  ifB (decide (s_l1.2.2 < (a0.length : Int))) (bnd (idx a0 s_l1.2.2) fun aA => ifB (aA.Code != 0) (zEP s_l1 (s_l1.1, s_l1.2.1)) (bnd (idx s_l1.1 s_l1.2.2) fun aB => bnd (zAO (zGh a0 s_l1 aA) (s_l1.1.set (s_l1.2.2 : Int).toNat 1, s_l1.2.1, 0)) fun o => zBh o (fun x => some (.ret x)) (fun s => zGe s_l1 s))) (some (.brk (s_l1.1, s_l1.2.1, s_l1.2.2)))
def zH9 (a0 : List Finish) : Option ((List Int) × (List Int)) :=
  chk (0 ≤ (a0.length : Int) ∧ (a0.length : Int) < 1099511627776) (chk (0 ≤ (a0.length : Int) ∧ (a0.length : Int) < 1099511627776) (bnd (zAO (zGi a0) (List.replicate ((a0.length : Int)).toNat (0 : Int), List.replicate ((a0.length : Int)).toNat (0 : Int), 0)) fun o => zBh o (fun x => some x) (fun s => zHY s)))
def zG2 (s_l1 : (List Int) × Int) : Option (List Int) :=
  some s_l1.1
def zG3 (s_l1 : (List Int) × Int) (s_j1 : (List Int)) : Option (Stp (List Int) ((List Int) × Int)) :=
  some (.cont (s_j1, w64 (s_l1.2 + 1)))
def zE5 (s_l1 : (List Int) × Int) (s_j2 : (List Int)) : Option (Stp (List Int) ((List Int) × Int)) :=
  zG3 s_l1 s_j2
def zE6 (a0 : List Finish) (a1 : Int) (x3 : (List Int) × (List Int)) (s_l1 : (List Int) × Int) : Option (Stp (List Int) ((List Int) × Int)) :=
  ifB (decide (s_l1.2 < (a0.length : Int))) (bnd (idx a0 s_l1.2) fun aA => ifB (aA.Code == 0) (bnd (idx x3.1 s_l1.2) fun aB => bnd (idx x3.2 s_l1.2) fun aC => chk (s_l1.1.length + ([w64 (5 * (w64 ((w64 ((w64 (2 * aB)) + aC)) - 1)))] : List Int).length < 1099511627776) (zE5 s_l1 (s_l1.1 ++ ([w64 (5 * (w64 ((w64 ((w64 (2 * aB)) + aC)) - 1)))] : List Int)))) (bnd (zEb a0 aA.Code a1) fun aD => chk (s_l1.1.length + ([aD] : List Int).length < 1099511627776) (zE5 s_l1 (s_l1.1 ++ ([aD] : List Int))))) (some (.brk (s_l1.1, s_l1.2)))
def zG4 (a0 : List Finish) (a1 : Int) : Option (List Int) :=
  bnd (zH9 a0) fun x3 => bnd (zAO (zE6 a0 a1 x3) (([] : List Int), 0)) fun o => zBh o (fun x => some x) (fun s => zG2 s)
def zIk (a0 : Series) (s_l1 : (List (List Int)) × (List (List Int)) × Int) : Option Table :=
  some (Table.mk a0.Boats s_l1.1 s_l1.2.1)
def zG5 (a0 : Series) (s_l1 : (List (List Int)) × (List (List Int)) × Int) (aB : Race) (s_l2 : (List Int) × Int) : Option (Stp Table ((List (List Int)) × (List (List Int)) × Int)) :=
  bnd (zG4 aB.Finishes a0.Scheme) fun aA => chk (s_l1.1.length + ([aA] : List (List Int)).length < 1099511627776) (chk (s_l1.2.1.length + ([s_l2.1] : List (List Int)).length < 1099511627776) (some (.cont (s_l1.1 ++ ([aA] : List (List Int)), s_l1.2.1 ++ ([s_l2.1] : List (List Int)), w64 (s_l1.2.2 + 1)))))
def zG6 (aB : Race) (s_l2 : (List Int) × Int) : Option (Stp Table ((List Int) × Int)) :=
  ifB (decide (s_l2.2 < (aB.Finishes.length : Int))) (bnd (idx aB.Finishes s_l2.2) fun aA => chk (s_l2.1.length + ([aA.Code] : List Int).length < 1099511627776) (some (.cont (s_l2.1 ++ ([aA.Code] : List Int), w64 (s_l2.2 + 1))))) (some (.brk (s_l2.1, s_l2.2)))
def zG7 (a0 : Series) (s_l1 : (List (List Int)) × (List (List Int)) × Int) : Option (Stp Table ((List (List Int)) × (List (List Int)) × Int)) :=
  ifB (decide (s_l1.2.2 < (a0.Races.length : Int))) (bnd (idx a0.Races s_l1.2.2) fun aA => bnd (zAO (zG6 aA) (([] : List Int), 0)) fun o => zBh o (fun x => some (.ret x)) (fun s => zG5 a0 s_l1 aA s)) (some (.brk (s_l1.1, s_l1.2.1, s_l1.2.2)))
def zDs (a0 : Series) : Option Table :=
  bnd (zAO (zG7 a0) ([], [], 0)) fun o => zBh o (fun x => some x) (fun s => zIk a0 s)
def zJi (a0 : Series) : Option (Table × Int) :=
  bnd (zGC a0) fun x7 => ifB (!x7) (some ((Table.mk 0 [] []), 1)) (bnd (zDs a0) fun aA => some (aA, 0))
def zIl (a0 : Series) (s_l1 : (List (List Int)) × (List (List Int)) × Int) : Option (Table × Int) :=
  some ((Table.mk a0.Boats s_l1.1 s_l1.2.1), 0)
def zG8 (a0 : Series) (s_l1 : (List (List Int)) × (List (List Int)) × Int) (s_l2 : (List Int) × Int) : Option (Stp (Table × Int) ((List (List Int)) × (List (List Int)) × Int)) :=
  bnd (idx a0.Races s_l1.2.2) fun aB => bnd (zFU aB a0.Scheme) fun aA => chk (s_l1.1.length + ([aA] : List (List Int)).length < 1099511627776) (chk (s_l1.2.1.length + ([s_l2.1] : List (List Int)).length < 1099511627776) (some (.cont (s_l1.1 ++ ([aA] : List (List Int)), s_l1.2.1 ++ ([s_l2.1] : List (List Int)), w64 (s_l1.2.2 + 1)))))
def zG9 (a0 : Series) (s_l1 : (List (List Int)) × (List (List Int)) × Int) (s_l2 : (List Int) × Int) : Option (Stp (Table × Int) ((List Int) × Int)) :=
  bnd (idx a0.Races s_l1.2.2) fun aB => ifB (decide (s_l2.2 < (aB.Finishes.length : Int))) (bnd (idx a0.Races s_l1.2.2) fun aC => bnd (idx aC.Finishes s_l2.2) fun aA => chk (s_l2.1.length + ([aA.Code] : List Int).length < 1099511627776) (some (.cont (s_l2.1 ++ ([aA.Code] : List Int), w64 (s_l2.2 + 1))))) (some (.brk (s_l2.1, s_l2.2)))
def zHa (a0 : Series) (s_l1 : (List (List Int)) × (List (List Int)) × Int) : Option (Stp (Table × Int) ((List (List Int)) × (List (List Int)) × Int)) :=
  ifB (decide (s_l1.2.2 < (a0.Races.length : Int))) (bnd (zAO (zG9 a0 s_l1) (([] : List Int), 0)) fun o => zBh o (fun x => some (.ret x)) (fun s => zG8 a0 s_l1 s)) (some (.brk (s_l1.1, s_l1.2.1, s_l1.2.2)))
def zIv (a0 : Series) : Option (Table × Int) :=
  bnd (zGA a0) fun x7 => ifB (!x7) (some ((Table.mk 0 [] []), 1)) (bnd (zAO (zHa a0) (([] : List (List Int)), ([] : List (List Int)), 0)) fun o => zBh o (fun x => some x) (fun s => zIl a0 s))
def zCY (a0 : Int) (a1 : Int) (a2 : Int → Int → Option Int) : Option Int :=
  bnd (a2 a0 a1) fun x6 => bnd (zGN x6) fun aA => some aA
def zBX (s_l1 : (List Int) × Int) : Option ((Unit) × (List Int)) :=
  some ((), s_l1.1)
def zBF (s_l1 : (List Int) × Int) (s_l2 : (List Int) × Int) : Option (Stp ((Unit) × (List Int)) ((List Int) × Int)) :=
  some (.cont (s_l2.1, w64 (s_l1.2 + 1)))
def zBa (s_l2 : (List Int) × Int) (s_j1 : Bool) : Option (Stp ((Unit) × (List Int)) ((List Int) × Int)) :=
  ifB s_j1 (bnd (idx s_l2.1 (w64 (s_l2.2 - 1))) fun aA => bnd (idx s_l2.1 s_l2.2) fun aB => bnd (idx s_l2.1 s_l2.2) fun aC => bnd (idx (s_l2.1.set (s_l2.2 : Int).toNat aA) (w64 (s_l2.2 - 1))) fun aD => some (.cont ((s_l2.1.set (s_l2.2 : Int).toNat aA).set (w64 (s_l2.2 - 1) : Int).toNat aB, w64 (s_l2.2 - 1)))) (some (.brk (s_l2.1, s_l2.2)))
def zAV (a1 : Int) (a3 : Int → Int → Option Int) (s_l2 : (List Int) × Int) : Option (Stp ((Unit) × (List Int)) ((List Int) × Int)) :=
  ifB (decide (a1 < s_l2.2)) (bnd (idx s_l2.1 s_l2.2) fun aA => bnd (idx s_l2.1 (w64 (s_l2.2 - 1))) fun aB => bnd (a3 aA aB) fun aC => zBa s_l2 (decide (aC < 0))) (zBa s_l2 false)
def zA4 (a1 : Int) (a2 : Int) (a3 : Int → Int → Option Int) (s_l1 : (List Int) × Int) : Option (Stp ((Unit) × (List Int)) ((List Int) × Int)) :=
  ifB (decide (s_l1.2 < a2)) (bnd (zAO (zAV a1 a3) (s_l1.1, s_l1.2)) fun o => zBh o (fun x => some (.ret x)) (fun s => zBF s_l1 s)) (some (.brk (s_l1.1, s_l1.2)))
def zBj (a0 : List Int) (a1 : Int) (a2 : Int) (a3 : Int → Int → Option Int) : Option ((Unit) × (List Int)) :=
  bnd (zAO (zA4 a1 a2 a3) (a0, w64 (a1 + 1))) fun o => zBh o (fun x => some x) (fun s => zBX s)
def zB7 (aA : (Unit) × (List Int)) (s_l2 : Int) : Option ((Unit) × (List Int)) :=
  some ((), aA.2)
def zEh (s_l2 : Int) (s_j1 : Unit) : Option (Stp ((Unit) × (List Int)) Int) :=
  some (.cont (w64 (s_l2 * 2)))
def zCD (a1 : Int) (s_l2 : Int) (s_l3 : Unit) : Option (Stp ((Unit) × (List Int)) Int) :=
  ifB (decide ((w64 (0 + s_l2)) < a1)) (none) (zEh s_l2 ())
def zHb (a1 : Int) (s_l2 : Int) (s_l3 : Unit) : Option (Stp ((Unit) × (List Int)) Unit) :=
  ifB (decide ((w64 (2 * s_l2)) ≤ a1)) (none) (some (.brk ()))
def zCE (a1 : Int) (s_l2 : Int) : Option (Stp ((Unit) × (List Int)) Int) :=
  ifB (decide (s_l2 < a1)) (bnd (zAO (zHb a1 s_l2) ()) fun o => zBh o (fun x => some (.ret x)) (fun s => zCD a1 s_l2 s)) (some (.brk s_l2))
def zB8 (a1 : Int) (a2 : Int → Int → Option Int) (s_l1 : (List Int) × Int × Int) : Option ((Unit) × (List Int)) :=
  bnd (zBj s_l1.1 s_l1.2.1 a1 a2) fun aA => bnd (zAO (zCE a1) 20) fun o => zBh o (fun x => some x) (fun s => zB7 aA s)
def zCF (a1 : Int) (a2 : Int → Int → Option Int) (s_l1 : (List Int) × Int × Int) : Option (Stp ((Unit) × (List Int)) ((List Int) × Int × Int)) :=
  ifB (decide (s_l1.2.2 ≤ a1)) (bnd (zBj s_l1.1 s_l1.2.1 s_l1.2.2 a2) fun aA => some (.cont (aA.2, s_l1.2.2, w64 (s_l1.2.2 + 20)))) (some (.brk (s_l1.1, s_l1.2.1, s_l1.2.2)))
def zDn (a0 : List Int) (a1 : Int) (a2 : Int → Int → Option Int) : Option ((Unit) × (List Int)) :=
  bnd (zAO (zCF a1 a2) (a0, 0, 20)) fun o => zBh o (fun x => some x) (fun s => zB8 a1 a2 s)
def zBH (a0 : List Int) (a1 : Int → Int → Option Int) : Option ((Unit) × (List Int)) :=
  bnd (zDn a0 (a0.length : Int) a1) fun x8 => some ((), x8.2)
def zDW (a1 : Int → Int → Option Int) (s_l1 : (List Int) × Int) : Option (List Int) :=
  bnd (zBH s_l1.1 (fun y0 y1 => zCY y0 y1 a1)) fun aA => some aA.2
def zDX (a0 : Int) (s_l1 : (List Int) × Int) : Option (Stp (List Int) ((List Int) × Int)) :=
  ifB (decide (s_l1.2 < a0)) (chk (s_l1.1.length + ([s_l1.2] : List Int).length < 1099511627776) (some (.cont (s_l1.1 ++ ([s_l1.2] : List Int), w64 (s_l1.2 + 1))))) (some (.brk (s_l1.1, s_l1.2)))
def zE7 (a0 : Int) (a1 : Int → Int → Option Int) : Option (List Int) :=
  bnd (zAO (zDX a0) (([] : List Int), 0)) fun o => zBh o (fun x => some x) (fun s => zDW a1 s)
def zC4 (a0 : Series) (s_l3 : (List Race) × Int) : Option Series :=
  some (Series.mk a0.Boats a0.Scheme s_l3.1)
def zEu (s_l3 : (List Race) × Int) (s_j1 : (List Race)) : Option (Stp Series ((List Race) × Int)) :=
  some (.cont (s_j1, w64 (s_l3.2 + 1)))
def zC5 (s_l3 : (List Race) × Int) (s_j2 : (List Race)) : Option (Stp Series ((List Race) × Int)) :=
  zEu s_l3 s_j2
def zB3 (a1 : List Penalty) (s_l3 : (List Race) × Int) : Option (Stp Series ((List Race) × Int)) :=
  ifB (decide (s_l3.2 < (a1.length : Int))) (bnd (idx a1 s_l3.2) fun aA => ifB (aA.Kind == 1) (bnd (idx s_l3.1 aA.Race) fun aB => bnd (idx aB.Finishes aA.Boat) fun aC => zC5 s_l3 (s_l3.1.set (aA.Race : Int).toNat (Race.mk (aB.Finishes.set (aA.Boat : Int).toNat (Finish.mk aA.Boat aA.Value 0))))) (zC5 s_l3 s_l3.1)) (some (.brk (s_l3.1, s_l3.2)))
def zC6 (a0 : Series) (a1 : List Penalty) (s_l2 : (List Race) × Int) : Option Series :=
  bnd (zAO (zB3 a1) (s_l2.1, 0)) fun o => zBh o (fun x => some x) (fun s => zC4 a0 s)
def zEv (s_l2 : (List Race) × Int) (s_j3 : (List Race)) : Option (Stp Series ((List Race) × Int)) :=
  some (.cont (s_j3, w64 (s_l2.2 + 1)))
def zC7 (s_l2 : (List Race) × Int) (s_j4 : (List Race)) : Option (Stp Series ((List Race) × Int)) :=
  zEv s_l2 s_j4
def zC8 (s_l2 : (List Race) × Int) (aA : Penalty) (aC : Race) (aB : Finish) (s_j5 : Bool) : Option (Stp Series ((List Race) × Int)) :=
  ifB s_j5 (zC7 s_l2 (s_l2.1.set (aA.Race : Int).toNat (Race.mk (aC.Finishes.set (aA.Boat : Int).toNat (Finish.mk aB.Boat aB.Code (min 1000000000 (w64 (aB.Time + aA.Value)))))))) (zC7 s_l2 s_l2.1)
def zB4 (a1 : List Penalty) (s_l2 : (List Race) × Int) : Option (Stp Series ((List Race) × Int)) :=
  ifB (decide (s_l2.2 < (a1.length : Int))) (bnd (idx a1 s_l2.2) fun aA => bnd (idx s_l2.1 aA.Race) fun aB => bnd (idx aB.Finishes aA.Boat) fun aC => ifB (aA.Kind == 2) (zC8 s_l2 aA aB aC (aC.Code == 0)) (zC8 s_l2 aA aB aC false)) (some (.brk (s_l2.1, s_l2.2)))
def zC9 (a0 : Series) (a1 : List Penalty) (s_l1 : (List Race) × Int) : Option Series :=
  bnd (zAO (zB4 a1) (s_l1.1, 0)) fun o => zBh o (fun x => some x) (fun s => zC6 a0 a1 s)
def zDa (a0 : Series) (s_l1 : (List Race) × Int) : Option (Stp Series ((List Race) × Int)) :=
  ifB (decide (s_l1.2 < (a0.Races.length : Int))) (bnd (idx a0.Races s_l1.2) fun aA => chk (([] : List Finish).length + aA.Finishes.length < 1099511627776) (chk (s_l1.1.length + ([(Race.mk (([] : List Finish) ++ aA.Finishes))] : List Race).length < 1099511627776) (some (.cont (s_l1.1 ++ ([(Race.mk (([] : List Finish) ++ aA.Finishes))] : List Race), w64 (s_l1.2 + 1)))))) (some (.brk (s_l1.1, s_l1.2)))
def zEi (a0 : Series) (a1 : List Penalty) : Option Series :=
  bnd (zAO (zDa a0) ([], 0)) fun o => zBh o (fun x => some x) (fun s => zC9 a0 a1 s)
def zFF (a0 : Series) (s_l3 : (List Race) × Int) : Option Series :=
  some (Series.mk a0.Boats a0.Scheme s_l3.1)
def zHv (s_l3 : (List Race) × Int) (s_j1 : (List Race)) : Option (Stp Series ((List Race) × Int)) :=
  some (.cont (s_j1, w64 (s_l3.2 + 1)))
def zFG (s_l3 : (List Race) × Int) (s_j2 : (List Race)) : Option (Stp Series ((List Race) × Int)) :=
  zHv s_l3 s_j2
def zDg (a1 : List Penalty) (s_l3 : (List Race) × Int) : Option (Stp Series ((List Race) × Int)) :=
  ifB (decide (s_l3.2 < (a1.length : Int))) (bnd (idx a1 s_l3.2) fun aA => ifB (aA.Kind == 1) (bnd (idx s_l3.1 aA.Race) fun aB => bnd (idx aB.Finishes aA.Boat) fun aC => zFG s_l3 (s_l3.1.set (aA.Race : Int).toNat (Race.mk (aB.Finishes.set (aA.Boat : Int).toNat (Finish.mk aA.Boat aA.Value 0))))) (zFG s_l3 s_l3.1)) (some (.brk (s_l3.1, s_l3.2)))
def zFH (a0 : Series) (a1 : List Penalty) (s_l2 : (List Race) × Int) : Option Series :=
  bnd (zAO (zDg a1) (s_l2.1, 0)) fun o => zBh o (fun x => some x) (fun s => zFF a0 s)
def zHw (s_l2 : (List Race) × Int) (s_j3 : (List Race)) : Option (Stp Series ((List Race) × Int)) :=
  some (.cont (s_j3, w64 (s_l2.2 + 1)))
def zFI (s_l2 : (List Race) × Int) (s_j4 : (List Race)) : Option (Stp Series ((List Race) × Int)) :=
  zHw s_l2 s_j4
def zFJ (s_l2 : (List Race) × Int) (aA : Penalty) (aD : Finish) (s_j5 : Bool) : Option (Stp Series ((List Race) × Int)) :=
  ifB s_j5 (bnd (idx s_l2.1 aA.Race) fun aB => bnd (idx aB.Finishes aA.Boat) fun aC => zFI s_l2 (s_l2.1.set (aA.Race : Int).toNat (Race.mk (aB.Finishes.set (aA.Boat : Int).toNat (Finish.mk aC.Boat aC.Code (min 1000000000 (w64 (aD.Time + aA.Value)))))))) (zFI s_l2 s_l2.1)
def zDh (a1 : List Penalty) (s_l2 : (List Race) × Int) : Option (Stp Series ((List Race) × Int)) :=
  ifB (decide (s_l2.2 < (a1.length : Int))) (bnd (idx a1 s_l2.2) fun aA => bnd (idx s_l2.1 aA.Race) fun aC => bnd (idx aC.Finishes aA.Boat) fun aB => ifB (aA.Kind == 2) (bnd (zHD aB) fun aD => zFJ s_l2 aA aB aD) (zFJ s_l2 aA aB false)) (some (.brk (s_l2.1, s_l2.2)))
def zFK (a0 : Series) (a1 : List Penalty) (s_l1 : (List Race) × Int) : Option Series :=
  bnd (zAO (zDh a1) (s_l1.1, 0)) fun o => zBh o (fun x => some x) (fun s => zFH a0 a1 s)
def zFL (a0 : Series) (s_l1 : (List Race) × Int) : Option (Stp Series ((List Race) × Int)) :=
  ifB (decide (s_l1.2 < (a0.Races.length : Int))) (bnd (idx a0.Races s_l1.2) fun aA => chk (([] : List Finish).length + aA.Finishes.length < 1099511627776) (chk (s_l1.1.length + ([(Race.mk (([] : List Finish) ++ aA.Finishes))] : List Race).length < 1099511627776) (some (.cont (s_l1.1 ++ ([(Race.mk (([] : List Finish) ++ aA.Finishes))] : List Race), w64 (s_l1.2 + 1)))))) (some (.brk (s_l1.1, s_l1.2)))
def zHM (a0 : Series) (a1 : List Penalty) : Option Series :=
  bnd (zAO (zFL a0) (([] : List Race), 0)) fun o => zBh o (fun x => some x) (fun s => zFK a0 a1 s)
def zDt (aA : Table) (s_l1 : (List (List Int)) × Int) : Option Table :=
  some (Table.mk aA.Boats s_l1.1 aA.Codes)
def zDu (s_l1 : (List (List Int)) × Int) (s_l2 : (List (List Int)) × Int) : Option (Stp Table ((List (List Int)) × Int)) :=
  some (.cont (s_l2.1, w64 (s_l1.2 + 1)))
def zDv (s_l1 : (List (List Int)) × Int) (s_l2 : (List (List Int)) × Int) (s_j1 : (List (List Int))) : Option (Stp Table ((List (List Int)) × Int)) :=
  bnd (idx s_j1 s_l1.2) fun aA => some (.cont (s_j1, w64 (s_l2.2 + 1)))
def zCx (s_l1 : (List (List Int)) × Int) (s_l2 : (List (List Int)) × Int) (s_j2 : (List (List Int))) : Option (Stp Table ((List (List Int)) × Int)) :=
  bnd (idx s_j2 s_l1.2) fun aA => zDv s_l1 s_l2 s_j2
def zDw (a0 : Series) (x9 : Series) (s_l1 : (List (List Int)) × Int) (s_l2 : (List (List Int)) × Int) (aA : List Int) (s_l3 : Int × Int) : Option (Stp Table ((List (List Int)) × Int)) :=
  bnd (idx x9.Races s_l1.2) fun aB => bnd (zEb aB.Finishes 4 a0.Scheme) fun aC => bnd (idx aA s_l2.2) fun aD => bnd (idx aA s_l2.2) fun aE => bnd (idx aA s_l2.2) fun aF => zCx s_l1 s_l2 (s_l2.1.set (s_l1.2 : Int).toNat (aA.set (s_l2.2 : Int).toNat (max aD (min aC (w64 (aE + s_l3.1))))))
def zEU (s_l3 : Int × Int) (s_j3 : Int) : Option (Stp Table (Int × Int)) :=
  some (.cont (s_j3, w64 (s_l3.2 + 1)))
def zDx (s_l3 : Int × Int) (s_j4 : Int) : Option (Stp Table (Int × Int)) :=
  zEU s_l3 s_j4
def zCy (a0 : Series) (s_l3 : Int × Int) (aA : Penalty) (s_j5 : Bool) : Option (Stp Table (Int × Int)) :=
  ifB s_j5 (bnd (zDT a0.Boats aA.Value) fun aB => zDx s_l3 (w64 (s_l3.1 + aB))) (zDx s_l3 s_l3.1)
def zDy (a0 : Series) (a1 : List Penalty) (s_l1 : (List (List Int)) × Int) (s_l2 : (List (List Int)) × Int) (s_l3 : Int × Int) : Option (Stp Table (Int × Int)) :=
  ifB (decide (s_l3.2 < (a1.length : Int))) (bnd (idx a1 s_l3.2) fun aA => ifB (aA.Kind == 3) (ifB (aA.Race == s_l1.2) (zCy a0 s_l3 aA (aA.Boat == s_l2.2)) (zCy a0 s_l3 aA false)) (zCy a0 s_l3 aA false)) (some (.brk (s_l3.1, s_l3.2)))
def zDz (a0 : Series) (a1 : List Penalty) (x9 : Series) (aE : Table) (s_l1 : (List (List Int)) × Int) (aA : List Int) (s_l2 : (List (List Int)) × Int) : Option (Stp Table ((List (List Int)) × Int)) :=
  bnd (idx s_l2.1 s_l1.2) fun aB => ifB (decide (s_l2.2 < (aA.length : Int))) (bnd (idx aE.Codes s_l1.2) fun aC => bnd (idx aC s_l2.2) fun aD => ifB (aD != 0) (zCx s_l1 s_l2 s_l2.1) (bnd (zAO (zDy a0 a1 s_l1 s_l2) (0, 0)) fun o => zBh o (fun x => some (.ret x)) (fun s => zDw a0 x9 s_l1 s_l2 aB s))) (some (.brk (s_l2.1, s_l2.2)))
def zDA (a0 : Series) (a1 : List Penalty) (x9 : Series) (aB : Table) (s_l1 : (List (List Int)) × Int) : Option (Stp Table ((List (List Int)) × Int)) :=
  ifB (decide (s_l1.2 < (aB.Points.length : Int))) (bnd (idx s_l1.1 s_l1.2) fun aA => bnd (zAO (zDz a0 a1 x9 aB s_l1 aA) (s_l1.1, 0)) fun o => zBh o (fun x => some (.ret x)) (fun s => zDu s_l1 s)) (some (.brk (s_l1.1, s_l1.2)))
def zDr (a0 : Series) (a1 : List Penalty) : Option Table :=
  bnd (zEi a0 a1) fun x9 => bnd (zDs x9) fun aA => bnd (zAO (zDA a0 a1 x9 aA) (aA.Points, 0)) fun o => zBh o (fun x => some x) (fun s => zDt aA s)
def zCd (a0 : Series) (a1 : List Penalty) : Option (Table × Int) :=
  bnd (zEM a0 a1) fun x9 => ifB (x9 != 0) (some ((Table.mk 0 [] []), x9)) (bnd (zDr a0 a1) fun aA => some (aA, 0))
def zGj (aA : Table × Int) (s_l1 : (List (List Int)) × Int) : Option Table :=
  some (Table.mk aA.1.Boats s_l1.1 aA.1.Codes)
def zGk (s_l1 : (List (List Int)) × Int) (s_l2 : (List (List Int)) × Int) : Option (Stp Table ((List (List Int)) × Int)) :=
  some (.cont (s_l2.1, w64 (s_l1.2 + 1)))
def zH0 (s_l2 : (List (List Int)) × Int) (s_j1 : (List (List Int))) : Option (Stp Table ((List (List Int)) × Int)) :=
  some (.cont (s_j1, w64 (s_l2.2 + 1)))
def zGl (s_l2 : (List (List Int)) × Int) (s_j2 : (List (List Int))) : Option (Stp Table ((List (List Int)) × Int)) :=
  zH0 s_l2 s_j2
def zGm (x9 : Series) (s_l1 : (List (List Int)) × Int) (s_l2 : (List (List Int)) × Int) (s_l3 : Int × Int) (s_j3 : Bool) : Option (Stp Table ((List (List Int)) × Int)) :=
  ifB s_j3 (bnd (idx s_l2.1 s_l1.2) fun aA => bnd (idx s_l2.1 s_l1.2) fun aB => bnd (idx aB s_l2.2) fun aC => bnd (idx s_l2.1 s_l1.2) fun aD => bnd (idx aD s_l2.2) fun aE => bnd (zH7 x9 s_l1.2 s_l2.2) fun aF => bnd (idx aA s_l2.2) fun aG => zGl s_l2 (s_l2.1.set (s_l1.2 : Int).toNat (aA.set (s_l2.2 : Int).toNat (max aC (min (w64 (aE + s_l3.1)) aF))))) (zGl s_l2 s_l2.1)
def zGn (x9 : Series) (aC : Table × Int) (s_l1 : (List (List Int)) × Int) (s_l2 : (List (List Int)) × Int) (s_l3 : Int × Int) : Option (Stp Table ((List (List Int)) × Int)) :=
  ifB (decide (0 < s_l3.1)) (bnd (idx aC.1.Codes s_l1.2) fun aA => bnd (idx aA s_l2.2) fun aB => zGm x9 s_l1 s_l2 s_l3 (aB == 0)) (zGm x9 s_l1 s_l2 s_l3 false)
def zH1 (s_l3 : Int × Int) (s_j4 : Int) : Option (Stp Table (Int × Int)) :=
  some (.cont (s_j4, w64 (s_l3.2 + 1)))
def zGo (s_l3 : Int × Int) (s_j5 : Int) : Option (Stp Table (Int × Int)) :=
  zH1 s_l3 s_j5
def zER (a0 : Series) (a1 : List Penalty) (s_l3 : Int × Int) (s_j6 : Bool) : Option (Stp Table (Int × Int)) :=
  ifB s_j6 (bnd (idx a1 s_l3.2) fun aA => bnd (zFi a0.Boats aA.Value) fun aB => zGo s_l3 (w64 (s_l3.1 + aB))) (zGo s_l3 s_l3.1)
def zGp (a0 : Series) (a1 : List Penalty) (s_l1 : (List (List Int)) × Int) (s_l2 : (List (List Int)) × Int) (s_l3 : Int × Int) : Option (Stp Table (Int × Int)) :=
  ifB (decide (s_l3.2 < (a1.length : Int))) (bnd (idx a1 s_l3.2) fun aA => ifB (aA.Kind == 3) (bnd (idx a1 s_l3.2) fun aB => ifB (aB.Race == s_l1.2) (bnd (idx a1 s_l3.2) fun aC => zER a0 a1 s_l3 (aC.Boat == s_l2.2)) (zER a0 a1 s_l3 false)) (zER a0 a1 s_l3 false)) (some (.brk (s_l3.1, s_l3.2)))
def zGq (a0 : Series) (a1 : List Penalty) (x9 : Series) (aA : Table × Int) (s_l1 : (List (List Int)) × Int) (s_l2 : (List (List Int)) × Int) : Option (Stp Table ((List (List Int)) × Int)) :=
  ifB (decide (s_l2.2 < aA.1.Boats)) (bnd (zAO (zGp a0 a1 s_l1 s_l2) (0, 0)) fun o => zBh o (fun x => some (.ret x)) (fun s => zGn x9 aA s_l1 s_l2 s)) (some (.brk (s_l2.1, s_l2.2)))
def zGr (a0 : Series) (a1 : List Penalty) (x9 : Series) (aA : Table × Int) (s_l1 : (List (List Int)) × Int) : Option (Stp Table ((List (List Int)) × Int)) :=
  ifB (decide (s_l1.2 < (s_l1.1.length : Int))) (bnd (zAO (zGq a0 a1 x9 aA s_l1) (s_l1.1, 0)) fun o => zBh o (fun x => some (.ret x)) (fun s => zGk s_l1 s)) (some (.brk (s_l1.1, s_l1.2)))
def zFq (a0 : Series) (a1 : List Penalty) : Option Table :=
  bnd (zHM a0 a1) fun x9 => bnd (zIv x9) fun aA => bnd (zAO (zGr a0 a1 x9 aA) (aA.1.Points, 0)) fun o => zBh o (fun x => some x) (fun s => zGj aA s)
def zJr (a0 : Series) (a1 : List Penalty) : Option (Table × Int) :=
  bnd (zFW a0 a1) fun x9 => ifB (x9 != 0) (some ((Table.mk 0 [] []), x9)) (bnd (zFq a0 a1) fun aA => some (aA, 0))
def zDi (a0 : Int) (a1 : Int) (a2 : Table) (a3 : Int) : Option Int :=
  bnd (idx a2.Points a1) fun x9 => bnd (idx x9 a3) fun aA => bnd (idx a2.Points a0) fun aB => bnd (idx aB a3) fun aC => some (w64 (aA - aC))
def zIw (a0 : Int) (s_j3 : Unit) : Option Int :=
  bnd (zQS (⟨#[0, 1, 2, 2, 3, 3, 3, 3, 4, 4, 4, 4, 4, 4, 4, 4, 5, 5, 5, 5, 5, 5, 5, 5, 5, 5, 5, 5, 5, 5, 5, 5, 6, 6, 6, 6, 6, 6, 6, 6, 6, 6, 6, 6, 6, 6, 6, 6, 6, 6, 6, 6, 6, 6, 6, 6, 6, 6, 6, 6, 6, 6, 6, 6, 7, 7, 7, 7, 7, 7, 7, 7, 7, 7, 7, 7, 7, 7, 7, 7, 7, 7, 7, 7, 7, 7, 7, 7, 7, 7, 7, 7, 7, 7, 7, 7, 7, 7, 7, 7, 7, 7, 7, 7, 7, 7, 7, 7, 7, 7, 7, 7, 7, 7, 7, 7, 7, 7, 7, 7, 7, 7, 7, 7, 7, 7, 7, 7, 8, 8, 8, 8, 8, 8, 8, 8, 8, 8, 8, 8, 8, 8, 8, 8, 8, 8, 8, 8, 8, 8, 8, 8, 8, 8, 8, 8, 8, 8, 8, 8, 8, 8, 8, 8, 8, 8, 8, 8, 8, 8, 8, 8, 8, 8, 8, 8, 8, 8, 8, 8, 8, 8, 8, 8, 8, 8, 8, 8, 8, 8, 8, 8, 8, 8, 8, 8, 8, 8, 8, 8, 8, 8, 8, 8, 8, 8, 8, 8, 8, 8, 8, 8, 8, 8, 8, 8, 8, 8, 8, 8, 8, 8, 8, 8, 8, 8, 8, 8, 8, 8, 8, 8, 8, 8, 8, 8, 8, 8, 8, 8, 8, 8, 8, 8, 8, 8, 8, 8, 8, 8, 8, 8, 8, 8, 8, 8]⟩ : ByteArray) (IntKind.u8.wrap a0)) fun aA => some (w64 (0 + (IntKind.i64.wrap aA)))
def zIx (a0 : Int) (s_j2 : Unit) : Option Int :=
  ifB (decide (256 ≤ a0)) (none) (zIw a0 ())
def zIy (a0 : Int) (s_j1 : Unit) : Option Int :=
  ifB (decide (65536 ≤ a0)) (none) (zIx a0 ())
def zJj (a0 : Int) : Option Int :=
  ifB (decide (4294967296 ≤ a0)) (none) (zIy a0 ())
def zIU (a0 : Int) : Option Int :=
  bnd (zJj a0) fun x1 => some x1
def zGs (a0 : Int) : Option Bool :=
  some (a0 != a0)
def zDY (s_j1 : Bool) : Option Bool :=
  some s_j1
def zHc (a0 : Int) (a1 : Int) : Option Bool :=
  bnd (zGs a0) fun aA => ifB aA (bnd (zGs a1) fun aB => ifB (!aB) (zDY true) (zDY (decide (a0 < a1)))) (zDY (decide (a0 < a1)))
def zBY (s_l1 : (List Int) × Int) : Option ((Unit) × (List Int)) :=
  some ((), s_l1.1)
def zBZ (s_l1 : (List Int) × Int) (s_l2 : (List Int) × Int) : Option (Stp ((Unit) × (List Int)) ((List Int) × Int)) :=
  some (.cont (s_l2.1, w64 (s_l1.2 + 1)))
def zB0 (s_l2 : (List Int) × Int) (s_j1 : Bool) : Option (Stp ((Unit) × (List Int)) ((List Int) × Int)) :=
  ifB s_j1 (bnd (idx s_l2.1 (w64 (s_l2.2 - 1))) fun aA => bnd (idx s_l2.1 s_l2.2) fun aB => bnd (idx s_l2.1 s_l2.2) fun aC => bnd (idx (s_l2.1.set (s_l2.2 : Int).toNat aA) (w64 (s_l2.2 - 1))) fun aD => some (.cont ((s_l2.1.set (s_l2.2 : Int).toNat aA).set (w64 (s_l2.2 - 1) : Int).toNat aB, w64 (s_l2.2 - 1)))) (some (.brk (s_l2.1, s_l2.2)))
def zB1 (a1 : Int) (s_l2 : (List Int) × Int) : Option (Stp ((Unit) × (List Int)) ((List Int) × Int)) :=
  ifB (decide (a1 < s_l2.2)) (bnd (idx s_l2.1 s_l2.2) fun aA => bnd (idx s_l2.1 (w64 (s_l2.2 - 1))) fun aB => bnd (zHc aA aB) fun aC => zB0 s_l2 aC) (zB0 s_l2 false)
def zB2 (a1 : Int) (a2 : Int) (s_l1 : (List Int) × Int) : Option (Stp ((Unit) × (List Int)) ((List Int) × Int)) :=
  ifB (decide (s_l1.2 < a2)) (bnd (zAO (zB1 a1) (s_l1.1, s_l1.2)) fun o => zBh o (fun x => some (.ret x)) (fun s => zBZ s_l1 s)) (some (.brk (s_l1.1, s_l1.2)))
def zBC (a0 : List Int) (a1 : Int) (a2 : Int) : Option ((Unit) × (List Int)) :=
  bnd (zAO (zB2 a1 a2) (a0, w64 (a1 + 1))) fun o => zBh o (fun x => some x) (fun s => zBY s)
def zCs (a0 : List Int) (s_l1 : Unit) : Option ((Unit) × (List Int)) :=
  some ((), a0)
def zD2 (s_j1 : Unit) : Option (Stp ((Unit) × (List Int)) Unit) :=
  none
def zCt (a0 : List Int) (a1 : Int) (a2 : Int) (a3 : Int) (s_l1 : Unit) : Option (Stp ((Unit) × (List Int)) Unit) :=
  ifB (decide ((w64 (a2 - a1)) ≤ 12)) (bnd (zBC a0 a1 a2) fun aA => some (.ret ((), aA.2))) (ifB (a3 == 0) (none) (zD2 ()))
def zCZ (a0 : List Int) (a1 : Int) (a2 : Int) (a3 : Int) : Option ((Unit) × (List Int)) :=
  bnd (zAO (zCt a0 a1 a2 a3) ()) fun o => zBh o (fun x => some x) (fun s => zCs a0 s)
def zB5 (a0 : List Int) : Option ((Unit) × (List Int)) :=
  bnd (zIU (IntKind.u64.wrap (a0.length : Int))) fun x5 => bnd (zCZ a0 0 (a0.length : Int) x5) fun aA => some ((), aA.2)
def zE8 (s_l1 : (List Int) × Int × Int) : Option (List Int) :=
  bnd (zB5 s_l1.1) fun aA => some aA.2
def zHd (s_l1 : (List Int) × Int × Int) (s_j1 : (List Int) × Int) : Option (Stp (List Int) ((List Int) × Int × Int)) :=
  some (.cont (s_j1.1, s_j1.2, w64 (s_l1.2.2 + 1)))
def zE9 (s_l1 : (List Int) × Int × Int) (s_j2 : (List Int) × Int) : Option (Stp (List Int) ((List Int) × Int × Int)) :=
  zHd s_l1 (s_j2.1, s_j2.2)
def zFa (s_l1 : (List Int) × Int × Int) (aA : Int) (s_j3 : Bool) : Option (Stp (List Int) ((List Int) × Int × Int)) :=
  ifB s_j3 (chk (s_l1.1.length + ([aA] : List Int).length < 1099511627776) (zE9 s_l1 (s_l1.1 ++ ([aA] : List Int), w64 (s_l1.2.1 - 1)))) (zE9 s_l1 (s_l1.1, s_l1.2.1))
def zFb (a0 : Table) (a2 : Int) (aB : (List Int)) (s_l1 : (List Int) × Int × Int) : Option (Stp (List Int) ((List Int) × Int × Int)) :=
  ifB (decide (s_l1.2.2 < (aB.length : Int))) (bnd (idx aB s_l1.2.2) fun aA => ifB (decide (0 < s_l1.2.1)) (bnd (idx a0.Codes aA) fun aC => bnd (idx aC a2) fun aD => zFa s_l1 aA (aD != 7)) (zFa s_l1 aA false)) (some (.brk (s_l1.1, s_l1.2.1, s_l1.2.2)))
def zHe (a0 : Table) (a1 : List Int) (a2 : Int) : Option (List Int) :=
  bnd (zFt a1 (a0.Points.length : Int)) fun aA => bnd (zE7 (a0.Points.length : Int) (fun y0 y1 => zDi y0 y1 a0 a2)) fun aB => bnd (zAO (zFb a0 a2 aB) (([] : List Int), aA, 0)) fun o => zBh o (fun x => some x) (fun s => zE8 s)
def zB9 (s_l1 : Int) : Option Int :=
  some (-1)
def zBp (a0 : List Int) (a1 : Int) (s_l1 : Int) : Option (Stp Int Int) :=
  ifB (decide (s_l1 < (a0.length : Int))) (bnd (idx a0 s_l1) fun aA => ifB (a1 == aA) (some (.ret s_l1)) (some (.cont (w64 (s_l1 + 1))))) (some (.brk s_l1))
def zCk (a0 : List Int) (a1 : Int) : Option Int :=
  bnd (zAO (zBp a0 a1) 0) fun o => zBh o (fun x => some x) (fun s => zB9 s)
def zBL (a0 : List Int) (a1 : Int) : Option Bool :=
  bnd (zCk a0 a1) fun x3 => some (decide (0 ≤ x3))
def zFl (s_l1 : (List Int) × Int) : Option (List Int) :=
  some s_l1.1
def zFm (s_l1 : (List Int) × Int) (s_j1 : (List Int)) : Option (Stp (List Int) ((List Int) × Int)) :=
  some (.cont (s_j1, w64 (s_l1.2 + 1)))
def zDZ (s_l1 : (List Int) × Int) (s_j2 : (List Int)) : Option (Stp (List Int) ((List Int) × Int)) :=
  zFm s_l1 s_j2
def zD0 (a0 : Table) (a2 : Int) (aD : (List Int)) (s_l1 : (List Int) × Int) : Option (Stp (List Int) ((List Int) × Int)) :=
  ifB (decide (s_l1.2 < (a0.Points.length : Int))) (bnd (zBL aD s_l1.2) fun aB => ifB (!aB) (bnd (idx a0.Points s_l1.2) fun aC => bnd (idx aC a2) fun aA => chk (s_l1.1.length + ([aA] : List Int).length < 1099511627776) (zDZ s_l1 (s_l1.1 ++ ([aA] : List Int)))) (zDZ s_l1 s_l1.1)) (some (.brk (s_l1.1, s_l1.2)))
def zCS (a0 : Table) (a1 : List Int) (a2 : Int) : Option (List Int) :=
  bnd (zHe a0 a1 a2) fun aA => bnd (zAO (zD0 a0 a2 aA) (([] : List Int), 0)) fun o => zBh o (fun x => some x) (fun s => zFl s)
def zHx (s_l1 : Int × Int) : Option Int :=
  some s_l1.1
def zJI (x9 : (List Int)) (s_l1 : Int × Int) : Option (Stp Int (Int × Int)) :=
  ifB (decide (s_l1.2 < (x9.length : Int))) (bnd (idx x9 s_l1.2) fun aA => some (.cont (w64 (s_l1.1 + aA), w64 (s_l1.2 + 1)))) (some (.brk (s_l1.1, s_l1.2)))
def zFX (a0 : Table) (a1 : List Int) (a2 : Int) : Option Int :=
  bnd (zCS a0 a1 a2) fun x9 => bnd (zAO (zJI x9) (0, 0)) fun o => zBh o (fun x => some x) (fun s => zHx s)
def zCz (a0 : Table) (a1 : List Int) (a2 : Int) : Option (List Int) :=
  bnd (zCS a0 a1 a2) fun x9 => bnd (zB5 x9) fun aA => some aA.2
def zEj (s_l2 : Int) : Option (Int × Int × Int) :=
  some (0, 0, 0)
def zC0 (a0 : Table) (a2 : Int) (a3 : Int) (s_l2 : Int) : Option (Stp (Int × Int × Int) Int) :=
  ifB (decide (0 ≤ s_l2)) (bnd (idx a0.Points s_l2) fun aA => bnd (idx aA a2) fun aB => bnd (idx aA a3) fun aC => ifB (aB != aC) (bnd (idx aA a2) fun aD => bnd (idx aA a3) fun aE => bnd (zGN (w64 (aD - aE))) fun aF => some (.ret (aF, 3, s_l2))) (some (.cont (s_l2 - 1)))) (some (.brk s_l2))
def zEk (a0 : Table) (a2 : Int) (a3 : Int) (s_l1 : Int) : Option (Int × Int × Int) :=
  bnd (zAO (zC0 a0 a2 a3) ((a0.Points.length : Int) - 1)) fun o => zBh o (fun x => some x) (fun s => zEj s)
def zEl (aA : (List Int)) (aB : (List Int)) (s_l1 : Int) : Option (Stp (Int × Int × Int) Int) :=
  ifB (decide (s_l1 < (min (aA.length : Int) (aB.length : Int)))) (bnd (idx aA s_l1) fun aC => bnd (idx aB s_l1) fun aD => ifB (aC != aD) (bnd (idx aA s_l1) fun aE => bnd (idx aB s_l1) fun aF => bnd (zGN (w64 (aE - aF))) fun aG => some (.ret (aG, 2, 0))) (some (.cont (w64 (s_l1 + 1))))) (some (.brk s_l1))
def zFM (a0 : Table) (a1 : List Int) (a2 : Int) (a3 : Int) : Option (Int × Int × Int) :=
  bnd (zFX a0 a1 a2) fun aA => bnd (zFX a0 a1 a3) fun aB => ifB ((w64 (aA - aB)) != 0) (bnd (zGN (w64 (aA - aB))) fun aC => some (aC, 1, 0)) (bnd (zCz a0 a1 a2) fun aD => bnd (zCz a0 a1 a3) fun aE => bnd (zAO (zEl aD aE) 0) fun o => zBh o (fun x => some x) (fun s => zEk a0 a2 a3 s))
def zIm (s_l1 : (List Int) × Int) : Option (List Int) :=
  some s_l1.1
def zHf (s_l1 : (List Int) × Int) (s_l2 : (List Int) × Int) : Option (Stp (List Int) ((List Int) × Int)) :=
  some (.cont (s_l2.1, w64 (s_l1.2 + 1)))
def zIn (s_l2 : (List Int) × Int) (s_j1 : (List Int)) : Option (Stp (List Int) ((List Int) × Int)) :=
  some (.cont (s_j1, w64 (s_l2.2 + 1)))
def zHg (s_l2 : (List Int) × Int) (s_j2 : (List Int)) : Option (Stp (List Int) ((List Int) × Int)) :=
  zIn s_l2 s_j2
def zHh (a0 : Table) (a1 : List Int) (s_l1 : (List Int) × Int) (s_l2 : (List Int) × Int) : Option (Stp (List Int) ((List Int) × Int)) :=
  ifB (decide (s_l2.2 < ((s_l1.1.set (s_l1.2 : Int).toNat 1).length : Int))) (bnd (zFM a0 a1 s_l2.2 s_l1.2) fun aA => ifB (decide (aA.1 < 0)) (bnd (idx s_l2.1 s_l1.2) fun aB => bnd (idx s_l2.1 s_l1.2) fun aC => zHg s_l2 (s_l2.1.set (s_l1.2 : Int).toNat (w64 (aB + 1)))) (zHg s_l2 s_l2.1)) (some (.brk (s_l2.1, s_l2.2)))
def zHi (a0 : Table) (a1 : List Int) (s_l1 : (List Int) × Int) : Option (Stp (List Int) ((List Int) × Int)) :=
  ifB (decide (s_l1.2 < ((List.replicate (a0.Boats).toNat (0 : Int)).length : Int))) (bnd (idx s_l1.1 s_l1.2) fun aA => bnd (zAO (zHh a0 a1 s_l1) (s_l1.1.set (s_l1.2 : Int).toNat 1, 0)) fun o => zBh o (fun x => some (.ret x)) (fun s => zHf s_l1 s)) (some (.brk (s_l1.1, s_l1.2)))
def zGt (a0 : Table) (a1 : List Int) : Option (List Int) :=
  chk (0 ≤ a0.Boats ∧ a0.Boats < 1099511627776) (bnd (zAO (zHi a0 a1) (List.replicate (a0.Boats).toNat (0 : Int), 0)) fun o => zBh o (fun x => some x) (fun s => zIm s))
def zHN (a0 : Table) (a1 : List Int) : Option ((List Int) × Int) :=
  bnd (zHJ a0 a1 0) fun x9 => ifB (x9 != 0) (some ([], x9)) (bnd (zGt a0 a1) fun aA => some (aA, 0))
def zCa (a0 : Series) (a1 : List Penalty) (a2 : List Int) (a3 : Int) (s_j1 : Int) : Option (Int × Int) :=
  ifB (s_j1 != 0) (some (0, s_j1)) (bnd (zFq a0 a1) fun aB => bnd (zHK aB a2 a3) fun aC => bnd (zFq a0 ([] : List Penalty)) fun aD => bnd (zHK aD a2 a3) fun aA => some (w64 (aC - aA), 0))
def zBR (a0 : Series) (a1 : List Penalty) (a2 : List Int) (a3 : Int) (x9 : Int) (s_j2 : Bool) : Option (Int × Int) :=
  ifB s_j2 (zCa a0 a1 a2 a3 2) (zCa a0 a1 a2 a3 x9)
def zCi (a0 : Series) (a1 : List Penalty) (a2 : List Int) (a3 : Int) : Option (Int × Int) :=
  bnd (zFW a0 a1) fun x9 => ifB (x9 == 0) (bnd (zDI a2) fun aA => ifB (!aA) (zBR a0 a1 a2 a3 x9 true) (bnd (zBt a3 0 (w64 (a0.Boats - 1))) fun aB => zBR a0 a1 a2 a3 x9 (!aB))) (zBR a0 a1 a2 a3 x9 false)
def zFc (a0 : Series) (a1 : List Penalty) (a2 : List Int) (a3 : Int) (s_j1 : Bool) : Option (Int × Int) :=
  ifB s_j1 (some (0, 2)) (bnd (zDr a0 a1) fun aB => bnd (zGt aB a2) fun aC => bnd (zDs a0) fun aD => bnd (zGt aD a2) fun aE => bnd (idx aC a3) fun aF => bnd (idx aE a3) fun aA => some (w64 (aF - aA), 0))
def zFn (a0 : Series) (a1 : List Penalty) (a2 : List Int) (a3 : Int) : Option (Int × Int) :=
  bnd (zEM a0 a1) fun x9 => ifB (x9 != 0) (some (0, x9)) (bnd (zDK a2) fun aA => ifB (!aA) (zFc a0 a1 a2 a3 true) (bnd (zBr a3 0 (w64 (a0.Boats - 1))) fun aB => zFc a0 a1 a2 a3 (!aB)))
end Go.Proofs.YtmmkkcmliofknaaGreatDoor
