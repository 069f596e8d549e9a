/- Models of the functions, printed by my generator: what each computes, as a Lean function on data. -/
import Derived.Test.YtgelmamcinlahaaGreatBase4
namespace Go.Proofs.YtgelmamcinlahaaGreat
open Go Go.RowKit Go.ChangeShapes Go.WideShapes
set_option linter.unusedVariables false
set_option linter.unusedSimpArgs false

def M.spec_l01In_j1 (s_j1 : Bool) : Option Bool :=
  some s_j1
def M.spec_l01In (a0 : Int) (a1 : Int) (a2 : Int) : Option Bool :=
  ifB (decide (a1 ≤ a0)) (M.spec_l01In_j1 (decide (a0 ≤ a2))) (M.spec_l01In_j1 false)
def M.impl_within_j1 (s_j1 : Bool) : Option Bool :=
  some s_j1
def M.impl_within (a0 : Int) (a1 : Int) (a2 : Int) : Option Bool :=
  ifB (decide (a1 ≤ a0)) (M.impl_within_j1 (decide (a0 ≤ a2))) (M.impl_within_j1 false)
def M.laws_toInt64S_a1 (s_l1 : (List Int) × Int) : Option (List Int) :=
  some s_l1.1
def M.laws_toInt64S_l1 (a0 : List Int) (s_l1 : (List Int) × Int) : Option (Stp (List Int) ((List Int) × Int)) :=
  ifB (decide (s_l1.2 < (a0.length : Int))) (bnd (idx a0 s_l1.2) fun x52 => bnd (idx s_l1.1 s_l1.2) fun x58 => some (.cont (s_l1.1.set (s_l1.2 : Int).toNat x52, w64 (s_l1.2 + 1)))) (some (.brk (s_l1.1, s_l1.2)))
def M.laws_toInt64S (a0 : List Int) : Option (List Int) :=
  chk (0 ≤ (a0.length : Int) ∧ (a0.length : Int) < 1099511627776) (bnd (loopF (M.laws_toInt64S_l1 a0) (List.replicate ((a0.length : Int)).toNat (0 : Int), 0)) fun o => outc o (fun x => some x) (fun s => M.laws_toInt64S_a1 s))
def M.spec_IsDiscardRule_a1 (s_l1 : Int) : Option Bool :=
  some true
def M.spec_IsDiscardRule_j1 (s_l1 : Int) (s_j1 : Bool) : Option (Stp Bool Int) :=
  ifB s_j1 (some (.ret false)) (some (.cont (w64 (s_l1 + 1))))
def M.spec_IsDiscardRule_l1 (a0 : List Int) (s_l1 : Int) : Option (Stp Bool Int) :=
  ifB (decide (s_l1 < (a0.length : Int))) (bnd (idx a0 s_l1) fun x162 => bnd (M.spec_l01In x162 1 12) fun x168 => ifB (!x168) (M.spec_IsDiscardRule_j1 s_l1 true) (ifB (decide (0 < s_l1)) (bnd (idx a0 (w64 (s_l1 - 1))) fun x173 => bnd (idx a0 s_l1) fun x179 => M.spec_IsDiscardRule_j1 s_l1 (decide (x179 ≤ x173))) (M.spec_IsDiscardRule_j1 s_l1 false))) (some (.brk s_l1))
def M.spec_IsDiscardRule (a0 : List Int) : Option Bool :=
  ifB (decide (3 < (a0.length : Int))) (some false) (bnd (loopF (M.spec_IsDiscardRule_l1 a0) 0) fun o => outc o (fun x => some x) (fun s => M.spec_IsDiscardRule_a1 s))
def M.impl_IsDiscardRule_a1 (a0 : List Int) (s_l1 : Int) : Option Bool :=
  some (decide ((a0.length : Int) ≤ 3))
def M.impl_IsDiscardRule_j1 (s_l1 : Int) (s_j1 : Bool) : Option (Stp Bool Int) :=
  ifB s_j1 (some (.ret false)) (some (.cont (w64 (s_l1 + 1))))
def M.impl_IsDiscardRule_l1 (a0 : List Int) (s_l1 : Int) : Option (Stp Bool Int) :=
  ifB (decide (s_l1 < (a0.length : Int))) (bnd (idx a0 s_l1) fun x102 => bnd (M.impl_within x102 1 12) fun x129 => ifB (!x129) (M.impl_IsDiscardRule_j1 s_l1 true) (ifB (decide (0 < s_l1)) (bnd (idx a0 (w64 (s_l1 - 1))) fun x136 => M.impl_IsDiscardRule_j1 s_l1 (decide (x102 ≤ x136))) (M.impl_IsDiscardRule_j1 s_l1 false))) (some (.brk s_l1))
def M.impl_IsDiscardRule (a0 : List Int) : Option Bool :=
  bnd (loopF (M.impl_IsDiscardRule_l1 a0) 0) fun o => outc o (fun x => some x) (fun s => M.impl_IsDiscardRule_a1 a0 s)
def M.laws_eqInt64S_a1 (s_l1 : Int) : Option Bool :=
  some true
def M.laws_eqInt64S_l1 (a0 : List Int) (a1 : List Int) (s_l1 : Int) : Option (Stp Bool Int) :=
  ifB (decide (s_l1 < (a0.length : Int))) (bnd (idx a0 s_l1) fun x51 => bnd (idx a1 s_l1) fun x57 => ifB (x51 != x57) (some (.ret false)) (some (.cont (w64 (s_l1 + 1))))) (some (.brk s_l1))
def M.laws_eqInt64S (a0 : List Int) (a1 : List Int) : Option Bool :=
  ifB ((a0.length : Int) != (a1.length : Int)) (some false) (bnd (loopF (M.laws_eqInt64S_l1 a0 a1) 0) fun o => outc o (fun x => some x) (fun s => M.laws_eqInt64S_a1 s))
def M.spec_l27Count_a1 (s_l1 : Int × Int) : Option Int :=
  some s_l1.1
def M.spec_l27Count_j1 (s_l1 : Int × Int) (s_j1 : Int) : Option (Stp Int (Int × Int)) :=
  some (.cont (s_j1, w64 (s_l1.2 + 1)))
def M.spec_l27Count_j2 (s_l1 : Int × Int) (s_j2 : Int) : Option (Stp Int (Int × Int)) :=
  M.spec_l27Count_j1 s_l1 s_j2
def M.spec_l27Count_l1 (a0 : List Int) (a1 : Int) (s_l1 : Int × Int) : Option (Stp Int (Int × Int)) :=
  ifB (decide (s_l1.2 < (a0.length : Int))) (bnd (idx a0 s_l1.2) fun x153 => ifB (decide (x153 ≤ a1)) (M.spec_l27Count_j2 s_l1 (w64 (s_l1.1 + 1))) (M.spec_l27Count_j2 s_l1 s_l1.1)) (some (.brk (s_l1.1, s_l1.2)))
def M.spec_l27Count (a0 : List Int) (a1 : Int) : Option Int :=
  bnd (loopF (M.spec_l27Count_l1 a0 a1) (0, 0)) fun o => outc o (fun x => some x) (fun s => M.spec_l27Count_a1 s)
def M.impl_discardCount_a1 (s_l1 : Int × Int) : Option Int :=
  some s_l1.1
def M.impl_discardCount_j1 (s_l1 : Int × Int) (s_j1 : Int) : Option (Stp Int (Int × Int)) :=
  some (.cont (s_j1, w64 (s_l1.2 + 1)))
def M.impl_discardCount_j2 (s_l1 : Int × Int) (s_j2 : Int) : Option (Stp Int (Int × Int)) :=
  M.impl_discardCount_j1 s_l1 s_j2
def M.impl_discardCount_l1 (a0 : List Int) (a1 : Int) (s_l1 : Int × Int) : Option (Stp Int (Int × Int)) :=
  ifB (decide (s_l1.2 < (a0.length : Int))) (bnd (idx a0 s_l1.2) fun x164 => ifB (decide (x164 ≤ a1)) (M.impl_discardCount_j2 s_l1 (w64 (s_l1.1 + 1))) (M.impl_discardCount_j2 s_l1 s_l1.1)) (some (.brk (s_l1.1, s_l1.2)))
def M.impl_discardCount (a0 : List Int) (a1 : Int) : Option Int :=
  bnd (loopF (M.impl_discardCount_l1 a0 a1) (0, 0)) fun o => outc o (fun x => some x) (fun s => M.impl_discardCount_a1 s)
def M.impl_isBoat (a0 : Int) : Option Bool :=
  bnd (M.impl_within a0 0 15) fun x1 => some x1
def M.impl_IsFinish_j1 (s_j1 : Bool) : Option Bool :=
  some s_j1
def M.impl_IsFinish_j2 (s_j2 : Bool) : Option Bool :=
  some s_j2
def M.impl_IsFinish (a0 : Finish) : Option Bool :=
  ifB (a0.Code == 0) (bnd (M.impl_isBoat a0.Boat) fun x18 => ifB x18 (bnd (M.impl_within a0.Time 1 1000000000) fun x24 => M.impl_IsFinish_j1 x24) (M.impl_IsFinish_j1 false)) (bnd (M.impl_isBoat a0.Boat) fun x44 => ifB x44 (bnd (M.impl_within a0.Code 1 9) fun x50 => ifB x50 (M.impl_IsFinish_j2 (a0.Time == 0)) (M.impl_IsFinish_j2 false)) (M.impl_IsFinish_j2 false))
def M.impl_areFinishes_a1 (s_l1 : Int) : Option Bool :=
  some true
def M.impl_areFinishes_j2 (s_l1 : Int) (s_j2 : Bool) : Option (Stp Bool Int) :=
  ifB s_j2 (some (.ret false)) (some (.cont (w64 (s_l1 + 1))))
def M.impl_areFinishes_l1 (a1 : List Finish) (s_l1 : Int) : Option (Stp Bool Int) :=
  ifB (decide (s_l1 < (a1.length : Int))) (bnd (idx a1 s_l1) fun x87 => ifB (x87.Boat != s_l1) (M.impl_areFinishes_j2 s_l1 true) (bnd (M.impl_IsFinish x87) fun x110 => M.impl_areFinishes_j2 s_l1 (!x110))) (some (.brk s_l1))
def M.impl_areFinishes_j1 (a1 : List Finish) (s_j1 : Bool) : Option Bool :=
  ifB s_j1 (some false) (bnd (loopF (M.impl_areFinishes_l1 a1) 0) fun o => outc o (fun x => some x) (fun s => M.impl_areFinishes_a1 s))
def M.impl_areFinishes (a0 : Int) (a1 : List Finish) : Option Bool :=
  bnd (M.impl_within a0 1 16) fun x115 => ifB (!x115) (M.impl_areFinishes_j1 a1 true) (M.impl_areFinishes_j1 a1 ((a1.length : Int) != a0))
def M.laws_szFinishS (a0 : List Finish) (a1 : Int) : Option Int :=
  ifB (decide ((w64 (a1 - (a0.length : Int))) < 0)) (some (-1)) (some (w64 (a1 - (a0.length : Int))))
def M.laws_toFinish (a0 : Finish) : Option Finish :=
  some (Finish.mk a0.Boat a0.Code a0.Time)
def M.laws_toFinishS_a1 (s_l1 : (List Finish) × Int) : Option (List Finish) :=
  some s_l1.1
def M.laws_toFinishS_l1 (a0 : List Finish) (s_l1 : (List Finish) × Int) : Option (Stp (List Finish) ((List Finish) × Int)) :=
  ifB (decide (s_l1.2 < (a0.length : Int))) (bnd (idx a0 s_l1.2) fun x62 => bnd (M.laws_toFinish x62) fun x68 => bnd (idx s_l1.1 s_l1.2) fun x73 => some (.cont (s_l1.1.set (s_l1.2 : Int).toNat x68, w64 (s_l1.2 + 1)))) (some (.brk (s_l1.1, s_l1.2)))
def M.laws_toFinishS (a0 : List Finish) : Option (List Finish) :=
  chk (0 ≤ (a0.length : Int) ∧ (a0.length : Int) < 1099511627776) (bnd (loopF (M.laws_toFinishS_l1 a0) (List.replicate ((a0.length : Int)).toNat ((Finish.mk 0 0 0) : Finish), 0)) fun o => outc o (fun x => some x) (fun s => M.laws_toFinishS_a1 s))
def M.laws_eqFinish (a0 : Finish) (a1 : Finish) : Option Bool :=
  ifB (a0.Boat != a1.Boat) (some false) (ifB (a0.Code != a1.Code) (some false) (ifB (a0.Time != a1.Time) (some false) (some true)))
def M.laws_eqFinishS_a1 (s_l1 : Int) : Option Bool :=
  some true
def M.laws_eqFinishS_l1 (a0 : List Finish) (a1 : List Finish) (s_l1 : Int) : Option (Stp Bool Int) :=
  ifB (decide (s_l1 < (a0.length : Int))) (bnd (idx a0 s_l1) fun x55 => bnd (idx a1 s_l1) fun x61 => bnd (M.laws_eqFinish x55 x61) fun x67 => ifB (!x67) (some (.ret false)) (some (.cont (w64 (s_l1 + 1))))) (some (.brk s_l1))
def M.laws_eqFinishS (a0 : List Finish) (a1 : List Finish) : Option Bool :=
  ifB ((a0.length : Int) != (a1.length : Int)) (some false) (bnd (loopF (M.laws_eqFinishS_l1 a0 a1) 0) fun o => outc o (fun x => some x) (fun s => M.laws_eqFinishS_a1 s))
def M.laws_szRace (a0 : Race) (a1 : Int) : Option Int :=
  bnd (M.laws_szFinishS a0.Finishes a1) fun x5 => ifB (decide (x5 < 0)) (some (-1)) (some x5)
def M.laws_toRace (a0 : Race) : Option Race :=
  bnd (M.laws_toFinishS a0.Finishes) fun x9 => some (Race.mk x9)
def M.spec_l26Code (a0 : Int) : Option Bool :=
  bnd (M.spec_l01In a0 0 9) fun x1 => some x1
def M.spec_l26Race_a1 (s_l1 : Int) : Option Bool :=
  some true
def M.spec_l26Race_j2 (s_l1 : Int) (s_j2 : Bool) : Option (Stp Bool Int) :=
  ifB s_j2 (some (.ret false)) (some (.cont (w64 (s_l1 + 1))))
def M.spec_l26Race_j1 (s_l1 : Int) (x125 : Finish) (s_j1 : Bool) : Option (Stp Bool Int) :=
  ifB s_j1 (some (.ret false)) (ifB (x125.Code == 0) (bnd (M.spec_l01In x125.Time 1 1000000000) fun x163 => ifB (!x163) (M.spec_l26Race_j2 s_l1 true) (ifB (x125.Code != 0) (M.spec_l26Race_j2 s_l1 (x125.Time != 0)) (M.spec_l26Race_j2 s_l1 false))) (ifB (x125.Code != 0) (M.spec_l26Race_j2 s_l1 (x125.Time != 0)) (M.spec_l26Race_j2 s_l1 false)))
def M.spec_l26Race_l1 (a1 : Race) (s_l1 : Int) : Option (Stp Bool Int) :=
  ifB (decide (s_l1 < (a1.Finishes.length : Int))) (bnd (idx a1.Finishes s_l1) fun x125 => ifB (x125.Boat != s_l1) (M.spec_l26Race_j1 s_l1 x125 true) (bnd (M.spec_l26Code x125.Code) fun x172 => M.spec_l26Race_j1 s_l1 x125 (!x172))) (some (.brk s_l1))
def M.spec_l26Race (a0 : Int) (a1 : Race) : Option Bool :=
  ifB ((a1.Finishes.length : Int) != a0) (some false) (bnd (loopF (M.spec_l26Race_l1 a1) 0) fun o => outc o (fun x => some x) (fun s => M.spec_l26Race_a1 s))
def M.spec_l26Done (a0 : Finish) : Option Bool :=
  some (a0.Code == 0)
def M.impl_IsRace (a0 : Int) (a1 : Race) : Option Bool :=
  bnd (M.impl_areFinishes a0 a1.Finishes) fun x5 => some x5
def M.laws_eqRace (a0 : Race) (a1 : Race) : Option Bool :=
  bnd (M.laws_eqFinishS a0.Finishes a1.Finishes) fun x9 => ifB (!x9) (some false) (some true)
def M.spec_l27Out_a1 (s_l1 : (List Bool) × Int) : Option (List Bool) :=
  some s_l1.1
def M.spec_l27Out_j1 (s_l1 : (List Bool) × Int) (s_j1 : (List Bool)) : Option (Stp (List Bool) ((List Bool) × Int)) :=
  some (.cont (s_j1, w64 (s_l1.2 - 1)))
def M.spec_l27Out_j2 (s_l1 : (List Bool) × Int) (s_j2 : (List Bool)) : Option (Stp (List Bool) ((List Bool) × Int)) :=
  M.spec_l27Out_j1 s_l1 s_j2
def M.spec_l27Out_a2 (s_l1 : (List Bool) × Int) (s_l2 : Int × Int) : Option (Stp (List Bool) ((List Bool) × Int)) :=
  ifB (decide (0 ≤ s_l2.1)) (bnd (idx s_l1.1 s_l2.1) fun x24818 => M.spec_l27Out_j2 s_l1 (s_l1.1.set (s_l2.1 : Int).toNat true)) (M.spec_l27Out_j2 s_l1 s_l1.1)
def M.spec_l27Out_j3 (s_l2 : Int × Int) (s_j3 : Int) : Option (Stp (List Bool) (Int × Int)) :=
  some (.cont (s_j3, w64 (s_l2.2 + 1)))
def M.spec_l27Out_j4 (s_l2 : Int × Int) (s_j4 : Int) : Option (Stp (List Bool) (Int × Int)) :=
  M.spec_l27Out_j3 s_l2 s_j4
def M.spec_l27Out_j5 (s_l2 : Int × Int) (s_j5 : Bool) : Option (Stp (List Bool) (Int × Int)) :=
  ifB s_j5 (M.spec_l27Out_j4 s_l2 s_l2.2) (M.spec_l27Out_j4 s_l2 s_l2.1)
def M.spec_l27Out_l2 (a0 : Table) (a2 : Int) (s_l1 : (List Bool) × Int) (s_l2 : Int × Int) : Option (Stp (List Bool) (Int × Int)) :=
  ifB (decide (s_l2.2 < (s_l1.1.length : Int))) (bnd (idx s_l1.1 s_l2.2) fun x25451 => ifB (!x25451) (bnd (idx a0.Codes s_l2.2) fun x25464 => bnd (idx x25464 a2) fun x25474 => ifB (x25474 != 7) (ifB (decide (s_l2.1 < 0)) (M.spec_l27Out_j5 s_l2 true) (bnd (idx a0.Points s_l2.2) fun x25489 => bnd (idx x25489 a2) fun x25499 => bnd (idx a0.Points s_l2.1) fun x25511 => bnd (idx x25511 a2) fun x25521 => M.spec_l27Out_j5 s_l2 (decide (x25521 < x25499)))) (M.spec_l27Out_j5 s_l2 false)) (M.spec_l27Out_j5 s_l2 false)) (some (.brk (s_l2.1, s_l2.2)))
def M.spec_l27Out_l1 (a0 : Table) (a2 : Int) (s_l1 : (List Bool) × Int) : Option (Stp (List Bool) ((List Bool) × Int)) :=
  ifB (decide (0 < s_l1.2)) (bnd (loopF (M.spec_l27Out_l2 a0 a2 s_l1) ((-1), 0)) fun o => outc o (fun x => some (.ret x)) (fun s => M.spec_l27Out_a2 s_l1 s)) (some (.brk (s_l1.1, s_l1.2)))
def M.spec_l27Out (a0 : Table) (a1 : List Int) (a2 : Int) : Option (List Bool) :=
  chk (0 ≤ (a0.Points.length : Int) ∧ (a0.Points.length : Int) < 1099511627776) (bnd (M.spec_l27Count a1 (a0.Points.length : Int)) fun x13 => bnd (loopF (M.spec_l27Out_l1 a0 a2) (List.replicate ((a0.Points.length : Int)).toNat (false : Bool), x13)) fun o => outc o (fun x => some x) (fun s => M.spec_l27Out_a1 s))
def M.impl_sign (a0 : Int) : Option Int :=
  some (max (-1) (min 1 a0))
def M.spec_l27Counted_a1 (s_l1 : (List Int) × Int) : Option (List Int) :=
  some s_l1.1
def M.spec_l27Counted_j1 (s_l1 : (List Int) × Int) (s_j1 : (List Int)) : Option (Stp (List Int) ((List Int) × Int)) :=
  some (.cont (s_j1, w64 (s_l1.2 + 1)))
def M.spec_l27Counted_j2 (s_l1 : (List Int) × Int) (s_j2 : (List Int)) : Option (Stp (List Int) ((List Int) × Int)) :=
  M.spec_l27Counted_j1 s_l1 s_j2
def M.spec_l27Counted_l1 (a0 : Table) (a2 : Int) (x9 : (List Bool)) (s_l1 : (List Int) × Int) : Option (Stp (List Int) ((List Int) × Int)) :=
  ifB (decide (s_l1.2 < (x9.length : Int))) (bnd (idx x9 s_l1.2) fun x521 => ifB (!x521) (bnd (idx a0.Points s_l1.2) fun x534 => bnd (idx x534 a2) fun x544 => chk (s_l1.1.length + ([x544] : List Int).length < 1099511627776) (M.spec_l27Counted_j2 s_l1 (s_l1.1 ++ ([x544] : List Int)))) (M.spec_l27Counted_j2 s_l1 s_l1.1)) (some (.brk (s_l1.1, s_l1.2)))
def M.spec_l27Counted (a0 : Table) (a1 : List Int) (a2 : Int) : Option (List Int) :=
  bnd (M.spec_l27Out a0 a1 a2) fun x9 => bnd (loopF (M.spec_l27Counted_l1 a0 a2 x9) (([] : List Int), 0)) fun o => outc o (fun x => some x) (fun s => M.spec_l27Counted_a1 s)
def M.spec_l27Sum_a1 (s_l1 : Int × Int) : Option Int :=
  some s_l1.1
def M.spec_l27Sum_l1 (a0 : List Int) (s_l1 : Int × Int) : Option (Stp Int (Int × Int)) :=
  ifB (decide (s_l1.2 < (a0.length : Int))) (bnd (idx a0 s_l1.2) fun x32 => some (.cont (w64 (s_l1.1 + x32), w64 (s_l1.2 + 1)))) (some (.brk (s_l1.1, s_l1.2)))
def M.spec_l27Sum (a0 : List Int) : Option Int :=
  bnd (loopF (M.spec_l27Sum_l1 a0) (0, 0)) fun o => outc o (fun x => some x) (fun s => M.spec_l27Sum_a1 s)
def M.spec_l28Sorted_a1 (s_l1 : (List Int) × Int) : Option (List Int) :=
  some s_l1.1
def M.spec_l28Sorted_a2 (s_l1 : (List Int) × Int) (s_l2 : (List Int) × Int) : Option (Stp (List Int) ((List Int) × Int)) :=
  some (.cont (s_l2.1, w64 (s_l1.2 + 1)))
def M.spec_l28Sorted_j1 (s_l2 : (List Int) × Int) (s_j1 : Bool) : Option (Stp (List Int) ((List Int) × Int)) :=
  ifB s_j1 (bnd (idx s_l2.1 s_l2.2) fun x601 => bnd (idx s_l2.1 (w64 (s_l2.2 - 1))) fun x607 => bnd (idx s_l2.1 s_l2.2) fun x613 => bnd (idx (s_l2.1.set (s_l2.2 : Int).toNat x607) (w64 (s_l2.2 - 1))) fun x620 => some (.cont ((s_l2.1.set (s_l2.2 : Int).toNat x607).set (w64 (s_l2.2 - 1) : Int).toNat x601, w64 (s_l2.2 - 1)))) (some (.brk (s_l2.1, s_l2.2)))
def M.spec_l28Sorted_l2 (s_l2 : (List Int) × Int) : Option (Stp (List Int) ((List Int) × Int)) :=
  ifB (decide (0 < s_l2.2)) (bnd (idx s_l2.1 (w64 (s_l2.2 - 1))) fun x628 => bnd (idx s_l2.1 s_l2.2) fun x634 => M.spec_l28Sorted_j1 s_l2 (decide (x634 < x628))) (M.spec_l28Sorted_j1 s_l2 false)
def M.spec_l28Sorted_l1 (s_l1 : (List Int) × Int) : Option (Stp (List Int) ((List Int) × Int)) :=
  ifB (decide (s_l1.2 < (s_l1.1.length : Int))) (bnd (loopF (M.spec_l28Sorted_l2) (s_l1.1, s_l1.2)) fun o => outc o (fun x => some (.ret x)) (fun s => M.spec_l28Sorted_a2 s_l1 s)) (some (.brk (s_l1.1, s_l1.2)))
def M.spec_l28Sorted (a0 : List Int) : Option (List Int) :=
  chk (([] : List Int).length + a0.length < 1099511627776) (bnd (loopF (M.spec_l28Sorted_l1) (([] : List Int) ++ a0, 1)) fun o => outc o (fun x => some x) (fun s => M.spec_l28Sorted_a1 s))
def M.spec_l28Sign (a0 : Int) (a1 : Int) : Option Int :=
  ifB (decide (a0 < a1)) (some (-1)) (ifB (decide (a1 < a0)) (some 1) (some 0))
def M.spec_l28Compare_a2 (s_l2 : Int) : Option (Int × Int × Int) :=
  some (0, 0, 0)
def M.spec_l28Compare_l2 (a0 : Table) (a2 : Int) (a3 : Int) (s_l2 : Int) : Option (Stp (Int × Int × Int) Int) :=
  ifB (decide (0 ≤ s_l2)) (bnd (idx a0.Points s_l2) fun x368 => bnd (idx x368 a2) fun x378 => bnd (idx a0.Points s_l2) fun x390 => bnd (idx x390 a3) fun x400 => ifB (x378 != x400) (bnd (idx a0.Points s_l2) fun x414 => bnd (idx x414 a2) fun x424 => bnd (idx a0.Points s_l2) fun x436 => bnd (idx x436 a3) fun x446 => bnd (M.spec_l28Sign x424 x446) fun x452 => some (.ret (x452, 3, s_l2))) (some (.cont (w64 (s_l2 - 1))))) (some (.brk s_l2))
def M.spec_l28Compare_a1 (a0 : Table) (a2 : Int) (a3 : Int) (s_l1 : Int) : Option (Int × Int × Int) :=
  bnd (loopF (M.spec_l28Compare_l2 a0 a2 a3) (w64 ((a0.Points.length : Int) - 1))) fun o => outc o (fun x => some x) (fun s => M.spec_l28Compare_a2 s)
def M.spec_l28Compare_j1 (x16 : (List Int)) (x30 : (List Int)) (s_l1 : Int) (s_j1 : Bool) : Option (Stp (Int × Int × Int) Int) :=
  ifB s_j1 (bnd (idx x16 s_l1) fun x474 => bnd (idx x30 s_l1) fun x480 => ifB (x474 != x480) (bnd (idx x16 s_l1) fun x488 => bnd (idx x30 s_l1) fun x494 => bnd (M.spec_l28Sign x488 x494) fun x500 => some (.ret (x500, 2, 0))) (some (.cont (w64 (s_l1 + 1))))) (some (.brk s_l1))
def M.spec_l28Compare_l1 (x16 : (List Int)) (x30 : (List Int)) (s_l1 : Int) : Option (Stp (Int × Int × Int) Int) :=
  ifB (decide (s_l1 < (x16.length : Int))) (M.spec_l28Compare_j1 x16 x30 s_l1 (decide (s_l1 < (x30.length : Int)))) (M.spec_l28Compare_j1 x16 x30 s_l1 false)
def M.spec_l28Compare (a0 : Table) (a1 : List Int) (a2 : Int) (a3 : Int) : Option (Int × Int × Int) :=
  bnd (M.spec_l27Counted a0 a1 a2) fun x9 => bnd (M.spec_l28Sorted x9) fun x16 => bnd (M.spec_l27Counted a0 a1 a3) fun x23 => bnd (M.spec_l28Sorted x23) fun x30 => bnd (M.spec_l27Sum x16) fun x37 => bnd (M.spec_l27Sum x30) fun x42 => ifB (x37 != x42) (bnd (M.spec_l27Sum x16) fun x48 => bnd (M.spec_l27Sum x30) fun x53 => bnd (M.spec_l28Sign x48 x53) fun x58 => some (x58, 1, 0)) (bnd (loopF (M.spec_l28Compare_l1 x16 x30) 0) fun o => outc o (fun x => some x) (fun s => M.spec_l28Compare_a1 a0 a2 a3 s))
def M.spec_l28Rank_a1 (s_l1 : Int × Int) : Option Int :=
  some s_l1.1
def M.spec_l28Rank_j1 (s_l1 : Int × Int) (s_j1 : Int) : Option (Stp Int (Int × Int)) :=
  some (.cont (s_j1, w64 (s_l1.2 + 1)))
def M.spec_l28Rank_j2 (s_l1 : Int × Int) (s_j2 : Int) : Option (Stp Int (Int × Int)) :=
  M.spec_l28Rank_j1 s_l1 s_j2
def M.spec_l28Rank_l1 (a0 : Table) (a1 : List Int) (a2 : Int) (s_l1 : Int × Int) : Option (Stp Int (Int × Int)) :=
  ifB (decide (s_l1.2 < a0.Boats)) (bnd (M.spec_l28Compare a0 a1 s_l1.2 a2) fun x159 => ifB (decide (x159.1 < 0)) (M.spec_l28Rank_j2 s_l1 (w64 (s_l1.1 + 1))) (M.spec_l28Rank_j2 s_l1 s_l1.1)) (some (.brk (s_l1.1, s_l1.2)))
def M.spec_l28Rank (a0 : Table) (a1 : List Int) (a2 : Int) : Option Int :=
  bnd (loopF (M.spec_l28Rank_l1 a0 a1 a2) (1, 0)) fun o => outc o (fun x => some x) (fun s => M.spec_l28Rank_a1 s)
def M.spec_IsSeries_a1 (s_l1 : Int) : Option Bool :=
  some true
def M.spec_IsSeries_l1 (a0 : Series) (s_l1 : Int) : Option (Stp Bool Int) :=
  ifB (decide (s_l1 < (a0.Races.length : Int))) (bnd (idx a0.Races s_l1) fun x83 => bnd (M.spec_l26Race a0.Boats x83) fun x93 => ifB (!x93) (some (.ret false)) (some (.cont (w64 (s_l1 + 1))))) (some (.brk s_l1))
def M.spec_IsSeries_j1 (a0 : Series) (s_j1 : Bool) : Option Bool :=
  ifB s_j1 (some false) (bnd (loopF (M.spec_IsSeries_l1 a0) 0) fun o => outc o (fun x => some x) (fun s => M.spec_IsSeries_a1 s))
def M.spec_IsSeries (a0 : Series) : Option Bool :=
  bnd (M.spec_l01In a0.Boats 1 16) fun x97 => ifB (!x97) (M.spec_IsSeries_j1 a0 true) (bnd (M.spec_l01In a0.Scheme 0 1) fun x103 => ifB (!x103) (M.spec_IsSeries_j1 a0 true) (M.spec_IsSeries_j1 a0 (decide (12 < (a0.Races.length : Int)))))
def M.spec_l26Place_a1 (s_l1 : Int × Int × Int) : Option (Int × Int) :=
  some (s_l1.1, s_l1.2.1)
def M.spec_l26Place_j1 (s_l1 : Int × Int × Int) (s_j1 : Int × Int) : Option (Stp (Int × Int) (Int × Int × Int)) :=
  some (.cont (s_j1.1, s_j1.2, w64 (s_l1.2.2 + 1)))
def M.spec_l26Place_j2 (s_l1 : Int × Int × Int) (s_j2 : Int × Int) : Option (Stp (Int × Int) (Int × Int × Int)) :=
  M.spec_l26Place_j1 s_l1 (s_j2.1, s_j2.2)
def M.spec_l26Place_j4 (a0 : Race) (a2 : Int) (s_l1 : Int × Int × Int) (x1059 : Finish) (s_j4 : Int) : Option (Stp (Int × Int) (Int × Int × Int)) :=
  bnd (idx a0.Finishes a2) fun x1113 => ifB (x1059.Time == x1113.Time) (M.spec_l26Place_j2 s_l1 (s_j4, w64 (s_l1.2.1 + 1))) (M.spec_l26Place_j2 s_l1 (s_j4, s_l1.2.1))
def M.spec_l26Place_j3 (a0 : Race) (a2 : Int) (s_l1 : Int × Int × Int) (x1059 : Finish) (s_j3 : Bool) : Option (Stp (Int × Int) (Int × Int × Int)) :=
  ifB s_j3 (M.spec_l26Place_j2 s_l1 (s_l1.1, s_l1.2.1)) (bnd (idx a0.Finishes a2) fun x1121 => ifB (decide (x1059.Time < x1121.Time)) (M.spec_l26Place_j4 a0 a2 s_l1 x1059 (w64 (s_l1.1 + 1))) (M.spec_l26Place_j4 a0 a2 s_l1 x1059 s_l1.1))
def M.spec_l26Place_l1 (a0 : Race) (a1 : List Int) (a2 : Int) (s_l1 : Int × Int × Int) : Option (Stp (Int × Int) (Int × Int × Int)) :=
  ifB (decide (s_l1.2.2 < (a0.Finishes.length : Int))) (bnd (idx a0.Finishes s_l1.2.2) fun x1059 => bnd (M.spec_l26Done x1059) fun x1129 => ifB (!x1129) (M.spec_l26Place_j3 a0 a2 s_l1 x1059 true) (bnd (idx a1 s_l1.2.2) fun x1133 => bnd (idx a1 a2) fun x1139 => M.spec_l26Place_j3 a0 a2 s_l1 x1059 (x1133 != x1139))) (some (.brk (s_l1.1, s_l1.2.1, s_l1.2.2)))
def M.spec_l26Place (a0 : Race) (a1 : List Int) (a2 : Int) : Option (Int × Int) :=
  bnd (loopF (M.spec_l26Place_l1 a0 a1 a2) (1, 0, 0)) fun o => outc o (fun x => some x) (fun s => M.spec_l26Place_a1 s)
def M.spec_l26Points_a2 (s_l2 : (List Int) × Int) : Option (List Int) :=
  some s_l2.1
def M.spec_l26Points_j1 (s_l2 : (List Int) × Int) (s_j1 : (List Int)) : Option (Stp (List Int) ((List Int) × Int)) :=
  some (.cont (s_j1, w64 (s_l2.2 + 1)))
def M.spec_l26Points_j2 (s_l2 : (List Int) × Int) (s_j2 : (List Int)) : Option (Stp (List Int) ((List Int) × Int)) :=
  M.spec_l26Points_j1 s_l2 s_j2
def M.spec_l26Points_j3 (s_l2 : (List Int) × Int) (s_j3 : (List Int)) : Option (Stp (List Int) ((List Int) × Int)) :=
  M.spec_l26Points_j2 s_l2 s_j3
def M.spec_l26Points_j4 (a0 : Race) (s_l1 : Int × Int) (s_l2 : (List Int) × Int) (s_j4 : Bool) : Option (Stp (List Int) ((List Int) × Int)) :=
  ifB s_j4 (bnd (idx s_l2.1 s_l2.2) fun x1402 => M.spec_l26Points_j3 s_l2 (s_l2.1.set (s_l2.2 : Int).toNat (w64 (10 * (w64 ((a0.Finishes.length : Int) + 1)))))) (bnd (idx s_l2.1 s_l2.2) fun x1409 => M.spec_l26Points_j3 s_l2 (s_l2.1.set (s_l2.2 : Int).toNat (w64 (10 * (w64 (s_l1.1 + 1))))))
def M.spec_l26Points_l2 (a0 : Race) (a1 : Int) (s_l1 : Int × Int) (s_l2 : (List Int) × Int) : Option (Stp (List Int) ((List Int) × Int)) :=
  ifB (decide (s_l2.2 < (s_l2.1.length : Int))) (bnd (idx a0.Finishes s_l2.2) fun x1319 => ifB (x1319.Code == 0) (bnd (M.spec_l26Place a0 (List.replicate ((a0.Finishes.length : Int)).toNat (0 : Int)) s_l2.2) fun x1377 => bnd (idx s_l2.1 s_l2.2) fun x1382 => M.spec_l26Points_j3 s_l2 (s_l2.1.set (s_l2.2 : Int).toNat (w64 (5 * (w64 ((w64 ((w64 (2 * x1377.1)) + x1377.2)) - 1)))))) (ifB (x1319.Code == 9) (M.spec_l26Points_j3 s_l2 s_l2.1) (ifB (x1319.Code == 1) (M.spec_l26Points_j4 a0 s_l1 s_l2 true) (M.spec_l26Points_j4 a0 s_l1 s_l2 (a1 == 0))))) (some (.brk (s_l2.1, s_l2.2)))
def M.spec_l26Points_a1 (a0 : Race) (a1 : Int) (s_l1 : Int × Int) : Option (List Int) :=
  chk (0 ≤ (a0.Finishes.length : Int) ∧ (a0.Finishes.length : Int) < 1099511627776) (chk (0 ≤ (a0.Finishes.length : Int) ∧ (a0.Finishes.length : Int) < 1099511627776) (bnd (loopF (M.spec_l26Points_l2 a0 a1 s_l1) (List.replicate ((a0.Finishes.length : Int)).toNat (0 : Int), 0)) fun o => outc o (fun x => some x) (fun s => M.spec_l26Points_a2 s)))
def M.spec_l26Points_j5 (s_l1 : Int × Int) (s_j5 : Int) : Option (Stp (List Int) (Int × Int)) :=
  some (.cont (s_j5, w64 (s_l1.2 + 1)))
def M.spec_l26Points_j6 (s_l1 : Int × Int) (s_j6 : Int) : Option (Stp (List Int) (Int × Int)) :=
  M.spec_l26Points_j5 s_l1 s_j6
def M.spec_l26Points_l1 (a0 : Race) (s_l1 : Int × Int) : Option (Stp (List Int) (Int × Int)) :=
  ifB (decide (s_l1.2 < (a0.Finishes.length : Int))) (bnd (idx a0.Finishes s_l1.2) fun x1467 => ifB (x1467.Code != 1) (M.spec_l26Points_j6 s_l1 (w64 (s_l1.1 + 1))) (M.spec_l26Points_j6 s_l1 s_l1.1)) (some (.brk (s_l1.1, s_l1.2)))
def M.spec_l26Points (a0 : Race) (a1 : Int) : Option (List Int) :=
  bnd (loopF (M.spec_l26Points_l1 a0) (0, 0)) fun o => outc o (fun x => some x) (fun s => M.spec_l26Points_a1 a0 a1 s)
def M.laws_szRaceS_a1 (s_l1 : Int × Int) : Option Int :=
  some s_l1.1
def M.laws_szRaceS_l1 (a0 : List Race) (s_l1 : Int × Int) : Option (Stp Int (Int × Int)) :=
  ifB (decide (s_l1.2 < (a0.length : Int))) (bnd (idx a0 s_l1.2) fun x71 => bnd (M.laws_szRace x71 s_l1.1) fun x81 => ifB (decide (x81 < 0)) (some (.ret (-1))) (some (.cont (x81, w64 (s_l1.2 + 1))))) (some (.brk (s_l1.1, s_l1.2)))
def M.laws_szRaceS (a0 : List Race) (a1 : Int) : Option Int :=
  ifB (decide ((w64 (a1 - (a0.length : Int))) < 0)) (some (-1)) (bnd (loopF (M.laws_szRaceS_l1 a0) (w64 (a1 - (a0.length : Int)), 0)) fun o => outc o (fun x => some x) (fun s => M.laws_szRaceS_a1 s))
def M.laws_szSeries (a0 : Series) (a1 : Int) : Option Int :=
  bnd (M.laws_szRaceS a0.Races a1) fun x5 => ifB (decide (x5 < 0)) (some (-1)) (some x5)
def M.laws_szPenaltyS (a0 : List Penalty) (a1 : Int) : Option Int :=
  ifB (decide ((w64 (a1 - (a0.length : Int))) < 0)) (some (-1)) (some (w64 (a1 - (a0.length : Int))))
def M.laws_toRaceS_a1 (s_l1 : (List Race) × Int) : Option (List Race) :=
  some s_l1.1
def M.laws_toRaceS_l1 (a0 : List Race) (s_l1 : (List Race) × Int) : Option (Stp (List Race) ((List Race) × Int)) :=
  ifB (decide (s_l1.2 < (a0.length : Int))) (bnd (idx a0 s_l1.2) fun x118 => bnd (M.laws_toRace x118) fun x128 => bnd (idx s_l1.1 s_l1.2) fun x143 => some (.cont (s_l1.1.set (s_l1.2 : Int).toNat (Race.mk x128.Finishes), w64 (s_l1.2 + 1)))) (some (.brk (s_l1.1, s_l1.2)))
def M.laws_toRaceS (a0 : List Race) : Option (List Race) :=
  chk (0 ≤ (a0.length : Int) ∧ (a0.length : Int) < 1099511627776) (bnd (loopF (M.laws_toRaceS_l1 a0) (List.replicate ((a0.length : Int)).toNat ((Race.mk ([] : List Finish)) : Race), 0)) fun o => outc o (fun x => some x) (fun s => M.laws_toRaceS_a1 s))
def M.laws_toSeries (a0 : Series) : Option Series :=
  bnd (M.laws_toRaceS a0.Races) fun x11 => some (Series.mk a0.Boats a0.Scheme x11)
def M.laws_toPenalty (a0 : Penalty) : Option Penalty :=
  some (Penalty.mk a0.Race a0.Boat a0.Kind a0.Value)
def M.laws_toPenaltyS_a1 (s_l1 : (List Penalty) × Int) : Option (List Penalty) :=
  some s_l1.1
def M.laws_toPenaltyS_l1 (a0 : List Penalty) (s_l1 : (List Penalty) × Int) : Option (Stp (List Penalty) ((List Penalty) × Int)) :=
  ifB (decide (s_l1.2 < (a0.length : Int))) (bnd (idx a0 s_l1.2) fun x62 => bnd (M.laws_toPenalty x62) fun x68 => bnd (idx s_l1.1 s_l1.2) fun x73 => some (.cont (s_l1.1.set (s_l1.2 : Int).toNat x68, w64 (s_l1.2 + 1)))) (some (.brk (s_l1.1, s_l1.2)))
def M.laws_toPenaltyS (a0 : List Penalty) : Option (List Penalty) :=
  chk (0 ≤ (a0.length : Int) ∧ (a0.length : Int) < 1099511627776) (bnd (loopF (M.laws_toPenaltyS_l1 a0) (List.replicate ((a0.length : Int)).toNat ((Penalty.mk 0 0 0 0) : Penalty), 0)) fun o => outc o (fun x => some x) (fun s => M.laws_toPenaltyS_a1 s))
def M.spec_l21Code_j1 (s_j1 : Bool) : Option Bool :=
  some s_j1
def M.spec_l21Code (a0 : Int) : Option Bool :=
  ifB (a0 == 6) (M.spec_l21Code_j1 true) (ifB (a0 == 7) (M.spec_l21Code_j1 true) (M.spec_l21Code_j1 (a0 == 5)))
def M.spec_l21Value (a0 : Int) (a1 : Int) : Option Bool :=
  ifB (a0 == 1) (bnd (M.spec_l21Code a1) fun x2 => some x2) (ifB (a0 == 2) (bnd (M.spec_l01In a1 1 1000000000) fun x8 => some x8) (ifB (a0 == 3) (bnd (M.spec_l01In a1 1 100) fun x14 => some x14) (some false)))
def M.spec_l21Valid_a1 (a1 : List Penalty) (s_l1 : Int) : Option Bool :=
  some (decide ((a1.length : Int) ≤ 60))
def M.spec_l21Valid_j1 (s_l1 : Int) (s_j1 : Bool) : Option (Stp Bool Int) :=
  ifB s_j1 (some (.ret false)) (some (.cont (w64 (s_l1 + 1))))
def M.spec_l21Valid_l1 (a0 : Series) (a1 : List Penalty) (s_l1 : Int) : Option (Stp Bool Int) :=
  ifB (decide (s_l1 < (a1.length : Int))) (bnd (idx a1 s_l1) fun x124 => bnd (M.spec_l01In x124.Race 0 (w64 ((a0.Races.length : Int) - 1))) fun x157 => ifB (!x157) (M.spec_l21Valid_j1 s_l1 true) (bnd (M.spec_l01In x124.Boat 0 (w64 (a0.Boats - 1))) fun x163 => ifB (!x163) (M.spec_l21Valid_j1 s_l1 true) (bnd (M.spec_l21Value x124.Kind x124.Value) fun x169 => M.spec_l21Valid_j1 s_l1 (!x169)))) (some (.brk s_l1))
def M.spec_l21Valid (a0 : Series) (a1 : List Penalty) : Option Bool :=
  bnd (loopF (M.spec_l21Valid_l1 a0 a1) 0) fun o => outc o (fun x => some x) (fun s => M.spec_l21Valid_a1 a1 s)
def M.impl_isScheme (a0 : Int) : Option Bool :=
  bnd (M.impl_within a0 0 1) fun x1 => some x1
def M.impl_IsSeries_j1 (s_j1 : Bool) : Option Bool :=
  some s_j1
def M.impl_IsSeries_a1 (a0 : Series) (s_l1 : Int) : Option Bool :=
  bnd (M.impl_within a0.Boats 1 16) fun x82 => ifB x82 (bnd (M.impl_isScheme a0.Scheme) fun x88 => ifB x88 (M.impl_IsSeries_j1 (decide ((a0.Races.length : Int) ≤ 12))) (M.impl_IsSeries_j1 false)) (M.impl_IsSeries_j1 false)
def M.impl_IsSeries_l1 (a0 : Series) (s_l1 : Int) : Option (Stp Bool Int) :=
  ifB (decide (s_l1 < (a0.Races.length : Int))) (bnd (idx a0.Races s_l1) fun x107 => bnd (M.impl_IsRace a0.Boats x107) fun x120 => ifB (!x120) (some (.ret false)) (some (.cont (w64 (s_l1 + 1))))) (some (.brk s_l1))
def M.impl_IsSeries (a0 : Series) : Option Bool :=
  bnd (loopF (M.impl_IsSeries_l1 a0) 0) fun o => outc o (fun x => some x) (fun s => M.impl_IsSeries_a1 a0 s)
def M.impl_isPenaltyCode_j1 (s_j1 : Bool) : Option Bool :=
  some s_j1
def M.impl_isPenaltyCode (a0 : Int) : Option Bool :=
  ifB (a0 == 6) (M.impl_isPenaltyCode_j1 true) (ifB (a0 == 7) (M.impl_isPenaltyCode_j1 true) (M.impl_isPenaltyCode_j1 (a0 == 5)))
def M.impl_isElapsed (a0 : Int) : Option Bool :=
  bnd (M.impl_within a0 1 1000000000) fun x1 => some x1
def M.impl_isPenalty_j1 (s_j1 : Bool) : Option Bool :=
  some s_j1
def M.impl_isPenalty (a0 : Penalty) : Option Bool :=
  ifB (a0.Kind == 1) (bnd (M.impl_isPenaltyCode a0.Value) fun x4 => some x4) (ifB (a0.Kind == 2) (bnd (M.impl_isElapsed a0.Value) fun x10 => some x10) (ifB (a0.Kind == 3) (bnd (M.impl_within a0.Value 1 100) fun x25 => M.impl_isPenalty_j1 x25) (M.impl_isPenalty_j1 false)))
def M.impl_arePenalties_a1 (a1 : List Penalty) (s_l1 : Int) : Option Bool :=
  some (decide ((a1.length : Int) ≤ 60))
def M.impl_arePenalties_j1 (s_l1 : Int) (s_j1 : Bool) : Option (Stp Bool Int) :=
  ifB s_j1 (some (.ret false)) (some (.cont (w64 (s_l1 + 1))))
def M.impl_arePenalties_l1 (a0 : Series) (a1 : List Penalty) (s_l1 : Int) : Option (Stp Bool Int) :=
  ifB (decide (s_l1 < (a1.length : Int))) (bnd (idx a1 s_l1) fun x132 => bnd (M.impl_within x132.Race 0 (w64 ((a0.Races.length : Int) - 1))) fun x167 => ifB (!x167) (M.impl_arePenalties_j1 s_l1 true) (bnd (M.impl_within x132.Boat 0 (w64 (a0.Boats - 1))) fun x173 => ifB (!x173) (M.impl_arePenalties_j1 s_l1 true) (bnd (M.impl_isPenalty x132) fun x179 => M.impl_arePenalties_j1 s_l1 (!x179)))) (some (.brk s_l1))
def M.impl_arePenalties (a0 : Series) (a1 : List Penalty) : Option Bool :=
  bnd (loopF (M.impl_arePenalties_l1 a0 a1) 0) fun o => outc o (fun x => some x) (fun s => M.impl_arePenalties_a1 a1 s)
def M.laws_eqRaceS_a1 (s_l1 : Int) : Option Bool :=
  some true
def M.laws_eqRaceS_l1 (a0 : List Race) (a1 : List Race) (s_l1 : Int) : Option (Stp Bool Int) :=
  ifB (decide (s_l1 < (a0.length : Int))) (bnd (idx a0 s_l1) fun x101 => bnd (idx a1 s_l1) fun x117 => bnd (M.laws_eqRace x101 x117) fun x127 => ifB (!x127) (some (.ret false)) (some (.cont (w64 (s_l1 + 1))))) (some (.brk s_l1))
def M.laws_eqRaceS (a0 : List Race) (a1 : List Race) : Option Bool :=
  ifB ((a0.length : Int) != (a1.length : Int)) (some false) (bnd (loopF (M.laws_eqRaceS_l1 a0 a1) 0) fun o => outc o (fun x => some x) (fun s => M.laws_eqRaceS_a1 s))
def M.laws_eqSeries (a0 : Series) (a1 : Series) : Option Bool :=
  ifB (a0.Boats != a1.Boats) (some false) (ifB (a0.Scheme != a1.Scheme) (some false) (bnd (M.laws_eqRaceS a0.Races a1.Races) fun x11 => ifB (!x11) (some false) (some true)))
def M.laws_eqPenalty (a0 : Penalty) (a1 : Penalty) : Option Bool :=
  ifB (a0.Race != a1.Race) (some false) (ifB (a0.Boat != a1.Boat) (some false) (ifB (a0.Kind != a1.Kind) (some false) (ifB (a0.Value != a1.Value) (some false) (some true))))
def M.laws_eqPenaltyS_a1 (s_l1 : Int) : Option Bool :=
  some true
def M.laws_eqPenaltyS_l1 (a0 : List Penalty) (a1 : List Penalty) (s_l1 : Int) : Option (Stp Bool Int) :=
  ifB (decide (s_l1 < (a0.length : Int))) (bnd (idx a0 s_l1) fun x55 => bnd (idx a1 s_l1) fun x61 => bnd (M.laws_eqPenalty x55 x61) fun x67 => ifB (!x67) (some (.ret false)) (some (.cont (w64 (s_l1 + 1))))) (some (.brk s_l1))
def M.laws_eqPenaltyS (a0 : List Penalty) (a1 : List Penalty) : Option Bool :=
  ifB ((a0.length : Int) != (a1.length : Int)) (some false) (bnd (loopF (M.laws_eqPenaltyS_l1 a0 a1) 0) fun o => outc o (fun x => some x) (fun s => M.laws_eqPenaltyS_a1 s))
def M.impl_penaltyCode (a0 : Series) (a1 : List Penalty) : Option Int :=
  bnd (M.impl_IsSeries a0) fun x7 => ifB (!x7) (some 1) (bnd (M.impl_arePenalties a0 a1) fun x13 => ifB (!x13) (some 2) (some 0))
def M.spec_l21Result (a0 : Series) (a1 : List Penalty) : Option Int :=
  bnd (M.spec_IsSeries a0) fun x7 => ifB (!x7) (some 1) (bnd (M.spec_l21Valid a0 a1) fun x13 => ifB (!x13) (some 2) (some 0))
def M.impl_codePoints_a1 (s_l1 : Int × Int) : Option Int :=
  some (w64 (10 * (w64 (s_l1.1 + 1))))
def M.impl_codePoints_j1 (s_l1 : Int × Int) (s_j1 : Int) : Option (Stp Int (Int × Int)) :=
  some (.cont (s_j1, w64 (s_l1.2 + 1)))
def M.impl_codePoints_j2 (s_l1 : Int × Int) (s_j2 : Int) : Option (Stp Int (Int × Int)) :=
  M.impl_codePoints_j1 s_l1 s_j2
def M.impl_codePoints_j3 (s_l1 : Int × Int) (s_j3 : Bool) : Option (Stp Int (Int × Int)) :=
  ifB s_j3 (M.impl_codePoints_j2 s_l1 (w64 (s_l1.1 - 1))) (M.impl_codePoints_j2 s_l1 s_l1.1)
def M.impl_codePoints_l1 (a0 : List Finish) (a1 : Int) (a2 : Int) (s_l1 : Int × Int) : Option (Stp Int (Int × Int)) :=
  ifB (decide (s_l1.2 < (a0.length : Int))) (bnd (idx a0 s_l1.2) fun x352 => ifB (x352.Code == 1) (ifB (a1 != 1) (M.impl_codePoints_j3 s_l1 (a2 == 1)) (M.impl_codePoints_j3 s_l1 false)) (M.impl_codePoints_j3 s_l1 false)) (some (.brk (s_l1.1, s_l1.2)))
def M.impl_codePoints (a0 : List Finish) (a1 : Int) (a2 : Int) : Option Int :=
  ifB (a1 == 9) (some 0) (bnd (loopF (M.impl_codePoints_l1 a0 a1 a2) ((a0.length : Int), 0)) fun o => outc o (fun x => some x) (fun s => M.impl_codePoints_a1 s))
def M.impl_percentPoints (a0 : Int) (a1 : Int) : Option Int :=
  some (w64 ((w64 ((w64 ((w64 (20 * a0)) * a1)) + 100)).tdiv 200))
def M.spec_l21Percent (a0 : Int) (a1 : Int) : Option Int :=
  some (w64 ((w64 ((w64 ((w64 (20 * a0)) * a1)) + 100)).tdiv 200))
def M.spec_l21Worst (a0 : Series) (a1 : Int) (a2 : Int) : Option Int :=
  bnd (idx a0.Races a1) fun x14 => chk (([] : List Finish).length + x14.Finishes.length < 1099511627776) (bnd (idx (([] : List Finish) ++ x14.Finishes) a2) fun x28 => bnd (M.spec_l26Points (Race.mk ((([] : List Finish) ++ x14.Finishes).set (a2 : Int).toNat (Finish.mk a2 4 0))) a0.Scheme) fun x35 => bnd (idx x35 a2) fun x42 => some x42)
end Go.Proofs.YtgelmamcinlahaaGreat
