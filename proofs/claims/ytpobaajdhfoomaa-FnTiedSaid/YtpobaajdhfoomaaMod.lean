/- Models of the functions, printed by my generator: what each computes, as a Lean function on data. -/
import Derived.Test.YtpobaajdhfoomaaBase4
namespace Go.Proofs.Ytpobaajdhfoomaa
open Go Go.RowKit Go.ChangeShapes Go.WideShapes
set_option linter.unusedVariables false
set_option linter.unusedSimpArgs false

def M.laws_toProgressRules (a0 : ProgressRules) : Option ProgressRules :=
  some (ProgressRules.mk a0.Gain a0.Step a0.Low a0.High)
def M.spec_l01In_j1 (s_j1 : Bool) : Option Bool :=
  some s_j1
def M.spec_l01In (a0 : Int) (a1 : Int) (a2 : Int) : Option Bool :=
  ifB (decide (a1 ≤ a0)) (M.spec_l01In_j1 (decide (a0 ≤ a2))) (M.spec_l01In_j1 false)
def M.spec_l22Factor (a0 : Int) : Option Bool :=
  bnd (M.spec_l01In a0 1 3000) fun x1 => some x1
def M.spec_IsProgress_j1 (s_j1 : Bool) : Option Bool :=
  some s_j1
def M.spec_IsProgress (a0 : ProgressRules) : Option Bool :=
  bnd (M.spec_l01In a0.Gain 0 1000) fun x30 => ifB x30 (bnd (M.spec_l01In a0.Step 0 3000) fun x36 => ifB x36 (bnd (M.spec_l22Factor a0.Low) fun x42 => ifB x42 (bnd (M.spec_l22Factor a0.High) fun x48 => ifB x48 (M.spec_IsProgress_j1 (decide (a0.Low ≤ a0.High))) (M.spec_IsProgress_j1 false)) (M.spec_IsProgress_j1 false)) (M.spec_IsProgress_j1 false)) (M.spec_IsProgress_j1 false)
def M.impl_within_j1 (s_j1 : Bool) : Option Bool :=
  some s_j1
def M.impl_within (a0 : Int) (a1 : Int) (a2 : Int) : Option Bool :=
  ifB (decide (a1 ≤ a0)) (M.impl_within_j1 (decide (a0 ≤ a2))) (M.impl_within_j1 false)
def M.impl_IsProgress_j1 (s_j1 : Bool) : Option Bool :=
  some s_j1
def M.impl_IsProgress (a0 : ProgressRules) : Option Bool :=
  bnd (M.impl_within a0.Gain 0 1000) fun x24 => ifB x24 (bnd (M.impl_within a0.Step 0 3000) fun x30 => ifB x30 (bnd (M.impl_within a0.Low 1 a0.High) fun x36 => ifB x36 (M.impl_IsProgress_j1 (decide (a0.High ≤ 3000))) (M.impl_IsProgress_j1 false)) (M.impl_IsProgress_j1 false)) (M.impl_IsProgress_j1 false)
def M.laws_toInt64S_a1 (s_l1 : (List Int) × Int) : Option (List Int) :=
  some s_l1.1
def M.laws_toInt64S_l1 (a0 : List Int) (s_l1 : (List Int) × Int) : Option (Stp (List Int) ((List Int) × Int)) :=
  ifB (decide (s_l1.2 < (a0.length : Int))) (bnd (idx a0 s_l1.2) fun x52 => bnd (idx s_l1.1 s_l1.2) fun x58 => some (.cont (s_l1.1.set (s_l1.2 : Int).toNat x52, w64 (s_l1.2 + 1)))) (some (.brk (s_l1.1, s_l1.2)))
def M.laws_toInt64S (a0 : List Int) : Option (List Int) :=
  chk (0 ≤ (a0.length : Int) ∧ (a0.length : Int) < 1099511627776) (bnd (loopF (M.laws_toInt64S_l1 a0) (List.replicate ((a0.length : Int)).toNat (0 : Int), 0)) fun o => outc o (fun x => some x) (fun s => M.laws_toInt64S_a1 s))
def M.spec_IsDiscardRule_a1 (s_l1 : Int) : Option Bool :=
  some true
def M.spec_IsDiscardRule_j1 (s_l1 : Int) (s_j1 : Bool) : Option (Stp Bool Int) :=
  ifB s_j1 (some (.ret false)) (some (.cont (w64 (s_l1 + 1))))
def M.spec_IsDiscardRule_l1 (a0 : List Int) (s_l1 : Int) : Option (Stp Bool Int) :=
  ifB (decide (s_l1 < (a0.length : Int))) (bnd (idx a0 s_l1) fun x162 => bnd (M.spec_l01In x162 1 12) fun x168 => ifB (!x168) (M.spec_IsDiscardRule_j1 s_l1 true) (ifB (decide (0 < s_l1)) (bnd (idx a0 (w64 (s_l1 - 1))) fun x173 => bnd (idx a0 s_l1) fun x179 => M.spec_IsDiscardRule_j1 s_l1 (decide (x179 ≤ x173))) (M.spec_IsDiscardRule_j1 s_l1 false))) (some (.brk s_l1))
def M.spec_IsDiscardRule (a0 : List Int) : Option Bool :=
  ifB (decide (3 < (a0.length : Int))) (some false) (bnd (loopF (M.spec_IsDiscardRule_l1 a0) 0) fun o => outc o (fun x => some x) (fun s => M.spec_IsDiscardRule_a1 s))
def M.impl_IsDiscardRule_a1 (a0 : List Int) (s_l1 : Int) : Option Bool :=
  some (decide ((a0.length : Int) ≤ 3))
def M.impl_IsDiscardRule_j1 (s_l1 : Int) (s_j1 : Bool) : Option (Stp Bool Int) :=
  ifB s_j1 (some (.ret false)) (some (.cont (w64 (s_l1 + 1))))
def M.impl_IsDiscardRule_l1 (a0 : List Int) (s_l1 : Int) : Option (Stp Bool Int) :=
  ifB (decide (s_l1 < (a0.length : Int))) (bnd (idx a0 s_l1) fun x102 => bnd (M.impl_within x102 1 12) fun x129 => ifB (!x129) (M.impl_IsDiscardRule_j1 s_l1 true) (ifB (decide (0 < s_l1)) (bnd (idx a0 (w64 (s_l1 - 1))) fun x136 => M.impl_IsDiscardRule_j1 s_l1 (decide (x102 ≤ x136))) (M.impl_IsDiscardRule_j1 s_l1 false))) (some (.brk s_l1))
def M.impl_IsDiscardRule (a0 : List Int) : Option Bool :=
  bnd (loopF (M.impl_IsDiscardRule_l1 a0) 0) fun o => outc o (fun x => some x) (fun s => M.impl_IsDiscardRule_a1 a0 s)
def M.laws_eqInt64S_a1 (s_l1 : Int) : Option Bool :=
  some true
def M.laws_eqInt64S_l1 (a0 : List Int) (a1 : List Int) (s_l1 : Int) : Option (Stp Bool Int) :=
  ifB (decide (s_l1 < (a0.length : Int))) (bnd (idx a0 s_l1) fun x51 => bnd (idx a1 s_l1) fun x57 => ifB (x51 != x57) (some (.ret false)) (some (.cont (w64 (s_l1 + 1))))) (some (.brk s_l1))
def M.laws_eqInt64S (a0 : List Int) (a1 : List Int) : Option Bool :=
  ifB ((a0.length : Int) != (a1.length : Int)) (some false) (bnd (loopF (M.laws_eqInt64S_l1 a0 a1) 0) fun o => outc o (fun x => some x) (fun s => M.laws_eqInt64S_a1 s))
def M.spec_l25New (a0 : ProgressRules) (a1 : Int) (a2 : Int) : Option Int :=
  some (max a0.Low (min a0.High (w64 (a1 + (max (w64 (0 - a0.Step)) (min a0.Step (w64 ((w64 (a0.Gain * (w64 (a2 - a1)))).tdiv 1000))))))))
def M.impl_isFactor (a0 : Int) : Option Bool :=
  bnd (M.impl_within a0 1 3000) fun x1 => some x1
def M.impl_progress (a0 : ProgressRules) (a1 : Int) (a2 : Int) : Option Int :=
  some (max a0.Low (min a0.High (w64 (a1 + (max (w64 (0 - a0.Step)) (min a0.Step (w64 ((w64 (a0.Gain * (w64 (a2 - a1)))).tdiv 1000))))))))
def M.impl_ProgressFactor_j1 (a0 : ProgressRules) (a1 : Int) (a2 : Int) (s_j1 : Bool) : Option (Int × Int) :=
  ifB s_j1 (some (0, 2)) (bnd (M.impl_progress a0 a1 a2) fun x27 => some (x27, 0))
def M.impl_ProgressFactor (a0 : ProgressRules) (a1 : Int) (a2 : Int) : Option (Int × Int) :=
  bnd (M.impl_IsProgress a0) fun x3 => ifB (!x3) (some (0, 1)) (bnd (M.impl_isFactor a1) fun x32 => ifB (!x32) (M.impl_ProgressFactor_j1 a0 a1 a2 true) (bnd (M.impl_isFactor a2) fun x38 => M.impl_ProgressFactor_j1 a0 a1 a2 (!x38)))
def M.spec_l27Count_a1 (s_l1 : Int × Int) : Option Int :=
  some s_l1.1
def M.spec_l27Count_j1 (s_l1 : Int × Int) (s_j1 : Int) : Option (Stp Int (Int × Int)) :=
  some (.cont (s_j1, w64 (s_l1.2 + 1)))
def M.spec_l27Count_j2 (s_l1 : Int × Int) (s_j2 : Int) : Option (Stp Int (Int × Int)) :=
  M.spec_l27Count_j1 s_l1 s_j2
def M.spec_l27Count_l1 (a0 : List Int) (a1 : Int) (s_l1 : Int × Int) : Option (Stp Int (Int × Int)) :=
  ifB (decide (s_l1.2 < (a0.length : Int))) (bnd (idx a0 s_l1.2) fun x153 => ifB (decide (x153 ≤ a1)) (M.spec_l27Count_j2 s_l1 (w64 (s_l1.1 + 1))) (M.spec_l27Count_j2 s_l1 s_l1.1)) (some (.brk (s_l1.1, s_l1.2)))
def M.spec_l27Count (a0 : List Int) (a1 : Int) : Option Int :=
  bnd (loopF (M.spec_l27Count_l1 a0 a1) (0, 0)) fun o => outc o (fun x => some x) (fun s => M.spec_l27Count_a1 s)
def M.spec_DiscardCount_j1 (a0 : List Int) (a1 : Int) (s_j1 : Bool) : Option Int :=
  ifB s_j1 (some (-1)) (bnd (M.spec_l27Count a0 a1) fun x20 => some x20)
def M.spec_DiscardCount (a0 : List Int) (a1 : Int) : Option Int :=
  bnd (M.spec_IsDiscardRule a0) fun x25 => ifB (!x25) (M.spec_DiscardCount_j1 a0 a1 true) (bnd (M.spec_l01In a1 0 12) fun x31 => M.spec_DiscardCount_j1 a0 a1 (!x31))
def M.impl_discardCount_a1 (s_l1 : Int × Int) : Option Int :=
  some s_l1.1
def M.impl_discardCount_j1 (s_l1 : Int × Int) (s_j1 : Int) : Option (Stp Int (Int × Int)) :=
  some (.cont (s_j1, w64 (s_l1.2 + 1)))
def M.impl_discardCount_j2 (s_l1 : Int × Int) (s_j2 : Int) : Option (Stp Int (Int × Int)) :=
  M.impl_discardCount_j1 s_l1 s_j2
def M.impl_discardCount_l1 (a0 : List Int) (a1 : Int) (s_l1 : Int × Int) : Option (Stp Int (Int × Int)) :=
  ifB (decide (s_l1.2 < (a0.length : Int))) (bnd (idx a0 s_l1.2) fun x164 => ifB (decide (x164 ≤ a1)) (M.impl_discardCount_j2 s_l1 (w64 (s_l1.1 + 1))) (M.impl_discardCount_j2 s_l1 s_l1.1)) (some (.brk (s_l1.1, s_l1.2)))
def M.impl_discardCount (a0 : List Int) (a1 : Int) : Option Int :=
  bnd (loopF (M.impl_discardCount_l1 a0 a1) (0, 0)) fun o => outc o (fun x => some x) (fun s => M.impl_discardCount_a1 s)
def M.impl_DiscardCount_j1 (a0 : List Int) (a1 : Int) (s_j1 : Bool) : Option Int :=
  ifB s_j1 (some (-1)) (bnd (M.impl_discardCount a0 a1) fun x20 => some x20)
def M.impl_DiscardCount (a0 : List Int) (a1 : Int) : Option Int :=
  bnd (M.impl_IsDiscardRule a0) fun x25 => ifB (!x25) (M.impl_DiscardCount_j1 a0 a1 true) (bnd (M.impl_within a1 0 12) fun x31 => M.impl_DiscardCount_j1 a0 a1 (!x31))
def M.laws_big (a0 : List UInt8) : Option Bool :=
  some (decide (4096 < (a0.length : Int)))
def M.spec_l01From_a1 (s_l1 : Int × Int) : Option (Int × Int) :=
  some (0, s_l1.1)
def M.spec_l01From_j1 (a0 : List UInt8) (s_l1 : Int × Int) (s_j1 : Bool) : Option (Stp (Int × Int) (Int × Int)) :=
  ifB s_j1 (bnd (idx a0 s_l1.2) fun x80 => some (.cont ((w64 ((w64 (s_l1.1 * 53)) + (IntKind.i64.wrap (x80.toNat : Int)))).tmod 2147483647, w64 (s_l1.2 + 1)))) (some (.brk (s_l1.1, s_l1.2)))
def M.spec_l01From_l1 (a0 : List UInt8) (s_l1 : Int × Int) : Option (Stp (Int × Int) (Int × Int)) :=
  ifB (decide (s_l1.2 < (a0.length : Int))) (M.spec_l01From_j1 a0 s_l1 (decide (s_l1.2 < 64))) (M.spec_l01From_j1 a0 s_l1 false)
def M.spec_l01From (a0 : List UInt8) : Option (Int × Int) :=
  bnd (loopF (M.spec_l01From_l1 a0) (61657, 0)) fun o => outc o (fun x => some x) (fun s => M.spec_l01From_a1 s)
def M.spec_l01Next_j1 (a0 : Src) (a1 : Int) (s_j1 : Int × Int) : Option ((Int) × (Int × Int)) :=
  chk (a1 ≠ 0) (some (s_j1.2.tmod a1, (s_j1.1, (w64 ((w64 (a0.seed * 48271)) + 23)).tmod 2147483647)))
def M.spec_l01Next_j2 (a0 : Src) (a1 : Int) (x40 : UInt8) (s_j2 : Bool) : Option ((Int) × (Int × Int)) :=
  ifB s_j2 (bnd (idx a0.code (w64 ((w64 (a0.at_ + 1)) - 1))) fun x56 => M.spec_l01Next_j1 a0 a1 (w64 (a0.at_ + 1), IntKind.i64.wrap (x56.toNat : Int))) (M.spec_l01Next_j1 a0 a1 (w64 (a0.at_ + 1), w64 ((w64 (((w64 ((w64 (a0.seed * 48271)) + 23)).tmod 2147483647).tdiv 17)) + (IntKind.i64.wrap (x40.toNat : Int)))))
def M.spec_l01Next (a0 : Src) (a1 : Int) : Option ((Int) × (Int × Int)) :=
  ifB (decide (a1 ≤ 1)) (some (0, (a0.at_, a0.seed))) (ifB (decide (a0.at_ < (a0.code.length : Int))) (bnd (idx a0.code a0.at_) fun x40 => ifB (decide (a1 ≤ 256)) (M.spec_l01Next_j2 a0 a1 x40 (((w64 (a0.at_ + 1)).tmod 2) == 0)) (M.spec_l01Next_j2 a0 a1 x40 false)) (M.spec_l01Next_j1 a0 a1 (a0.at_, w64 (((w64 ((w64 (a0.seed * 48271)) + 23)).tmod 2147483647).tdiv 17))))
def M.spec_l25Draw_j1 (s_j1 : Int × Int × Int × Int × Int × Int) : Option ((ProgressRules) × (Int × Int)) :=
  some ((ProgressRules.mk s_j1.2.2.1 s_j1.2.2.2.1 s_j1.2.2.2.2.1 s_j1.2.2.2.2.2), (s_j1.1, s_j1.2.1))
def M.spec_l25Draw_j2 (s_j2 : Int × Int × Int × Int × Int × Int) : Option ((ProgressRules) × (Int × Int)) :=
  M.spec_l25Draw_j1 (s_j2.1, s_j2.2.1, s_j2.2.2.1, s_j2.2.2.2.1, s_j2.2.2.2.2.1, s_j2.2.2.2.2.2)
def M.spec_l25Draw (a0 : Src) : Option ((ProgressRules) × (Int × Int)) :=
  bnd (M.spec_l01Next (Src.mk a0.code a0.at_ a0.seed) 1001) fun x7 => bnd (M.spec_l01Next (Src.mk a0.code x7.2.1 x7.2.2) 60) fun x12 => bnd (M.spec_l01Next (Src.mk a0.code x12.2.1 x12.2.2) 300) fun x17 => bnd (M.spec_l01Next (Src.mk a0.code x17.2.1 x17.2.2) 500) fun x22 => bnd (M.spec_l01Next (Src.mk a0.code x22.2.1 x22.2.2) 30) fun x426 => ifB (x426.1 == 0) (bnd (M.spec_l01Next (Src.mk a0.code x426.2.1 x426.2.2) 2) fun x630 => bnd (idx ([(-1), 1001] : List Int) x630.1) fun x635 => M.spec_l25Draw_j2 (x630.2.1, x630.2.2, x635, x12.1, w64 (600 + x17.1), w64 (1000 + x22.1))) (ifB (x426.1 == 1) (bnd (M.spec_l01Next (Src.mk a0.code x426.2.1 x426.2.2) 3) fun x667 => bnd (idx ([0, w64 (1000 + x22.1), w64 ((w64 (1000 + x22.1)) + 1)] : List Int) x667.1) fun x672 => M.spec_l25Draw_j2 (x667.2.1, x667.2.2, x7.1, x12.1, x672, w64 (1000 + x22.1))) (ifB (x426.1 == 2) (bnd (M.spec_l01Next (Src.mk a0.code x426.2.1 x426.2.2) 2) fun x789 => bnd (idx ([3000, 3001] : List Int) x789.1) fun x794 => M.spec_l25Draw_j2 (x789.2.1, x789.2.2, x7.1, x12.1, w64 (600 + x17.1), x794)) (ifB (x426.1 == 3) (bnd (M.spec_l01Next (Src.mk a0.code x426.2.1 x426.2.2) 3) fun x805 => bnd (idx ([(-1), 3000, 3001] : List Int) x805.1) fun x810 => M.spec_l25Draw_j2 (x805.2.1, x805.2.2, x7.1, x810, w64 (600 + x17.1), w64 (1000 + x22.1))) (M.spec_l25Draw_j2 (x426.2.1, x426.2.2, x7.1, x12.1, w64 (600 + x17.1), w64 (1000 + x22.1))))))
def M.spec_l22DrawFactor (a0 : Src) : Option ((Int) × (Int × Int)) :=
  bnd (M.spec_l01Next (Src.mk a0.code a0.at_ a0.seed) 24) fun x5 => ifB (x5.1 == 0) (bnd (M.spec_l01Next (Src.mk a0.code x5.2.1 x5.2.2) 4) fun x14 => bnd (idx ([0, 1, 3000, 3001] : List Int) x14.1) fun x19 => some (x19, (x14.2.1, x14.2.2))) (bnd (M.spec_l01Next (Src.mk a0.code x5.2.1 x5.2.2) 700) fun x25 => some (w64 (700 + x25.1), (x25.2.1, x25.2.2)))
def M.laws_szRatingS (a0 : List Rating) (a1 : Int) : Option Int :=
  ifB (decide ((w64 (a1 - (a0.length : Int))) < 0)) (some (-1)) (some (w64 (a1 - (a0.length : Int))))
def M.laws_toRating (a0 : Rating) : Option Rating :=
  some (Rating.mk a0.Boat a0.Value)
def M.laws_toRatingS_a1 (s_l1 : (List Rating) × Int) : Option (List Rating) :=
  some s_l1.1
def M.laws_toRatingS_l1 (a0 : List Rating) (s_l1 : (List Rating) × Int) : Option (Stp (List Rating) ((List Rating) × Int)) :=
  ifB (decide (s_l1.2 < (a0.length : Int))) (bnd (idx a0 s_l1.2) fun x62 => bnd (M.laws_toRating x62) fun x68 => bnd (idx s_l1.1 s_l1.2) fun x73 => some (.cont (s_l1.1.set (s_l1.2 : Int).toNat x68, w64 (s_l1.2 + 1)))) (some (.brk (s_l1.1, s_l1.2)))
def M.laws_toRatingS (a0 : List Rating) : Option (List Rating) :=
  chk (0 ≤ (a0.length : Int) ∧ (a0.length : Int) < 1099511627776) (bnd (loopF (M.laws_toRatingS_l1 a0) (List.replicate ((a0.length : Int)).toNat ((Rating.mk 0 0) : Rating), 0)) fun o => outc o (fun x => some x) (fun s => M.laws_toRatingS_a1 s))
def M.spec_IsRatings_a1 (s_l1 : Int) : Option Bool :=
  some true
def M.spec_IsRatings_j2 (s_l1 : Int) (s_j2 : Bool) : Option (Stp Bool Int) :=
  ifB s_j2 (some (.ret false)) (some (.cont (w64 (s_l1 + 1))))
def M.spec_IsRatings_l1 (a1 : List Rating) (s_l1 : Int) : Option (Stp Bool Int) :=
  ifB (decide (s_l1 < (a1.length : Int))) (bnd (idx a1 s_l1) fun x137 => ifB (x137.Boat != s_l1) (M.spec_IsRatings_j2 s_l1 true) (bnd (idx a1 s_l1) fun x144 => bnd (M.spec_l22Factor x144.Value) fun x150 => M.spec_IsRatings_j2 s_l1 (!x150))) (some (.brk s_l1))
def M.spec_IsRatings_j1 (a1 : List Rating) (s_j1 : Bool) : Option Bool :=
  ifB s_j1 (some false) (bnd (loopF (M.spec_IsRatings_l1 a1) 0) fun o => outc o (fun x => some x) (fun s => M.spec_IsRatings_a1 s))
def M.spec_IsRatings (a0 : Int) (a1 : List Rating) : Option Bool :=
  bnd (M.spec_l01In a0 1 16) fun x155 => ifB (!x155) (M.spec_IsRatings_j1 a1 true) (M.spec_IsRatings_j1 a1 ((a1.length : Int) != a0))
def M.impl_IsRatings_a1 (s_l1 : Int) : Option Bool :=
  some true
def M.impl_IsRatings_j2 (s_l1 : Int) (s_j2 : Bool) : Option (Stp Bool Int) :=
  ifB s_j2 (some (.ret false)) (some (.cont (w64 (s_l1 + 1))))
def M.impl_IsRatings_l1 (a1 : List Rating) (s_l1 : Int) : Option (Stp Bool Int) :=
  ifB (decide (s_l1 < (a1.length : Int))) (bnd (idx a1 s_l1) fun x87 => ifB (x87.Boat != s_l1) (M.impl_IsRatings_j2 s_l1 true) (bnd (M.impl_isFactor x87.Value) fun x110 => M.impl_IsRatings_j2 s_l1 (!x110))) (some (.brk s_l1))
def M.impl_IsRatings_j1 (a1 : List Rating) (s_j1 : Bool) : Option Bool :=
  ifB s_j1 (some false) (bnd (loopF (M.impl_IsRatings_l1 a1) 0) fun o => outc o (fun x => some x) (fun s => M.impl_IsRatings_a1 s))
def M.impl_IsRatings (a0 : Int) (a1 : List Rating) : Option Bool :=
  bnd (M.impl_within a0 1 16) fun x115 => ifB (!x115) (M.impl_IsRatings_j1 a1 true) (M.impl_IsRatings_j1 a1 ((a1.length : Int) != a0))
def M.impl_BoundedBoats_a1 (s_l1 : (List Int) × Int) : Option ((List Int) × Int) :=
  some (s_l1.1, 0)
def M.impl_BoundedBoats_j1 (s_l1 : (List Int) × Int) (s_j1 : (List Int)) : Option (Stp ((List Int) × Int) ((List Int) × Int)) :=
  some (.cont (s_j1, w64 (s_l1.2 + 1)))
def M.impl_BoundedBoats_j2 (s_l1 : (List Int) × Int) (s_j2 : (List Int)) : Option (Stp ((List Int) × Int) ((List Int) × Int)) :=
  M.impl_BoundedBoats_j1 s_l1 s_j2
def M.impl_BoundedBoats_j3 (s_l1 : (List Int) × Int) (x434 : Rating) (s_j3 : Bool) : Option (Stp ((List Int) × Int) ((List Int) × Int)) :=
  ifB s_j3 (chk (s_l1.1.length + ([x434.Boat] : List Int).length < 1099511627776) (M.impl_BoundedBoats_j2 s_l1 (s_l1.1 ++ ([x434.Boat] : List Int)))) (M.impl_BoundedBoats_j2 s_l1 s_l1.1)
def M.impl_BoundedBoats_l1 (a0 : ProgressRules) (a2 : List Rating) (s_l1 : (List Int) × Int) : Option (Stp ((List Int) × Int) ((List Int) × Int)) :=
  ifB (decide (s_l1.2 < (a2.length : Int))) (bnd (idx a2 s_l1.2) fun x434 => ifB (decide (x434.Value ≤ a0.Low)) (M.impl_BoundedBoats_j3 s_l1 x434 true) (M.impl_BoundedBoats_j3 s_l1 x434 (decide (a0.High ≤ x434.Value)))) (some (.brk (s_l1.1, s_l1.2)))
def M.impl_BoundedBoats (a0 : ProgressRules) (a1 : Int) (a2 : List Rating) : Option ((List Int) × Int) :=
  bnd (M.impl_IsProgress a0) fun x5 => ifB (!x5) (some ([], 1)) (bnd (M.impl_IsRatings a1 a2) fun x11 => ifB (!x11) (some ([], 2)) (bnd (loopF (M.impl_BoundedBoats_l1 a0 a2) (([] : List Int), 0)) fun o => outc o (fun x => some x) (fun s => M.impl_BoundedBoats_a1 s)))
def M.laws_eqRating (a0 : Rating) (a1 : Rating) : Option Bool :=
  ifB (a0.Boat != a1.Boat) (some false) (ifB (a0.Value != a1.Value) (some false) (some true))
def M.laws_eqRatingS_a1 (s_l1 : Int) : Option Bool :=
  some true
def M.laws_eqRatingS_l1 (a0 : List Rating) (a1 : List Rating) (s_l1 : Int) : Option (Stp Bool Int) :=
  ifB (decide (s_l1 < (a0.length : Int))) (bnd (idx a0 s_l1) fun x55 => bnd (idx a1 s_l1) fun x61 => bnd (M.laws_eqRating x55 x61) fun x67 => ifB (!x67) (some (.ret false)) (some (.cont (w64 (s_l1 + 1))))) (some (.brk s_l1))
def M.laws_eqRatingS (a0 : List Rating) (a1 : List Rating) : Option Bool :=
  ifB ((a0.length : Int) != (a1.length : Int)) (some false) (bnd (loopF (M.laws_eqRatingS_l1 a0 a1) 0) fun o => outc o (fun x => some x) (fun s => M.laws_eqRatingS_a1 s))
def M.laws_markRatingS_a1 (s_l1 : (List Rating) × Int × Int) : Option ((Int) × (List Rating)) :=
  some (s_l1.2.1, s_l1.1)
def M.laws_markRatingS_l1 (s_l1 : (List Rating) × Int × Int) : Option (Stp ((Int) × (List Rating)) ((List Rating) × Int × Int)) :=
  ifB (decide (s_l1.2.2 < (s_l1.1.length : Int))) (bnd (idx s_l1.1 s_l1.2.2) fun x52 => bnd (idx (s_l1.1.set (s_l1.2.2 : Int).toNat (Rating.mk s_l1.2.1 x52.Value)) s_l1.2.2) fun x59 => some (.cont ((s_l1.1.set (s_l1.2.2 : Int).toNat (Rating.mk s_l1.2.1 x52.Value)).set (s_l1.2.2 : Int).toNat (Rating.mk x59.Boat (w64 (s_l1.2.1 + 1))), w64 ((w64 (s_l1.2.1 + 1)) + 1), w64 (s_l1.2.2 + 1)))) (some (.brk (s_l1.1, s_l1.2.1, s_l1.2.2)))
def M.laws_markRatingS (a0 : List Rating) (a1 : Int) : Option ((Int) × (List Rating)) :=
  bnd (loopF (M.laws_markRatingS_l1) (a0, a1, 0)) fun o => outc o (fun x => some x) (fun s => M.laws_markRatingS_a1 s)
def M.laws_markInt64S_a1 (s_l1 : (List Int) × Int × Int) : Option ((Int) × (List Int)) :=
  some (s_l1.2.1, s_l1.1)
def M.laws_markInt64S_l1 (s_l1 : (List Int) × Int × Int) : Option (Stp ((Int) × (List Int)) ((List Int) × Int × Int)) :=
  ifB (decide (s_l1.2.2 < (s_l1.1.length : Int))) (bnd (idx s_l1.1 s_l1.2.2) fun x38 => some (.cont (s_l1.1.set (s_l1.2.2 : Int).toNat s_l1.2.1, w64 (s_l1.2.1 + 1), w64 (s_l1.2.2 + 1)))) (some (.brk (s_l1.1, s_l1.2.1, s_l1.2.2)))
def M.laws_markInt64S (a0 : List Int) (a1 : Int) : Option ((Int) × (List Int)) :=
  bnd (loopF (M.laws_markInt64S_l1) (a0, a1, 0)) fun o => outc o (fun x => some x) (fun s => M.laws_markInt64S_a1 s)
def M.laws_heldInt64S_a1 (s_l1 : Int × Int) : Option Int :=
  some s_l1.1
def M.laws_heldInt64S_l1 (a0 : List Int) (s_l1 : Int × Int) : Option (Stp Int (Int × Int)) :=
  ifB (decide (s_l1.2 < (a0.length : Int))) (bnd (idx a0 s_l1.2) fun x34 => ifB (x34 != s_l1.1) (some (.ret (-1))) (some (.cont (w64 (s_l1.1 + 1), w64 (s_l1.2 + 1))))) (some (.brk (s_l1.1, s_l1.2)))
def M.laws_heldInt64S (a0 : List Int) (a1 : Int) : Option Int :=
  bnd (loopF (M.laws_heldInt64S_l1 a0) (a1, 0)) fun o => outc o (fun x => some x) (fun s => M.laws_heldInt64S_a1 s)
def M.spec_l22DrawRace_j2 (s_j1 : Int × Int × Int) (s_j2 : Int × Int × (List Finish)) : Option ((Int × (List Finish)) × (Int × Int)) :=
  some ((s_j1.2.2, s_j2.2.2), (s_j2.1, s_j2.2.1))
def M.spec_l22DrawRace_j3 (s_j1 : Int × Int × Int) (s_j3 : Int × Int × (List Finish)) : Option ((Int × (List Finish)) × (Int × Int)) :=
  M.spec_l22DrawRace_j2 s_j1 (s_j3.1, s_j3.2.1, s_j3.2.2)
def M.spec_l22DrawRace_a1 (a0 : Src) (s_j1 : Int × Int × Int) (s_l1 : Int × Int × (List Finish) × Int) : Option ((Int × (List Finish)) × (Int × Int)) :=
  ifB (decide (0 < (s_l1.2.2.1.length : Int))) (bnd (M.spec_l01Next (Src.mk a0.code s_l1.1 s_l1.2.1) 30) fun x222 => ifB (x222.1 == 0) (bnd (idx s_l1.2.2.1 0) fun x263 => M.spec_l22DrawRace_j3 s_j1 (x222.2.1, x222.2.2, s_l1.2.2.1.set (0 : Int).toNat (Finish.mk 1 x263.Code x263.Time))) (ifB (x222.1 == 1) (bnd (M.spec_l01Next (Src.mk a0.code x222.2.1 x222.2.2) 3) fun x274 => bnd (idx ([0, 1000000000, 1000000001] : List Int) x274.1) fun x279 => bnd (idx s_l1.2.2.1 0) fun x285 => M.spec_l22DrawRace_j3 s_j1 (x274.2.1, x274.2.2, s_l1.2.2.1.set (0 : Int).toNat (Finish.mk x285.Boat x285.Code x279))) (M.spec_l22DrawRace_j3 s_j1 (x222.2.1, x222.2.2, s_l1.2.2.1)))) (M.spec_l22DrawRace_j2 s_j1 (s_l1.1, s_l1.2.1, s_l1.2.2.1))
def M.spec_l22DrawRace_j4 (s_l1 : Int × Int × (List Finish) × Int) (s_j4 : Int × Int × Int × Int) : Option (Stp ((Int × (List Finish)) × (Int × Int)) (Int × Int × (List Finish) × Int)) :=
  chk (s_l1.2.2.1.length + ([(Finish.mk s_l1.2.2.2 s_j4.2.2.1 s_j4.2.2.2)] : List Finish).length < 1099511627776) (some (.cont (s_j4.1, s_j4.2.1, s_l1.2.2.1 ++ ([(Finish.mk s_l1.2.2.2 s_j4.2.2.1 s_j4.2.2.2)] : List Finish), w64 (s_l1.2.2.2 + 1))))
def M.spec_l22DrawRace_l1 (a0 : Src) (s_j1 : Int × Int × Int) (s_l1 : Int × Int × (List Finish) × Int) : Option (Stp ((Int × (List Finish)) × (Int × Int)) (Int × Int × (List Finish) × Int)) :=
  ifB (decide (s_l1.2.2.2 < s_j1.2.2)) (bnd (M.spec_l01Next (Src.mk a0.code s_l1.1 s_l1.2.1) 20000) fun x299 => bnd (M.spec_l01Next (Src.mk a0.code x299.2.1 x299.2.2) 6) fun x333 => ifB (x333.1 == 0) (bnd (M.spec_l01Next (Src.mk a0.code x333.2.1 x333.2.2) 9) fun x339 => M.spec_l22DrawRace_j4 s_l1 (x339.2.1, x339.2.2, w64 (1 + x339.1), 0)) (M.spec_l22DrawRace_j4 s_l1 (x333.2.1, x333.2.2, 0, w64 (50000 + x299.1)))) (some (.brk (s_l1.1, s_l1.2.1, s_l1.2.2.1, s_l1.2.2.2)))
def M.spec_l22DrawRace_j1 (a0 : Src) (s_j1 : Int × Int × Int) : Option ((Int × (List Finish)) × (Int × Int)) :=
  bnd (loopF (M.spec_l22DrawRace_l1 a0 s_j1) (s_j1.1, s_j1.2.1, ([] : List Finish), 0)) fun o => outc o (fun x => some x) (fun s => M.spec_l22DrawRace_a1 a0 s_j1 s)
def M.spec_l22DrawRace (a0 : Src) : Option ((Int × (List Finish)) × (Int × Int)) :=
  bnd (M.spec_l01Next (Src.mk a0.code a0.at_ a0.seed) 6) fun x5 => bnd (M.spec_l01Next (Src.mk a0.code x5.2.1 x5.2.2) 30) fun x345 => ifB (x345.1 == 0) (bnd (M.spec_l01Next (Src.mk a0.code x345.2.1 x345.2.2) 3) fun x354 => bnd (idx ([0, 16, 17] : List Int) x354.1) fun x359 => M.spec_l22DrawRace_j1 a0 (x354.2.1, x354.2.2, x359)) (M.spec_l22DrawRace_j1 a0 (x345.2.1, x345.2.2, w64 (1 + x5.1)))
def M.spec_l22DrawRatings_j1 (s_j1 : Int × Int × (List Rating)) : Option (((List Rating)) × (Int × Int)) :=
  some (s_j1.2.2, (s_j1.1, s_j1.2.1))
def M.spec_l22DrawRatings_j2 (s_l1 : Int × Int × (List Rating) × Int) (s_j2 : Int × Int × Bool) : Option (((List Rating)) × (Int × Int)) :=
  ifB s_j2.2.2 (bnd (idx s_l1.2.2.1 0) fun x105 => M.spec_l22DrawRatings_j1 (s_j2.1, s_j2.2.1, s_l1.2.2.1.set (0 : Int).toNat (Rating.mk 1 x105.Value))) (M.spec_l22DrawRatings_j1 (s_j2.1, s_j2.2.1, s_l1.2.2.1))
def M.spec_l22DrawRatings_a1 (a0 : Src) (s_l1 : Int × Int × (List Rating) × Int) : Option (((List Rating)) × (Int × Int)) :=
  ifB (decide (0 < (s_l1.2.2.1.length : Int))) (bnd (M.spec_l01Next (Src.mk a0.code s_l1.1 s_l1.2.1) 24) fun x113 => M.spec_l22DrawRatings_j2 s_l1 (x113.2.1, x113.2.2, x113.1 == 0)) (M.spec_l22DrawRatings_j2 s_l1 (s_l1.1, s_l1.2.1, false))
def M.spec_l22DrawRatings_j3 (a0 : Src) (s_l1 : Int × Int × (List Rating) × Int) (s_j3 : Bool) : Option (Stp (((List Rating)) × (Int × Int)) (Int × Int × (List Rating) × Int)) :=
  ifB s_j3 (bnd (M.spec_l22DrawFactor (Src.mk a0.code s_l1.1 s_l1.2.1)) fun x133 => chk (s_l1.2.2.1.length + ([(Rating.mk s_l1.2.2.2 x133.1)] : List Rating).length < 1099511627776) (some (.cont (x133.2.1, x133.2.2, s_l1.2.2.1 ++ ([(Rating.mk s_l1.2.2.2 x133.1)] : List Rating), w64 (s_l1.2.2.2 + 1))))) (some (.brk (s_l1.1, s_l1.2.1, s_l1.2.2.1, s_l1.2.2.2)))
def M.spec_l22DrawRatings_l1 (a0 : Src) (a1 : Int) (s_l1 : Int × Int × (List Rating) × Int) : Option (Stp (((List Rating)) × (Int × Int)) (Int × Int × (List Rating) × Int)) :=
  ifB (decide (s_l1.2.2.2 < a1)) (M.spec_l22DrawRatings_j3 a0 s_l1 (decide (s_l1.2.2.2 ≤ 16))) (M.spec_l22DrawRatings_j3 a0 s_l1 false)
def M.spec_l22DrawRatings (a0 : Src) (a1 : Int) : Option (((List Rating)) × (Int × Int)) :=
  bnd (loopF (M.spec_l22DrawRatings_l1 a0 a1) (a0.at_, a0.seed, ([] : List Rating), 0)) fun o => outc o (fun x => some x) (fun s => M.spec_l22DrawRatings_a1 a0 s)
def M.spec_DrawCorrectFinishes (a0 : List UInt8) : Option (Int × (List Finish) × (List Rating)) :=
  bnd (M.spec_l01From a0) fun x3 => bnd (M.spec_l22DrawRace (Src.mk a0 x3.1 x3.2)) fun x9 => bnd (M.spec_l22DrawRatings (Src.mk a0 x9.2.1 x9.2.2) x9.1.1) fun x16 => some (x9.1.1, x9.1.2, x16.1)
def M.spec_DrawParTime (a0 : List UInt8) : Option (Int × (List Finish) × (List Rating)) :=
  bnd (M.spec_DrawCorrectFinishes a0) fun x3 => some (x3.1, x3.2.1, x3.2.2)
def M.impl_isBoat (a0 : Int) : Option Bool :=
  bnd (M.impl_within a0 0 15) fun x1 => some x1
def M.impl_IsFinish_j1 (s_j1 : Bool) : Option Bool :=
  some s_j1
def M.impl_IsFinish_j2 (s_j2 : Bool) : Option Bool :=
  some s_j2
def M.impl_IsFinish (a0 : Finish) : Option Bool :=
  ifB (a0.Code == 0) (bnd (M.impl_isBoat a0.Boat) fun x18 => ifB x18 (bnd (M.impl_within a0.Time 1 1000000000) fun x24 => M.impl_IsFinish_j1 x24) (M.impl_IsFinish_j1 false)) (bnd (M.impl_isBoat a0.Boat) fun x44 => ifB x44 (bnd (M.impl_within a0.Code 1 9) fun x50 => ifB x50 (M.impl_IsFinish_j2 (a0.Time == 0)) (M.impl_IsFinish_j2 false)) (M.impl_IsFinish_j2 false))
def M.impl_areFinishes_a1 (s_l1 : Int) : Option Bool :=
  some true
def M.impl_areFinishes_j2 (s_l1 : Int) (s_j2 : Bool) : Option (Stp Bool Int) :=
  ifB s_j2 (some (.ret false)) (some (.cont (w64 (s_l1 + 1))))
def M.impl_areFinishes_l1 (a1 : List Finish) (s_l1 : Int) : Option (Stp Bool Int) :=
  ifB (decide (s_l1 < (a1.length : Int))) (bnd (idx a1 s_l1) fun x87 => ifB (x87.Boat != s_l1) (M.impl_areFinishes_j2 s_l1 true) (bnd (M.impl_IsFinish x87) fun x110 => M.impl_areFinishes_j2 s_l1 (!x110))) (some (.brk s_l1))
def M.impl_areFinishes_j1 (a1 : List Finish) (s_j1 : Bool) : Option Bool :=
  ifB s_j1 (some false) (bnd (loopF (M.impl_areFinishes_l1 a1) 0) fun o => outc o (fun x => some x) (fun s => M.impl_areFinishes_a1 s))
def M.impl_areFinishes (a0 : Int) (a1 : List Finish) : Option Bool :=
  bnd (M.impl_within a0 1 16) fun x115 => ifB (!x115) (M.impl_areFinishes_j1 a1 true) (M.impl_areFinishes_j1 a1 ((a1.length : Int) != a0))
def M.impl_ratingsCode (a0 : Int) (a1 : List Finish) (a2 : List Rating) : Option Int :=
  bnd (M.impl_areFinishes a0 a1) fun x5 => ifB (!x5) (some 1) (bnd (M.impl_IsRatings a0 a2) fun x11 => ifB (!x11) (some 2) (some 0))
def M.impl_corrected (a0 : Int) (a1 : Int) : Option Int :=
  some (max 1 (min 1000000000 (w64 ((w64 ((w64 ((w64 (2 * a0)) * a1)) + 1000)).tdiv 2000))))
def M.spec_IsFinish_j1 (a0 : Finish) (s_j1 : Bool) : Option Bool :=
  ifB s_j1 (some false) (ifB (a0.Code == 0) (bnd (M.spec_l01In a0.Time 1 1000000000) fun x20 => some x20) (some (a0.Time == 0)))
def M.spec_IsFinish (a0 : Finish) : Option Bool :=
  bnd (M.spec_l01In a0.Boat 0 15) fun x25 => ifB (!x25) (M.spec_IsFinish_j1 a0 true) (bnd (M.spec_l01In a0.Code 0 9) fun x31 => M.spec_IsFinish_j1 a0 (!x31))
def M.spec_l22Race_a1 (s_l1 : Int) : Option Bool :=
  some true
def M.spec_l22Race_j2 (s_l1 : Int) (s_j2 : Bool) : Option (Stp Bool Int) :=
  ifB s_j2 (some (.ret false)) (some (.cont (w64 (s_l1 + 1))))
def M.spec_l22Race_l1 (a1 : List Finish) (s_l1 : Int) : Option (Stp Bool Int) :=
  ifB (decide (s_l1 < (a1.length : Int))) (bnd (idx a1 s_l1) fun x137 => ifB (x137.Boat != s_l1) (M.spec_l22Race_j2 s_l1 true) (bnd (idx a1 s_l1) fun x144 => bnd (M.spec_IsFinish x144) fun x150 => M.spec_l22Race_j2 s_l1 (!x150))) (some (.brk s_l1))
def M.spec_l22Race_j1 (a1 : List Finish) (s_j1 : Bool) : Option Bool :=
  ifB s_j1 (some false) (bnd (loopF (M.spec_l22Race_l1 a1) 0) fun o => outc o (fun x => some x) (fun s => M.spec_l22Race_a1 s))
def M.spec_l22Race (a0 : Int) (a1 : List Finish) : Option Bool :=
  bnd (M.spec_l01In a0 1 16) fun x155 => ifB (!x155) (M.spec_l22Race_j1 a1 true) (M.spec_l22Race_j1 a1 ((a1.length : Int) != a0))
def M.spec_l22Code (a0 : Int) (a1 : List Finish) (a2 : List Rating) : Option Int :=
  bnd (M.spec_l22Race a0 a1) fun x5 => ifB (!x5) (some 1) (bnd (M.spec_IsRatings a0 a2) fun x11 => ifB (!x11) (some 2) (some 0))
def M.spec_l22Corrected (a0 : Int) (a1 : Int) : Option Int :=
  some (max 1 (min 1000000000 (w64 ((w64 ((w64 (a0 * a1)) + 500)).tdiv 1000))))
def M.spec_l25Par_a1 (s_l1 : (List Int) × Int) : Option (Int × Int) :=
  ifB ((s_l1.1.length : Int) == 0) (some (0, 0)) (bnd (idx s_l1.1 (w64 ((w64 ((s_l1.1.length : Int) - 1)).tdiv 2))) fun x1177 => some (x1177, (s_l1.1.length : Int)))
def M.spec_l25Par_j1 (s_l1 : (List Int) × Int) (s_j1 : (List Int)) : Option (Stp (Int × Int) ((List Int) × Int)) :=
  some (.cont (s_j1, w64 (s_l1.2 + 1)))
def M.spec_l25Par_j2 (s_l1 : (List Int) × Int) (s_j2 : (List Int)) : Option (Stp (Int × Int) ((List Int) × Int)) :=
  M.spec_l25Par_j1 s_l1 s_j2
def M.spec_l25Par_a2 (s_l1 : (List Int) × Int) (x1647 : Int) (s_l2 : Int) : Option (Stp (Int × Int) ((List Int) × Int)) :=
  chk (0 ≤ (s_l2 : Int) ∧ (s_l2 : Int) ≤ (s_l1.1.length : Int) ∧ (s_l1.1.length : Int) ≤ (s_l1.1.length : Int)) (chk (([x1647] : List Int).length + (subL s_l1.1 s_l2 (s_l1.1.length : Int)).length < 1099511627776) (chk (0 ≤ (0 : Int) ∧ (0 : Int) ≤ s_l2 ∧ s_l2 ≤ (s_l1.1.length : Int)) (chk (([] : List Int).length + (subL s_l1.1 0 s_l2).length < 1099511627776) (chk ((([] : List Int) ++ (subL s_l1.1 0 s_l2)).length + (([x1647] : List Int) ++ (subL s_l1.1 s_l2 (s_l1.1.length : Int))).length < 1099511627776) (M.spec_l25Par_j2 s_l1 ((([] : List Int) ++ (subL s_l1.1 0 s_l2)) ++ (([x1647] : List Int) ++ (subL s_l1.1 s_l2 (s_l1.1.length : Int)))))))))
def M.spec_l25Par_j3 (s_l2 : Int) (s_j3 : Bool) : Option (Stp (Int × Int) Int) :=
  ifB s_j3 (some (.cont (w64 (s_l2 - 1)))) (some (.brk s_l2))
def M.spec_l25Par_l2 (s_l1 : (List Int) × Int) (x1647 : Int) (s_l2 : Int) : Option (Stp (Int × Int) Int) :=
  ifB (decide (0 < s_l2)) (bnd (idx s_l1.1 (w64 (s_l2 - 1))) fun x1760 => M.spec_l25Par_j3 s_l2 (decide (x1647 < x1760))) (M.spec_l25Par_j3 s_l2 false)
def M.spec_l25Par_l1 (a0 : List Finish) (a1 : List Rating) (s_l1 : (List Int) × Int) : Option (Stp (Int × Int) ((List Int) × Int)) :=
  ifB (decide (s_l1.2 < (a0.length : Int))) (bnd (idx a0 s_l1.2) fun x1628 => ifB (x1628.Code != 0) (M.spec_l25Par_j2 s_l1 s_l1.1) (bnd (idx a0 s_l1.2) fun x1635 => bnd (idx a1 s_l1.2) fun x1641 => bnd (M.spec_l22Corrected x1635.Time x1641.Value) fun x1647 => bnd (loopF (M.spec_l25Par_l2 s_l1 x1647) (s_l1.1.length : Int)) fun o => outc o (fun x => some (.ret x)) (fun s => M.spec_l25Par_a2 s_l1 x1647 s))) (some (.brk (s_l1.1, s_l1.2)))
def M.spec_l25Par (a0 : List Finish) (a1 : List Rating) : Option (Int × Int) :=
  bnd (loopF (M.spec_l25Par_l1 a0 a1) (([] : List Int), 0)) fun o => outc o (fun x => some x) (fun s => M.spec_l25Par_a1 s)
def M.spec_ParTime (a0 : Int) (a1 : List Finish) (a2 : List Rating) : Option (Int × Int) :=
  bnd (M.spec_l22Code a0 a1 a2) fun x5 => ifB (x5 != 0) (some (0, x5)) (bnd (M.spec_l25Par a1 a2) fun x11 => ifB (x11.2 == 0) (some (0, 4)) (some (x11.1, 0)))
def M.impl_CorrectFinishes_a1 (s_l1 : (List Finish) × Int) : Option ((List Finish) × Int) :=
  some (s_l1.1, 0)
def M.impl_CorrectFinishes_j1 (s_l1 : (List Finish) × Int) (x131 : Finish) (s_j1 : Int) : Option (Stp ((List Finish) × Int) ((List Finish) × Int)) :=
  chk (s_l1.1.length + ([(Finish.mk x131.Boat x131.Code s_j1)] : List Finish).length < 1099511627776) (some (.cont (s_l1.1 ++ ([(Finish.mk x131.Boat x131.Code s_j1)] : List Finish), w64 (s_l1.2 + 1))))
def M.impl_CorrectFinishes_l1 (a1 : List Finish) (a2 : List Rating) (s_l1 : (List Finish) × Int) : Option (Stp ((List Finish) × Int) ((List Finish) × Int)) :=
  ifB (decide (s_l1.2 < (a1.length : Int))) (bnd (idx a1 s_l1.2) fun x131 => ifB (x131.Code == 0) (bnd (idx a2 s_l1.2) fun x167 => bnd (M.impl_corrected x131.Time x167.Value) fun x173 => M.impl_CorrectFinishes_j1 s_l1 x131 x173) (M.impl_CorrectFinishes_j1 s_l1 x131 x131.Time)) (some (.brk (s_l1.1, s_l1.2)))
def M.impl_CorrectFinishes (a0 : Int) (a1 : List Finish) (a2 : List Rating) : Option ((List Finish) × Int) :=
  bnd (M.impl_ratingsCode a0 a1 a2) fun x5 => ifB (x5 != 0) (some ([], x5)) (bnd (loopF (M.impl_CorrectFinishes_l1 a1 a2) (([] : List Finish), 0)) fun o => outc o (fun x => some x) (fun s => M.impl_CorrectFinishes_a1 s))
def M.laws_szFinishS (a0 : List Finish) (a1 : Int) : Option Int :=
  ifB (decide ((w64 (a1 - (a0.length : Int))) < 0)) (some (-1)) (some (w64 (a1 - (a0.length : Int))))
def M.laws_toFinish (a0 : Finish) : Option Finish :=
  some (Finish.mk a0.Boat a0.Code a0.Time)
def M.laws_toFinishS_a1 (s_l1 : (List Finish) × Int) : Option (List Finish) :=
  some s_l1.1
def M.laws_toFinishS_l1 (a0 : List Finish) (s_l1 : (List Finish) × Int) : Option (Stp (List Finish) ((List Finish) × Int)) :=
  ifB (decide (s_l1.2 < (a0.length : Int))) (bnd (idx a0 s_l1.2) fun x62 => bnd (M.laws_toFinish x62) fun x68 => bnd (idx s_l1.1 s_l1.2) fun x73 => some (.cont (s_l1.1.set (s_l1.2 : Int).toNat x68, w64 (s_l1.2 + 1)))) (some (.brk (s_l1.1, s_l1.2)))
def M.laws_toFinishS (a0 : List Finish) : Option (List Finish) :=
  chk (0 ≤ (a0.length : Int) ∧ (a0.length : Int) < 1099511627776) (bnd (loopF (M.laws_toFinishS_l1 a0) (List.replicate ((a0.length : Int)).toNat ((Finish.mk 0 0 0) : Finish), 0)) fun o => outc o (fun x => some x) (fun s => M.laws_toFinishS_a1 s))
def M.laws_eqFinish (a0 : Finish) (a1 : Finish) : Option Bool :=
  ifB (a0.Boat != a1.Boat) (some false) (ifB (a0.Code != a1.Code) (some false) (ifB (a0.Time != a1.Time) (some false) (some true)))
def M.laws_eqFinishS_a1 (s_l1 : Int) : Option Bool :=
  some true
def M.laws_eqFinishS_l1 (a0 : List Finish) (a1 : List Finish) (s_l1 : Int) : Option (Stp Bool Int) :=
  ifB (decide (s_l1 < (a0.length : Int))) (bnd (idx a0 s_l1) fun x55 => bnd (idx a1 s_l1) fun x61 => bnd (M.laws_eqFinish x55 x61) fun x67 => ifB (!x67) (some (.ret false)) (some (.cont (w64 (s_l1 + 1))))) (some (.brk s_l1))
def M.laws_eqFinishS (a0 : List Finish) (a1 : List Finish) : Option Bool :=
  ifB ((a0.length : Int) != (a1.length : Int)) (some false) (bnd (loopF (M.laws_eqFinishS_l1 a0 a1) 0) fun o => outc o (fun x => some x) (fun s => M.laws_eqFinishS_a1 s))
def M.spec_l25Factor (a0 : Int) (a1 : Int) : Option Int :=
  chk (w64 (2 * a1) ≠ 0) (some (max 1 (min 3000 (w64 ((w64 ((w64 (2000 * a0)) + a1)).tdiv (w64 (2 * a1)))))))
def M.spec_ParFactors_a1 (s_l1 : (List Int) × Int) : Option ((List Int) × Int) :=
  some (s_l1.1, 0)
def M.spec_ParFactors_j1 (s_l1 : (List Int) × Int) (s_j1 : Int) : Option (Stp ((List Int) × Int) ((List Int) × Int)) :=
  chk (s_l1.1.length + ([s_j1] : List Int).length < 1099511627776) (some (.cont (s_l1.1 ++ ([s_j1] : List Int), w64 (s_l1.2 + 1))))
def M.spec_ParFactors_l1 (a1 : List Finish) (x5 : Int × Int) (s_l1 : (List Int) × Int) : Option (Stp ((List Int) × Int) ((List Int) × Int)) :=
  ifB (decide (s_l1.2 < (a1.length : Int))) (bnd (idx a1 s_l1.2) fun x169 => ifB (x169.Code == 0) (bnd (idx a1 s_l1.2) fun x176 => bnd (M.spec_l25Factor x5.1 x176.Time) fun x182 => M.spec_ParFactors_j1 s_l1 x182) (M.spec_ParFactors_j1 s_l1 0)) (some (.brk (s_l1.1, s_l1.2)))
def M.spec_ParFactors (a0 : Int) (a1 : List Finish) (a2 : List Rating) : Option ((List Int) × Int) :=
  bnd (M.spec_ParTime a0 a1 a2) fun x5 => ifB (x5.2 != 0) (some ([], x5.2)) (bnd (loopF (M.spec_ParFactors_l1 a1 x5) (([] : List Int), 0)) fun o => outc o (fun x => some x) (fun s => M.spec_ParFactors_a1 s))
def M.impl_parFactor (a0 : Int) (a1 : Int) : Option Int :=
  chk (w64 (2 * a1) ≠ 0) (some (max 1 (min 3000 (w64 ((w64 ((w64 (2000 * a0)) + a1)).tdiv (w64 (2 * a1)))))))
def M.laws_markFinishS_a1 (s_l1 : (List Finish) × Int × Int) : Option ((Int) × (List Finish)) :=
  some (s_l1.2.1, s_l1.1)
def M.laws_markFinishS_l1 (s_l1 : (List Finish) × Int × Int) : Option (Stp ((Int) × (List Finish)) ((List Finish) × Int × Int)) :=
  ifB (decide (s_l1.2.2 < (s_l1.1.length : Int))) (bnd (idx s_l1.1 s_l1.2.2) fun x66 => bnd (idx (s_l1.1.set (s_l1.2.2 : Int).toNat (Finish.mk s_l1.2.1 x66.Code x66.Time)) s_l1.2.2) fun x73 => bnd (idx ((s_l1.1.set (s_l1.2.2 : Int).toNat (Finish.mk s_l1.2.1 x66.Code x66.Time)).set (s_l1.2.2 : Int).toNat (Finish.mk x73.Boat (w64 (s_l1.2.1 + 1)) x73.Time)) s_l1.2.2) fun x80 => some (.cont (((s_l1.1.set (s_l1.2.2 : Int).toNat (Finish.mk s_l1.2.1 x66.Code x66.Time)).set (s_l1.2.2 : Int).toNat (Finish.mk x73.Boat (w64 (s_l1.2.1 + 1)) x73.Time)).set (s_l1.2.2 : Int).toNat (Finish.mk x80.Boat x80.Code (w64 ((w64 (s_l1.2.1 + 1)) + 1))), w64 ((w64 ((w64 (s_l1.2.1 + 1)) + 1)) + 1), w64 (s_l1.2.2 + 1)))) (some (.brk (s_l1.1, s_l1.2.1, s_l1.2.2)))
def M.laws_markFinishS (a0 : List Finish) (a1 : Int) : Option ((Int) × (List Finish)) :=
  bnd (loopF (M.laws_markFinishS_l1) (a0, a1, 0)) fun o => outc o (fun x => some x) (fun s => M.laws_markFinishS_a1 s)
def M.spec_l25Race_a1 (s_l1 : (List Rating) × Int) : Option (List Rating) :=
  some s_l1.1
def M.spec_l25Race_j1 (s_l1 : (List Rating) × Int) (x248 : Rating) (s_j1 : Int) : Option (Stp (List Rating) ((List Rating) × Int)) :=
  chk (s_l1.1.length + ([(Rating.mk x248.Boat s_j1)] : List Rating).length < 1099511627776) (some (.cont (s_l1.1 ++ ([(Rating.mk x248.Boat s_j1)] : List Rating), w64 (s_l1.2 + 1))))
def M.spec_l25Race_j2 (a0 : ProgressRules) (a1 : List Finish) (x7 : Int × Int) (s_l1 : (List Rating) × Int) (x248 : Rating) (s_j2 : Bool) : Option (Stp (List Rating) ((List Rating) × Int)) :=
  ifB s_j2 (bnd (idx a1 s_l1.2) fun x331 => bnd (M.spec_l25Factor x7.1 x331.Time) fun x337 => bnd (M.spec_l25New a0 x248.Value x337) fun x339 => M.spec_l25Race_j1 s_l1 x248 x339) (M.spec_l25Race_j1 s_l1 x248 x248.Value)
def M.spec_l25Race_l1 (a0 : ProgressRules) (a1 : List Finish) (a2 : List Rating) (x7 : Int × Int) (s_l1 : (List Rating) × Int) : Option (Stp (List Rating) ((List Rating) × Int)) :=
  ifB (decide (s_l1.2 < (a2.length : Int))) (bnd (idx a2 s_l1.2) fun x248 => ifB (decide (2 ≤ x7.2)) (bnd (idx a1 s_l1.2) fun x344 => M.spec_l25Race_j2 a0 a1 x7 s_l1 x248 (x344.Code == 0)) (M.spec_l25Race_j2 a0 a1 x7 s_l1 x248 false)) (some (.brk (s_l1.1, s_l1.2)))
def M.spec_l25Race (a0 : ProgressRules) (a1 : List Finish) (a2 : List Rating) : Option (List Rating) :=
  bnd (M.spec_l25Par a1 a2) fun x7 => bnd (loopF (M.spec_l25Race_l1 a0 a1 a2 x7) (([] : List Rating), 0)) fun o => outc o (fun x => some x) (fun s => M.spec_l25Race_a1 s)
def M.spec_ProgressRace (a0 : ProgressRules) (a1 : Int) (a2 : List Finish) (a3 : List Rating) : Option ((List Rating) × Int) :=
  bnd (M.spec_IsProgress a0) fun x7 => ifB (!x7) (some ([], 1)) (bnd (M.spec_l22Code a1 a2 a3) fun x13 => ifB (x13 != 0) (some ([], x13)) (bnd (M.spec_l25Race a0 a2 a3) fun x19 => some (x19, 0)))
def M.laws_heldRatingS_a1 (s_l1 : Int × Int) : Option Int :=
  some s_l1.1
def M.laws_heldRatingS_l1 (a0 : List Rating) (s_l1 : Int × Int) : Option (Stp Int (Int × Int)) :=
  ifB (decide (s_l1.2 < (a0.length : Int))) (bnd (idx a0 s_l1.2) fun x48 => ifB (x48.Boat != s_l1.1) (some (.ret (-1))) (bnd (idx a0 s_l1.2) fun x55 => ifB (x55.Value != (w64 (s_l1.1 + 1))) (some (.ret (-1))) (some (.cont (w64 ((w64 (s_l1.1 + 1)) + 1), w64 (s_l1.2 + 1)))))) (some (.brk (s_l1.1, s_l1.2)))
def M.laws_heldRatingS (a0 : List Rating) (a1 : Int) : Option Int :=
  bnd (loopF (M.laws_heldRatingS_l1 a0) (a1, 0)) fun o => outc o (fun x => some x) (fun s => M.laws_heldRatingS_a1 s)
def M.spec_DrawProgressRace (a0 : List UInt8) : Option (ProgressRules × Int × (List Finish) × (List Rating)) :=
  bnd (M.spec_l01From a0) fun x5 => bnd (M.spec_l25Draw (Src.mk a0 x5.1 x5.2)) fun x11 => bnd (M.spec_l22DrawRace (Src.mk a0 x11.2.1 x11.2.2)) fun x19 => bnd (M.spec_l22DrawRatings (Src.mk a0 x19.2.1 x19.2.2) x19.1.1) fun x34 => some (x11.1, x19.1.1, x19.1.2, x34.1)
def M.impl_finishesCode_a1 (s_l1 : Int) : Option Int :=
  some 0
def M.impl_finishesCode_l1 (a0 : List Finish) (s_l1 : Int) : Option (Stp Int Int) :=
  ifB (decide (s_l1 < (a0.length : Int))) (bnd (idx a0 s_l1) fun x51 => bnd (M.impl_IsFinish x51) fun x60 => ifB (!x60) (some (.ret 1)) (some (.cont (w64 (s_l1 + 1))))) (some (.brk s_l1))
def M.impl_finishesCode (a0 : List Finish) : Option Int :=
  ifB (decide (16 < (a0.length : Int))) (some 3) (bnd (loopF (M.impl_finishesCode_l1 a0) 0) fun o => outc o (fun x => some x) (fun s => M.impl_finishesCode_a1 s))
def M.impl_CountFinished_a1 (s_l1 : Int × Int) : Option (Int × Int) :=
  some (s_l1.1, 0)
def M.impl_CountFinished_j1 (s_l1 : Int × Int) (s_j1 : Int) : Option (Stp (Int × Int) (Int × Int)) :=
  some (.cont (s_j1, w64 (s_l1.2 + 1)))
def M.impl_CountFinished_j2 (s_l1 : Int × Int) (s_j2 : Int) : Option (Stp (Int × Int) (Int × Int)) :=
  M.impl_CountFinished_j1 s_l1 s_j2
def M.impl_CountFinished_l1 (a0 : List Finish) (s_l1 : Int × Int) : Option (Stp (Int × Int) (Int × Int)) :=
  ifB (decide (s_l1.2 < (a0.length : Int))) (bnd (idx a0 s_l1.2) fun x192 => ifB (x192.Code == 0) (M.impl_CountFinished_j2 s_l1 (w64 (s_l1.1 + 1))) (M.impl_CountFinished_j2 s_l1 s_l1.1)) (some (.brk (s_l1.1, s_l1.2)))
def M.impl_CountFinished (a0 : List Finish) : Option (Int × Int) :=
  bnd (M.impl_finishesCode a0) fun x3 => ifB (x3 != 0) (some (0, x3)) (bnd (loopF (M.impl_CountFinished_l1 a0) (0, 0)) fun o => outc o (fun x => some x) (fun s => M.impl_CountFinished_a1 s))
def M.spec_l22Time (a0 : Int) : Option Bool :=
  bnd (M.spec_l01In a0 1 1000000000) fun x1 => some x1
def M.spec_l25DrawSeries_j1 (x5 : (Int × (List Finish)) × (Int × Int)) (s_j1 : Int × Int × (List (List Finish))) : Option ((Int × (List (List Finish))) × (Int × Int)) :=
  some ((x5.1.1, s_j1.2.2), (s_j1.1, s_j1.2.1))
def M.spec_l25DrawSeries_j2 (x5 : (Int × (List Finish)) × (Int × Int)) (s_j2 : Int × Int × (List (List Finish))) : Option ((Int × (List (List Finish))) × (Int × Int)) :=
  M.spec_l25DrawSeries_j1 x5 (s_j2.1, s_j2.2.1, s_j2.2.2)
def M.spec_l25DrawSeries_a2 (x5 : (Int × (List Finish)) × (Int × Int)) (s_l2 : Int × Int × (List (List Finish))) : Option ((Int × (List (List Finish))) × (Int × Int)) :=
  M.spec_l25DrawSeries_j2 x5 (s_l2.1, s_l2.2.1, s_l2.2.2)
def M.spec_l25DrawSeries_l2 (a0 : Src) (s_l1 : Int × Int × (List Finish) × (List (List Finish)) × Int) (s_l2 : Int × Int × (List (List Finish))) : Option (Stp ((Int × (List (List Finish))) × (Int × Int)) (Int × Int × (List (List Finish)))) :=
  bnd (M.spec_l01Next (Src.mk a0.code s_l2.1 s_l2.2.1) 2) fun x2919 => ifB (decide ((s_l2.2.2.length : Int) < (w64 (20 + x2919.1)))) (chk (([] : List Finish).length + s_l1.2.2.1.length < 1099511627776) (chk (s_l2.2.2.length + ([([] : List Finish) ++ s_l1.2.2.1] : List (List Finish)).length < 1099511627776) (some (.cont (x2919.2.1, x2919.2.2, s_l2.2.2 ++ ([([] : List Finish) ++ s_l1.2.2.1] : List (List Finish))))))) (some (.brk (x2919.2.1, x2919.2.2, s_l2.2.2)))
def M.spec_l25DrawSeries_a1 (a0 : Src) (x5 : (Int × (List Finish)) × (Int × Int)) (s_l1 : Int × Int × (List Finish) × (List (List Finish)) × Int) : Option ((Int × (List (List Finish))) × (Int × Int)) :=
  bnd (M.spec_l01Next (Src.mk a0.code s_l1.1 s_l1.2.1) 30) fun x2764 => ifB (x2764.1 == 0) (some ((w64 (x5.1.1 + 1), s_l1.2.2.2.1), (x2764.2.1, x2764.2.2))) (ifB (x2764.1 == 1) (bnd (loopF (M.spec_l25DrawSeries_l2 a0 s_l1) (x2764.2.1, x2764.2.2, s_l1.2.2.2.1)) fun o => outc o (fun x => some x) (fun s => M.spec_l25DrawSeries_a2 x5 s)) (M.spec_l25DrawSeries_j2 x5 (x2764.2.1, x2764.2.2, s_l1.2.2.2.1)))
def M.spec_l25DrawSeries_a3 (s_l1 : Int × Int × (List Finish) × (List (List Finish)) × Int) (s_l3 : Int × Int × (List Finish) × Int) : Option (Stp ((Int × (List (List Finish))) × (Int × Int)) (Int × Int × (List Finish) × (List (List Finish)) × Int)) :=
  some (.cont (s_l3.1, s_l3.2.1, s_l3.2.2.1, s_l1.2.2.2.1 ++ ([([] : List Finish) ++ s_l1.2.2.1] : List (List Finish)), w64 (s_l1.2.2.2.2 - 1)))
def M.spec_l25DrawSeries_j3 (s_l3 : Int × Int × (List Finish) × Int) (s_j3 : Int × Int × (List Finish)) : Option (Stp ((Int × (List (List Finish))) × (Int × Int)) (Int × Int × (List Finish) × Int)) :=
  some (.cont (s_j3.1, s_j3.2.1, s_j3.2.2, w64 (s_l3.2.2.2 + 1)))
def M.spec_l25DrawSeries_j4 (s_l3 : Int × Int × (List Finish) × Int) (s_j4 : Int × Int × (List Finish)) : Option (Stp ((Int × (List (List Finish))) × (Int × Int)) (Int × Int × (List Finish) × Int)) :=
  M.spec_l25DrawSeries_j3 s_l3 (s_j4.1, s_j4.2.1, s_j4.2.2)
def M.spec_l25DrawSeries_j5 (a0 : Src) (s_l3 : Int × Int × (List Finish) × Int) (s_j5 : Bool) : Option (Stp ((Int × (List (List Finish))) × (Int × Int)) (Int × Int × (List Finish) × Int)) :=
  ifB s_j5 (bnd (idx s_l3.2.2.1 s_l3.2.2.2) fun x4169 => bnd (M.spec_l01Next (Src.mk a0.code s_l3.1 s_l3.2.1) 3000) fun x4177 => bnd (idx s_l3.2.2.1 s_l3.2.2.2) fun x4182 => M.spec_l25DrawSeries_j4 s_l3 (x4177.2.1, x4177.2.2, s_l3.2.2.1.set (s_l3.2.2.2 : Int).toNat (Finish.mk x4182.Boat x4182.Code (w64 (x4169.Time + x4177.1))))) (M.spec_l25DrawSeries_j4 s_l3 (s_l3.1, s_l3.2.1, s_l3.2.2.1))
def M.spec_l25DrawSeries_l3 (a0 : Src) (s_l3 : Int × Int × (List Finish) × Int) : Option (Stp ((Int × (List (List Finish))) × (Int × Int)) (Int × Int × (List Finish) × Int)) :=
  ifB (decide (s_l3.2.2.2 < (s_l3.2.2.1.length : Int))) (bnd (idx s_l3.2.2.1 s_l3.2.2.2) fun x4201 => ifB (x4201.Code == 0) (bnd (idx s_l3.2.2.1 s_l3.2.2.2) fun x4208 => bnd (M.spec_l22Time (w64 (x4208.Time + 3000))) fun x4214 => M.spec_l25DrawSeries_j5 a0 s_l3 x4214) (M.spec_l25DrawSeries_j5 a0 s_l3 false)) (some (.brk (s_l3.1, s_l3.2.1, s_l3.2.2.1, s_l3.2.2.2)))
def M.spec_l25DrawSeries_l1 (a0 : Src) (s_l1 : Int × Int × (List Finish) × (List (List Finish)) × Int) : Option (Stp ((Int × (List (List Finish))) × (Int × Int)) (Int × Int × (List Finish) × (List (List Finish)) × Int)) :=
  ifB (decide (0 < s_l1.2.2.2.2)) (chk (([] : List Finish).length + s_l1.2.2.1.length < 1099511627776) (chk (s_l1.2.2.2.1.length + ([([] : List Finish) ++ s_l1.2.2.1] : List (List Finish)).length < 1099511627776) (bnd (loopF (M.spec_l25DrawSeries_l3 a0) (s_l1.1, s_l1.2.1, s_l1.2.2.1, 0)) fun o => outc o (fun x => some (.ret x)) (fun s => M.spec_l25DrawSeries_a3 s_l1 s)))) (some (.brk (s_l1.1, s_l1.2.1, s_l1.2.2.1, s_l1.2.2.2.1, s_l1.2.2.2.2)))
def M.spec_l25DrawSeries (a0 : Src) : Option ((Int × (List (List Finish))) × (Int × Int)) :=
  bnd (M.spec_l22DrawRace (Src.mk a0.code a0.at_ a0.seed)) fun x5 => bnd (M.spec_l01Next (Src.mk a0.code x5.2.1 x5.2.2) 4) fun x15 => bnd (loopF (M.spec_l25DrawSeries_l1 a0) (x15.2.1, x15.2.2, x5.1.2, ([] : List (List Finish)), x15.1)) fun o => outc o (fun x => some x) (fun s => M.spec_l25DrawSeries_a1 a0 x5 s)
def M.spec_DrawProgressSeries (a0 : List UInt8) : Option (ProgressRules × Int × (List (List Finish)) × (List Rating)) :=
  bnd (M.spec_l01From a0) fun x5 => bnd (M.spec_l25Draw (Src.mk a0 x5.1 x5.2)) fun x11 => bnd (M.spec_l25DrawSeries (Src.mk a0 x11.2.1 x11.2.2)) fun x19 => bnd (M.spec_l22DrawRatings (Src.mk a0 x19.2.1 x19.2.2) x19.1.1) fun x34 => some (x11.1, x19.1.1, x19.1.2, x34.1)
def M.spec_l25Code_a1 (a1 : Int) (a3 : List Rating) (s_l1 : Int) : Option Int :=
  bnd (M.spec_IsRatings a1 a3) fun x70 => ifB (!x70) (some 2) (some 0)
def M.spec_l25Code_l1 (a1 : Int) (a2 : List (List Finish)) (s_l1 : Int) : Option (Stp Int Int) :=
  ifB (decide (s_l1 < (a2.length : Int))) (bnd (idx a2 s_l1) fun x89 => bnd (M.spec_l22Race a1 x89) fun x99 => ifB (!x99) (some (.ret 1)) (some (.cont (w64 (s_l1 + 1))))) (some (.brk s_l1))
def M.spec_l25Code (a0 : ProgressRules) (a1 : Int) (a2 : List (List Finish)) (a3 : List Rating) : Option Int :=
  bnd (M.spec_IsProgress a0) fun x7 => ifB (!x7) (some 1) (ifB (decide (20 < (a2.length : Int))) (some 3) (bnd (loopF (M.spec_l25Code_l1 a1 a2) 0) fun o => outc o (fun x => some x) (fun s => M.spec_l25Code_a1 a1 a3 s)))
def M.spec_ProgressSeries_a1 (s_l1 : (List Rating) × Int) : Option ((List Rating) × Int) :=
  some (s_l1.1, 0)
def M.spec_ProgressSeries_l1 (a0 : ProgressRules) (a2 : List (List Finish)) (s_l1 : (List Rating) × Int) : Option (Stp ((List Rating) × Int) ((List Rating) × Int)) :=
  ifB (decide (s_l1.2 < (a2.length : Int))) (bnd (idx a2 s_l1.2) fun x164 => bnd (M.spec_l25Race a0 x164 s_l1.1) fun x174 => some (.cont (x174, w64 (s_l1.2 + 1)))) (some (.brk (s_l1.1, s_l1.2)))
def M.spec_ProgressSeries (a0 : ProgressRules) (a1 : Int) (a2 : List (List Finish)) (a3 : List Rating) : Option ((List Rating) × Int) :=
  bnd (M.spec_l25Code a0 a1 a2 a3) fun x7 => ifB (x7 != 0) (some ([], x7)) (chk (([] : List Rating).length + a3.length < 1099511627776) (bnd (loopF (M.spec_ProgressSeries_l1 a0 a2) (([] : List Rating) ++ a3, 0)) fun o => outc o (fun x => some x) (fun s => M.spec_ProgressSeries_a1 s)))
def M.laws_hasInt_a1 (s_l1 : Int) : Option Bool :=
  some false
def M.laws_hasInt_l1 (a0 : List Int) (a1 : Int) (s_l1 : Int) : Option (Stp Bool Int) :=
  ifB (decide (s_l1 < (a0.length : Int))) (bnd (idx a0 s_l1) fun x34 => ifB (x34 == a1) (some (.ret true)) (some (.cont (w64 (s_l1 + 1))))) (some (.brk s_l1))
def M.laws_hasInt (a0 : List Int) (a1 : Int) : Option Bool :=
  bnd (loopF (M.laws_hasInt_l1 a0 a1) 0) fun o => outc o (fun x => some x) (fun s => M.laws_hasInt_a1 s)
def M.laws_szFinishSS_a1 (s_l1 : Int × Int) : Option Int :=
  some s_l1.1
def M.laws_szFinishSS_l1 (a0 : List (List Finish)) (s_l1 : Int × Int) : Option (Stp Int (Int × Int)) :=
  ifB (decide (s_l1.2 < (a0.length : Int))) (bnd (idx a0 s_l1.2) fun x71 => bnd (M.laws_szFinishS x71 s_l1.1) fun x81 => ifB (decide (x81 < 0)) (some (.ret (-1))) (some (.cont (x81, w64 (s_l1.2 + 1))))) (some (.brk (s_l1.1, s_l1.2)))
def M.laws_szFinishSS (a0 : List (List Finish)) (a1 : Int) : Option Int :=
  ifB (decide ((w64 (a1 - (a0.length : Int))) < 0)) (some (-1)) (bnd (loopF (M.laws_szFinishSS_l1 a0) (w64 (a1 - (a0.length : Int)), 0)) fun o => outc o (fun x => some x) (fun s => M.laws_szFinishSS_a1 s))
def M.laws_toFinishSS_a1 (s_l1 : (List (List Finish)) × Int) : Option (List (List Finish)) :=
  some s_l1.1
def M.laws_toFinishSS_l1 (a0 : List (List Finish)) (s_l1 : (List (List Finish)) × Int) : Option (Stp (List (List Finish)) ((List (List Finish)) × Int)) :=
  ifB (decide (s_l1.2 < (a0.length : Int))) (bnd (idx a0 s_l1.2) fun x118 => bnd (M.laws_toFinishS x118) fun x128 => bnd (idx s_l1.1 s_l1.2) fun x143 => some (.cont (s_l1.1.set (s_l1.2 : Int).toNat x128, w64 (s_l1.2 + 1)))) (some (.brk (s_l1.1, s_l1.2)))
def M.laws_toFinishSS (a0 : List (List Finish)) : Option (List (List Finish)) :=
  chk (0 ≤ (a0.length : Int) ∧ (a0.length : Int) < 1099511627776) (bnd (loopF (M.laws_toFinishSS_l1 a0) (List.replicate ((a0.length : Int)).toNat (([] : List Finish) : List Finish), 0)) fun o => outc o (fun x => some x) (fun s => M.laws_toFinishSS_a1 s))
def M.laws_eqFinishSS_a1 (s_l1 : Int) : Option Bool :=
  some true
def M.laws_eqFinishSS_l1 (a0 : List (List Finish)) (a1 : List (List Finish)) (s_l1 : Int) : Option (Stp Bool Int) :=
  ifB (decide (s_l1 < (a0.length : Int))) (bnd (idx a0 s_l1) fun x101 => bnd (idx a1 s_l1) fun x117 => bnd (M.laws_eqFinishS x101 x117) fun x127 => ifB (!x127) (some (.ret false)) (some (.cont (w64 (s_l1 + 1))))) (some (.brk s_l1))
def M.laws_eqFinishSS (a0 : List (List Finish)) (a1 : List (List Finish)) : Option Bool :=
  ifB ((a0.length : Int) != (a1.length : Int)) (some false) (bnd (loopF (M.laws_eqFinishSS_l1 a0 a1) 0) fun o => outc o (fun x => some x) (fun s => M.laws_eqFinishSS_a1 s))
def M.laws_markFinishSS_a1 (s_l1 : (List (List Finish)) × Int × Int) : Option ((Int) × (List (List Finish))) :=
  some (s_l1.2.1, s_l1.1)
def M.laws_markFinishSS_l1 (s_l1 : (List (List Finish)) × Int × Int) : Option (Stp ((Int) × (List (List Finish))) ((List (List Finish)) × Int × Int)) :=
  ifB (decide (s_l1.2.2 < (s_l1.1.length : Int))) (bnd (idx s_l1.1 s_l1.2.2) fun x92 => bnd (M.laws_markFinishS x92 s_l1.2.1) fun x107 => some (.cont (s_l1.1.set (s_l1.2.2 : Int).toNat x107.2, x107.1, w64 (s_l1.2.2 + 1)))) (some (.brk (s_l1.1, s_l1.2.1, s_l1.2.2)))
def M.laws_markFinishSS (a0 : List (List Finish)) (a1 : Int) : Option ((Int) × (List (List Finish))) :=
  bnd (loopF (M.laws_markFinishSS_l1) (a0, a1, 0)) fun o => outc o (fun x => some x) (fun s => M.laws_markFinishSS_a1 s)
def M.spec_l26Code (a0 : Int) : Option Bool :=
  bnd (M.spec_l01In a0 0 9) fun x1 => some x1
def M.spec_l26Race_a1 (s_l1 : Int) : Option Bool :=
  some true
def M.spec_l26Race_j2 (s_l1 : Int) (s_j2 : Bool) : Option (Stp Bool Int) :=
  ifB s_j2 (some (.ret false)) (some (.cont (w64 (s_l1 + 1))))
def M.spec_l26Race_j1 (s_l1 : Int) (x125 : Finish) (s_j1 : Bool) : Option (Stp Bool Int) :=
  ifB s_j1 (some (.ret false)) (ifB (x125.Code == 0) (bnd (M.spec_l01In x125.Time 1 1000000000) fun x163 => ifB (!x163) (M.spec_l26Race_j2 s_l1 true) (ifB (x125.Code != 0) (M.spec_l26Race_j2 s_l1 (x125.Time != 0)) (M.spec_l26Race_j2 s_l1 false))) (ifB (x125.Code != 0) (M.spec_l26Race_j2 s_l1 (x125.Time != 0)) (M.spec_l26Race_j2 s_l1 false)))
def M.spec_l26Race_l1 (a1 : Race) (s_l1 : Int) : Option (Stp Bool Int) :=
  ifB (decide (s_l1 < (a1.Finishes.length : Int))) (bnd (idx a1.Finishes s_l1) fun x125 => ifB (x125.Boat != s_l1) (M.spec_l26Race_j1 s_l1 x125 true) (bnd (M.spec_l26Code x125.Code) fun x172 => M.spec_l26Race_j1 s_l1 x125 (!x172))) (some (.brk s_l1))
def M.spec_l26Race (a0 : Int) (a1 : Race) : Option Bool :=
  ifB ((a1.Finishes.length : Int) != a0) (some false) (bnd (loopF (M.spec_l26Race_l1 a1) 0) fun o => outc o (fun x => some x) (fun s => M.spec_l26Race_a1 s))
def M.spec_l26Done (a0 : Finish) : Option Bool :=
  some (a0.Code == 0)
def M.laws_heldFinishS_a1 (s_l1 : Int × Int) : Option Int :=
  some s_l1.1
def M.laws_heldFinishS_l1 (a0 : List Finish) (s_l1 : Int × Int) : Option (Stp Int (Int × Int)) :=
  ifB (decide (s_l1.2 < (a0.length : Int))) (bnd (idx a0 s_l1.2) fun x62 => ifB (x62.Boat != s_l1.1) (some (.ret (-1))) (bnd (idx a0 s_l1.2) fun x69 => ifB (x69.Code != (w64 (s_l1.1 + 1))) (some (.ret (-1))) (bnd (idx a0 s_l1.2) fun x76 => ifB (x76.Time != (w64 ((w64 (s_l1.1 + 1)) + 1))) (some (.ret (-1))) (some (.cont (w64 ((w64 ((w64 (s_l1.1 + 1)) + 1)) + 1), w64 (s_l1.2 + 1))))))) (some (.brk (s_l1.1, s_l1.2)))
def M.laws_heldFinishS (a0 : List Finish) (a1 : Int) : Option Int :=
  bnd (loopF (M.laws_heldFinishS_l1 a0) (a1, 0)) fun o => outc o (fun x => some x) (fun s => M.laws_heldFinishS_a1 s)
def M.laws_szInt64S (a0 : List Int) (a1 : Int) : Option Int :=
  ifB (decide ((w64 (a1 - (a0.length : Int))) < 0)) (some (-1)) (some (w64 (a1 - (a0.length : Int))))
def M.laws_szInt64SS_a1 (s_l1 : Int × Int) : Option Int :=
  some s_l1.1
def M.laws_szInt64SS_l1 (a0 : List (List Int)) (s_l1 : Int × Int) : Option (Stp Int (Int × Int)) :=
  ifB (decide (s_l1.2 < (a0.length : Int))) (bnd (idx a0 s_l1.2) fun x71 => bnd (M.laws_szInt64S x71 s_l1.1) fun x81 => ifB (decide (x81 < 0)) (some (.ret (-1))) (some (.cont (x81, w64 (s_l1.2 + 1))))) (some (.brk (s_l1.1, s_l1.2)))
def M.laws_szInt64SS (a0 : List (List Int)) (a1 : Int) : Option Int :=
  ifB (decide ((w64 (a1 - (a0.length : Int))) < 0)) (some (-1)) (bnd (loopF (M.laws_szInt64SS_l1 a0) (w64 (a1 - (a0.length : Int)), 0)) fun o => outc o (fun x => some x) (fun s => M.laws_szInt64SS_a1 s))
def M.laws_szTable (a0 : Table) (a1 : Int) : Option Int :=
  bnd (M.laws_szInt64SS a0.Points a1) fun x7 => ifB (decide (x7 < 0)) (some (-1)) (bnd (M.laws_szInt64SS a0.Codes x7) fun x13 => ifB (decide (x13 < 0)) (some (-1)) (some x13))
def M.laws_toInt64SS_a1 (s_l1 : (List (List Int)) × Int) : Option (List (List Int)) :=
  some s_l1.1
def M.laws_toInt64SS_l1 (a0 : List (List Int)) (s_l1 : (List (List Int)) × Int) : Option (Stp (List (List Int)) ((List (List Int)) × Int)) :=
  ifB (decide (s_l1.2 < (a0.length : Int))) (bnd (idx a0 s_l1.2) fun x118 => bnd (M.laws_toInt64S x118) fun x128 => bnd (idx s_l1.1 s_l1.2) fun x143 => some (.cont (s_l1.1.set (s_l1.2 : Int).toNat x128, w64 (s_l1.2 + 1)))) (some (.brk (s_l1.1, s_l1.2)))
def M.laws_toInt64SS (a0 : List (List Int)) : Option (List (List Int)) :=
  chk (0 ≤ (a0.length : Int) ∧ (a0.length : Int) < 1099511627776) (bnd (loopF (M.laws_toInt64SS_l1 a0) (List.replicate ((a0.length : Int)).toNat (([] : List Int) : List Int), 0)) fun o => outc o (fun x => some x) (fun s => M.laws_toInt64SS_a1 s))
def M.laws_toTable (a0 : Table) : Option Table :=
  bnd (M.laws_toInt64SS a0.Points) fun x12 => bnd (M.laws_toInt64SS a0.Codes) fun x20 => some (Table.mk a0.Boats x12 x20)
def M.spec_IsTable_a1 (s_l1 : Int) : Option Bool :=
  some true
def M.spec_IsTable_a2 (s_l1 : Int) (s_l2 : Int) : Option (Stp Bool Int) :=
  some (.cont (w64 (s_l1 + 1)))
def M.spec_IsTable_j3 (s_l2 : Int) (s_j3 : Bool) : Option (Stp Bool Int) :=
  ifB s_j3 (some (.ret false)) (some (.cont (w64 (s_l2 + 1))))
def M.spec_IsTable_l2 (a0 : Table) (s_l1 : Int) (s_l2 : Int) : Option (Stp Bool Int) :=
  ifB (decide (s_l2 < a0.Boats)) (bnd (idx a0.Points s_l1) fun x1282 => bnd (idx x1282 s_l2) fun x1292 => bnd (M.spec_l01In x1292 0 10000) fun x1298 => ifB (!x1298) (M.spec_IsTable_j3 s_l2 true) (bnd (idx a0.Codes s_l1) fun x1310 => bnd (idx x1310 s_l2) fun x1320 => bnd (M.spec_l26Code x1320) fun x1326 => M.spec_IsTable_j3 s_l2 (!x1326))) (some (.brk s_l2))
def M.spec_IsTable_j2 (a0 : Table) (s_l1 : Int) (s_j2 : Bool) : Option (Stp Bool Int) :=
  ifB s_j2 (some (.ret false)) (bnd (loopF (M.spec_IsTable_l2 a0 s_l1) 0) fun o => outc o (fun x => some (.ret x)) (fun s => M.spec_IsTable_a2 s_l1 s))
def M.spec_IsTable_l1 (a0 : Table) (s_l1 : Int) : Option (Stp Bool Int) :=
  ifB (decide (s_l1 < (a0.Points.length : Int))) (bnd (idx a0.Points s_l1) fun x1337 => ifB ((x1337.length : Int) != a0.Boats) (M.spec_IsTable_j2 a0 s_l1 true) (bnd (idx a0.Codes s_l1) fun x1355 => M.spec_IsTable_j2 a0 s_l1 ((x1355.length : Int) != a0.Boats))) (some (.brk s_l1))
def M.spec_IsTable_j1 (a0 : Table) (s_j1 : Bool) : Option Bool :=
  ifB s_j1 (some false) (bnd (loopF (M.spec_IsTable_l1 a0) 0) fun o => outc o (fun x => some x) (fun s => M.spec_IsTable_a1 s))
def M.spec_IsTable (a0 : Table) : Option Bool :=
  bnd (M.spec_l01In a0.Boats 1 16) fun x1366 => ifB (!x1366) (M.spec_IsTable_j1 a0 true) (ifB (decide (12 < (a0.Points.length : Int))) (M.spec_IsTable_j1 a0 true) (M.spec_IsTable_j1 a0 ((a0.Codes.length : Int) != (a0.Points.length : Int))))
def M.spec_l27Code_j1 (s_j1 : Bool) : Option Int :=
  ifB s_j1 (some 2) (some 0)
def M.spec_l27Code (a0 : Table) (a1 : List Int) (a2 : Int) : Option Int :=
  bnd (M.spec_IsTable a0) fun x9 => ifB (!x9) (some 1) (bnd (M.spec_IsDiscardRule a1) fun x30 => ifB (!x30) (M.spec_l27Code_j1 true) (bnd (M.spec_l01In a2 0 (w64 (a0.Boats - 1))) fun x36 => M.spec_l27Code_j1 (!x36)))
def M.spec_l27Out_a1 (s_l1 : (List Bool) × Int) : Option (List Bool) :=
  some s_l1.1
def M.spec_l27Out_j1 (s_l1 : (List Bool) × Int) (s_j1 : (List Bool)) : Option (Stp (List Bool) ((List Bool) × Int)) :=
  some (.cont (s_j1, w64 (s_l1.2 - 1)))
def M.spec_l27Out_j2 (s_l1 : (List Bool) × Int) (s_j2 : (List Bool)) : Option (Stp (List Bool) ((List Bool) × Int)) :=
  M.spec_l27Out_j1 s_l1 s_j2
def M.spec_l27Out_a2 (s_l1 : (List Bool) × Int) (s_l2 : Int × Int) : Option (Stp (List Bool) ((List Bool) × Int)) :=
  ifB (decide (0 ≤ s_l2.1)) (bnd (idx s_l1.1 s_l2.1) fun x24818 => M.spec_l27Out_j2 s_l1 (s_l1.1.set (s_l2.1 : Int).toNat true)) (M.spec_l27Out_j2 s_l1 s_l1.1)
def M.spec_l27Out_j3 (s_l2 : Int × Int) (s_j3 : Int) : Option (Stp (List Bool) (Int × Int)) :=
  some (.cont (s_j3, w64 (s_l2.2 + 1)))
def M.spec_l27Out_j4 (s_l2 : Int × Int) (s_j4 : Int) : Option (Stp (List Bool) (Int × Int)) :=
  M.spec_l27Out_j3 s_l2 s_j4
def M.spec_l27Out_j5 (s_l2 : Int × Int) (s_j5 : Bool) : Option (Stp (List Bool) (Int × Int)) :=
  ifB s_j5 (M.spec_l27Out_j4 s_l2 s_l2.2) (M.spec_l27Out_j4 s_l2 s_l2.1)
def M.spec_l27Out_l2 (a0 : Table) (a2 : Int) (s_l1 : (List Bool) × Int) (s_l2 : Int × Int) : Option (Stp (List Bool) (Int × Int)) :=
  ifB (decide (s_l2.2 < (s_l1.1.length : Int))) (bnd (idx s_l1.1 s_l2.2) fun x25451 => ifB (!x25451) (bnd (idx a0.Codes s_l2.2) fun x25464 => bnd (idx x25464 a2) fun x25474 => ifB (x25474 != 7) (ifB (decide (s_l2.1 < 0)) (M.spec_l27Out_j5 s_l2 true) (bnd (idx a0.Points s_l2.2) fun x25489 => bnd (idx x25489 a2) fun x25499 => bnd (idx a0.Points s_l2.1) fun x25511 => bnd (idx x25511 a2) fun x25521 => M.spec_l27Out_j5 s_l2 (decide (x25521 < x25499)))) (M.spec_l27Out_j5 s_l2 false)) (M.spec_l27Out_j5 s_l2 false)) (some (.brk (s_l2.1, s_l2.2)))
def M.spec_l27Out_l1 (a0 : Table) (a2 : Int) (s_l1 : (List Bool) × Int) : Option (Stp (List Bool) ((List Bool) × Int)) :=
  ifB (decide (0 < s_l1.2)) (bnd (loopF (M.spec_l27Out_l2 a0 a2 s_l1) ((-1), 0)) fun o => outc o (fun x => some (.ret x)) (fun s => M.spec_l27Out_a2 s_l1 s)) (some (.brk (s_l1.1, s_l1.2)))
def M.spec_l27Out (a0 : Table) (a1 : List Int) (a2 : Int) : Option (List Bool) :=
  chk (0 ≤ (a0.Points.length : Int) ∧ (a0.Points.length : Int) < 1099511627776) (bnd (M.spec_l27Count a1 (a0.Points.length : Int)) fun x13 => bnd (loopF (M.spec_l27Out_l1 a0 a2) (List.replicate ((a0.Points.length : Int)).toNat (false : Bool), x13)) fun o => outc o (fun x => some x) (fun s => M.spec_l27Out_a1 s))
def M.spec_DiscardsOf_a1 (s_l1 : (List Int) × Int) : Option ((List Int) × Int) :=
  some (s_l1.1, 0)
def M.spec_DiscardsOf_j1 (s_l1 : (List Int) × Int) (s_j1 : (List Int)) : Option (Stp ((List Int) × Int) ((List Int) × Int)) :=
  some (.cont (s_j1, w64 (s_l1.2 + 1)))
def M.spec_DiscardsOf_j2 (s_l1 : (List Int) × Int) (s_j2 : (List Int)) : Option (Stp ((List Int) × Int) ((List Int) × Int)) :=
  M.spec_DiscardsOf_j1 s_l1 s_j2
def M.spec_DiscardsOf_l1 (x15 : (List Bool)) (s_l1 : (List Int) × Int) : Option (Stp ((List Int) × Int) ((List Int) × Int)) :=
  ifB (decide (s_l1.2 < (x15.length : Int))) (bnd (idx x15 s_l1.2) fun x263 => ifB x263 (chk (s_l1.1.length + ([s_l1.2] : List Int).length < 1099511627776) (M.spec_DiscardsOf_j2 s_l1 (s_l1.1 ++ ([s_l1.2] : List Int)))) (M.spec_DiscardsOf_j2 s_l1 s_l1.1)) (some (.brk (s_l1.1, s_l1.2)))
def M.spec_DiscardsOf (a0 : Table) (a1 : List Int) (a2 : Int) : Option ((List Int) × Int) :=
  bnd (M.spec_l27Code a0 a1 a2) fun x9 => ifB (x9 != 0) (some ([], x9)) (bnd (M.spec_l27Out a0 a1 a2) fun x15 => bnd (loopF (M.spec_DiscardsOf_l1 x15) (([] : List Int), 0)) fun o => outc o (fun x => some x) (fun s => M.spec_DiscardsOf_a1 s))
def M.impl_areRow_a1 (a0 : List Int) (a1 : Int) (s_l1 : Int) : Option Bool :=
  some ((a0.length : Int) == a1)
def M.impl_areRow_l1 (a0 : List Int) (a2 : Int) (s_l1 : Int) : Option (Stp Bool Int) :=
  ifB (decide (s_l1 < (a0.length : Int))) (bnd (idx a0 s_l1) fun x50 => bnd (M.impl_within x50 0 a2) fun x56 => ifB (!x56) (some (.ret false)) (some (.cont (w64 (s_l1 + 1))))) (some (.brk s_l1))
def M.impl_areRow (a0 : List Int) (a1 : Int) (a2 : Int) : Option Bool :=
  bnd (loopF (M.impl_areRow_l1 a0 a2) 0) fun o => outc o (fun x => some x) (fun s => M.impl_areRow_a1 a0 a1 s)
def M.impl_IsTable_a1 (s_l1 : Int) : Option Bool :=
  some true
def M.impl_IsTable_j2 (s_l1 : Int) (s_j2 : Bool) : Option (Stp Bool Int) :=
  ifB s_j2 (some (.ret false)) (some (.cont (w64 (s_l1 + 1))))
def M.impl_IsTable_l1 (a0 : Table) (s_l1 : Int) : Option (Stp Bool Int) :=
  ifB (decide (s_l1 < (a0.Points.length : Int))) (bnd (idx a0.Points s_l1) fun x258 => bnd (M.impl_areRow x258 a0.Boats 10000) fun x268 => ifB (!x268) (M.impl_IsTable_j2 s_l1 true) (bnd (idx a0.Codes s_l1) fun x278 => bnd (M.impl_areRow x278 a0.Boats 9) fun x288 => M.impl_IsTable_j2 s_l1 (!x288))) (some (.brk s_l1))
def M.impl_IsTable_j1 (a0 : Table) (s_j1 : Bool) : Option Bool :=
  ifB s_j1 (some false) (bnd (loopF (M.impl_IsTable_l1 a0) 0) fun o => outc o (fun x => some x) (fun s => M.impl_IsTable_a1 s))
def M.impl_IsTable (a0 : Table) : Option Bool :=
  bnd (M.impl_within a0.Boats 1 16) fun x291 => ifB (!x291) (M.impl_IsTable_j1 a0 true) (ifB (decide (12 < (a0.Points.length : Int))) (M.impl_IsTable_j1 a0 true) (M.impl_IsTable_j1 a0 ((a0.Points.length : Int) != (a0.Codes.length : Int))))
def M.impl_tableCode_j1 (s_j1 : Bool) : Option Int :=
  ifB s_j1 (some 2) (some 0)
def M.impl_tableCode (a0 : Table) (a1 : List Int) (a2 : Int) : Option Int :=
  bnd (M.impl_IsTable a0) fun x9 => ifB (!x9) (some 1) (bnd (M.impl_IsDiscardRule a1) fun x30 => ifB (!x30) (M.impl_tableCode_j1 true) (bnd (M.impl_within a2 0 (w64 (a0.Boats - 1))) fun x36 => M.impl_tableCode_j1 (!x36)))
def M.impl_sign (a0 : Int) : Option Int :=
  some (max (-1) (min 1 a0))
def M.laws_eqInt64SS_a1 (s_l1 : Int) : Option Bool :=
  some true
def M.laws_eqInt64SS_l1 (a0 : List (List Int)) (a1 : List (List Int)) (s_l1 : Int) : Option (Stp Bool Int) :=
  ifB (decide (s_l1 < (a0.length : Int))) (bnd (idx a0 s_l1) fun x101 => bnd (idx a1 s_l1) fun x117 => bnd (M.laws_eqInt64S x101 x117) fun x127 => ifB (!x127) (some (.ret false)) (some (.cont (w64 (s_l1 + 1))))) (some (.brk s_l1))
def M.laws_eqInt64SS (a0 : List (List Int)) (a1 : List (List Int)) : Option Bool :=
  ifB ((a0.length : Int) != (a1.length : Int)) (some false) (bnd (loopF (M.laws_eqInt64SS_l1 a0 a1) 0) fun o => outc o (fun x => some x) (fun s => M.laws_eqInt64SS_a1 s))
def M.laws_eqTable (a0 : Table) (a1 : Table) : Option Bool :=
  ifB (a0.Boats != a1.Boats) (some false) (bnd (M.laws_eqInt64SS a0.Points a1.Points) fun x14 => ifB (!x14) (some false) (bnd (M.laws_eqInt64SS a0.Codes a1.Codes) fun x20 => ifB (!x20) (some false) (some true)))
def M.laws_markInt64SS_a1 (s_l1 : (List (List Int)) × Int × Int) : Option ((Int) × (List (List Int))) :=
  some (s_l1.2.1, s_l1.1)
def M.laws_markInt64SS_l1 (s_l1 : (List (List Int)) × Int × Int) : Option (Stp ((Int) × (List (List Int))) ((List (List Int)) × Int × Int)) :=
  ifB (decide (s_l1.2.2 < (s_l1.1.length : Int))) (bnd (idx s_l1.1 s_l1.2.2) fun x92 => bnd (M.laws_markInt64S x92 s_l1.2.1) fun x107 => some (.cont (s_l1.1.set (s_l1.2.2 : Int).toNat x107.2, x107.1, w64 (s_l1.2.2 + 1)))) (some (.brk (s_l1.1, s_l1.2.1, s_l1.2.2)))
def M.laws_markInt64SS (a0 : List (List Int)) (a1 : Int) : Option ((Int) × (List (List Int))) :=
  bnd (loopF (M.laws_markInt64SS_l1) (a0, a1, 0)) fun o => outc o (fun x => some x) (fun s => M.laws_markInt64SS_a1 s)
def M.spec_l27Counted_a1 (s_l1 : (List Int) × Int) : Option (List Int) :=
  some s_l1.1
def M.spec_l27Counted_j1 (s_l1 : (List Int) × Int) (s_j1 : (List Int)) : Option (Stp (List Int) ((List Int) × Int)) :=
  some (.cont (s_j1, w64 (s_l1.2 + 1)))
def M.spec_l27Counted_j2 (s_l1 : (List Int) × Int) (s_j2 : (List Int)) : Option (Stp (List Int) ((List Int) × Int)) :=
  M.spec_l27Counted_j1 s_l1 s_j2
def M.spec_l27Counted_l1 (a0 : Table) (a2 : Int) (x9 : (List Bool)) (s_l1 : (List Int) × Int) : Option (Stp (List Int) ((List Int) × Int)) :=
  ifB (decide (s_l1.2 < (x9.length : Int))) (bnd (idx x9 s_l1.2) fun x521 => ifB (!x521) (bnd (idx a0.Points s_l1.2) fun x534 => bnd (idx x534 a2) fun x544 => chk (s_l1.1.length + ([x544] : List Int).length < 1099511627776) (M.spec_l27Counted_j2 s_l1 (s_l1.1 ++ ([x544] : List Int)))) (M.spec_l27Counted_j2 s_l1 s_l1.1)) (some (.brk (s_l1.1, s_l1.2)))
def M.spec_l27Counted (a0 : Table) (a1 : List Int) (a2 : Int) : Option (List Int) :=
  bnd (M.spec_l27Out a0 a1 a2) fun x9 => bnd (loopF (M.spec_l27Counted_l1 a0 a2 x9) (([] : List Int), 0)) fun o => outc o (fun x => some x) (fun s => M.spec_l27Counted_a1 s)
def M.spec_l27Sum_a1 (s_l1 : Int × Int) : Option Int :=
  some s_l1.1
def M.spec_l27Sum_l1 (a0 : List Int) (s_l1 : Int × Int) : Option (Stp Int (Int × Int)) :=
  ifB (decide (s_l1.2 < (a0.length : Int))) (bnd (idx a0 s_l1.2) fun x32 => some (.cont (w64 (s_l1.1 + x32), w64 (s_l1.2 + 1)))) (some (.brk (s_l1.1, s_l1.2)))
def M.spec_l27Sum (a0 : List Int) : Option Int :=
  bnd (loopF (M.spec_l27Sum_l1 a0) (0, 0)) fun o => outc o (fun x => some x) (fun s => M.spec_l27Sum_a1 s)
def M.spec_l28Sorted_a1 (s_l1 : (List Int) × Int) : Option (List Int) :=
  some s_l1.1
def M.spec_l28Sorted_a2 (s_l1 : (List Int) × Int) (s_l2 : (List Int) × Int) : Option (Stp (List Int) ((List Int) × Int)) :=
  some (.cont (s_l2.1, w64 (s_l1.2 + 1)))
def M.spec_l28Sorted_j1 (s_l2 : (List Int) × Int) (s_j1 : Bool) : Option (Stp (List Int) ((List Int) × Int)) :=
  ifB s_j1 (bnd (idx s_l2.1 s_l2.2) fun x601 => bnd (idx s_l2.1 (w64 (s_l2.2 - 1))) fun x607 => bnd (idx s_l2.1 s_l2.2) fun x613 => bnd (idx (s_l2.1.set (s_l2.2 : Int).toNat x607) (w64 (s_l2.2 - 1))) fun x620 => some (.cont ((s_l2.1.set (s_l2.2 : Int).toNat x607).set (w64 (s_l2.2 - 1) : Int).toNat x601, w64 (s_l2.2 - 1)))) (some (.brk (s_l2.1, s_l2.2)))
def M.spec_l28Sorted_l2 (s_l2 : (List Int) × Int) : Option (Stp (List Int) ((List Int) × Int)) :=
  ifB (decide (0 < s_l2.2)) (bnd (idx s_l2.1 (w64 (s_l2.2 - 1))) fun x628 => bnd (idx s_l2.1 s_l2.2) fun x634 => M.spec_l28Sorted_j1 s_l2 (decide (x634 < x628))) (M.spec_l28Sorted_j1 s_l2 false)
def M.spec_l28Sorted_l1 (s_l1 : (List Int) × Int) : Option (Stp (List Int) ((List Int) × Int)) :=
  ifB (decide (s_l1.2 < (s_l1.1.length : Int))) (bnd (loopF (M.spec_l28Sorted_l2) (s_l1.1, s_l1.2)) fun o => outc o (fun x => some (.ret x)) (fun s => M.spec_l28Sorted_a2 s_l1 s)) (some (.brk (s_l1.1, s_l1.2)))
def M.spec_l28Sorted (a0 : List Int) : Option (List Int) :=
  chk (([] : List Int).length + a0.length < 1099511627776) (bnd (loopF (M.spec_l28Sorted_l1) (([] : List Int) ++ a0, 1)) fun o => outc o (fun x => some x) (fun s => M.spec_l28Sorted_a1 s))
def M.spec_SortedPoints (a0 : Table) (a1 : List Int) (a2 : Int) : Option ((List Int) × Int) :=
  bnd (M.spec_l27Code a0 a1 a2) fun x9 => ifB (x9 != 0) (some ([], x9)) (bnd (M.spec_l27Counted a0 a1 a2) fun x15 => bnd (M.spec_l28Sorted x15) fun x22 => some (x22, 0))
def M.spec_NetScores_a1 (s_l1 : (List Int) × Int) : Option ((List Int) × Int) :=
  some (s_l1.1, 0)
def M.spec_NetScores_l1 (a0 : Table) (a1 : List Int) (s_l1 : (List Int) × Int) : Option (Stp ((List Int) × Int) ((List Int) × Int)) :=
  ifB (decide (s_l1.2 < a0.Boats)) (bnd (M.spec_l27Counted a0 a1 s_l1.2) fun x79 => bnd (M.spec_l27Sum x79) fun x86 => chk (s_l1.1.length + ([x86] : List Int).length < 1099511627776) (some (.cont (s_l1.1 ++ ([x86] : List Int), w64 (s_l1.2 + 1))))) (some (.brk (s_l1.1, s_l1.2)))
def M.spec_NetScores (a0 : Table) (a1 : List Int) : Option ((List Int) × Int) :=
  bnd (M.spec_l27Code a0 a1 0) fun x9 => ifB (x9 != 0) (some ([], x9)) (bnd (loopF (M.spec_NetScores_l1 a0 a1) (([] : List Int), 0)) fun o => outc o (fun x => some x) (fun s => M.spec_NetScores_a1 s))
def M.spec_l28Code (a0 : Table) (a1 : List Int) (a2 : Int) (a3 : Int) : Option Int :=
  bnd (M.spec_l27Code a0 a1 a2) fun x9 => ifB (x9 != 0) (some x9) (bnd (M.spec_l27Code a0 a1 a3) fun x15 => some x15)
def M.spec_l28Sign (a0 : Int) (a1 : Int) : Option Int :=
  ifB (decide (a0 < a1)) (some (-1)) (ifB (decide (a1 < a0)) (some 1) (some 0))
def M.spec_l28Compare_a2 (s_l2 : Int) : Option (Int × Int × Int) :=
  some (0, 0, 0)
def M.spec_l28Compare_l2 (a0 : Table) (a2 : Int) (a3 : Int) (s_l2 : Int) : Option (Stp (Int × Int × Int) Int) :=
  ifB (decide (0 ≤ s_l2)) (bnd (idx a0.Points s_l2) fun x368 => bnd (idx x368 a2) fun x378 => bnd (idx a0.Points s_l2) fun x390 => bnd (idx x390 a3) fun x400 => ifB (x378 != x400) (bnd (idx a0.Points s_l2) fun x414 => bnd (idx x414 a2) fun x424 => bnd (idx a0.Points s_l2) fun x436 => bnd (idx x436 a3) fun x446 => bnd (M.spec_l28Sign x424 x446) fun x452 => some (.ret (x452, 3, s_l2))) (some (.cont (w64 (s_l2 - 1))))) (some (.brk s_l2))
def M.spec_l28Compare_a1 (a0 : Table) (a2 : Int) (a3 : Int) (s_l1 : Int) : Option (Int × Int × Int) :=
  bnd (loopF (M.spec_l28Compare_l2 a0 a2 a3) (w64 ((a0.Points.length : Int) - 1))) fun o => outc o (fun x => some x) (fun s => M.spec_l28Compare_a2 s)
def M.spec_l28Compare_j1 (x16 : (List Int)) (x30 : (List Int)) (s_l1 : Int) (s_j1 : Bool) : Option (Stp (Int × Int × Int) Int) :=
  ifB s_j1 (bnd (idx x16 s_l1) fun x474 => bnd (idx x30 s_l1) fun x480 => ifB (x474 != x480) (bnd (idx x16 s_l1) fun x488 => bnd (idx x30 s_l1) fun x494 => bnd (M.spec_l28Sign x488 x494) fun x500 => some (.ret (x500, 2, 0))) (some (.cont (w64 (s_l1 + 1))))) (some (.brk s_l1))
def M.spec_l28Compare_l1 (x16 : (List Int)) (x30 : (List Int)) (s_l1 : Int) : Option (Stp (Int × Int × Int) Int) :=
  ifB (decide (s_l1 < (x16.length : Int))) (M.spec_l28Compare_j1 x16 x30 s_l1 (decide (s_l1 < (x30.length : Int)))) (M.spec_l28Compare_j1 x16 x30 s_l1 false)
def M.spec_l28Compare (a0 : Table) (a1 : List Int) (a2 : Int) (a3 : Int) : Option (Int × Int × Int) :=
  bnd (M.spec_l27Counted a0 a1 a2) fun x9 => bnd (M.spec_l28Sorted x9) fun x16 => bnd (M.spec_l27Counted a0 a1 a3) fun x23 => bnd (M.spec_l28Sorted x23) fun x30 => bnd (M.spec_l27Sum x16) fun x37 => bnd (M.spec_l27Sum x30) fun x42 => ifB (x37 != x42) (bnd (M.spec_l27Sum x16) fun x48 => bnd (M.spec_l27Sum x30) fun x53 => bnd (M.spec_l28Sign x48 x53) fun x58 => some (x58, 1, 0)) (bnd (loopF (M.spec_l28Compare_l1 x16 x30) 0) fun o => outc o (fun x => some x) (fun s => M.spec_l28Compare_a1 a0 a2 a3 s))
def M.spec_CompareBoats (a0 : Table) (a1 : List Int) (a2 : Int) (a3 : Int) : Option (Int × Int × Int) :=
  bnd (M.spec_l28Code a0 a1 a2 a3) fun x9 => ifB (x9 != 0) (some (0, 0, x9)) (bnd (M.spec_l28Compare a0 a1 a2 a3) fun x15 => some (x15.1, x15.2.1, 0))
def M.impl_boatsCode (a0 : Table) (a1 : List Int) (a2 : Int) (a3 : Int) : Option Int :=
  bnd (M.impl_tableCode a0 a1 a2) fun x9 => ifB (x9 != 0) (some x9) (bnd (M.impl_tableCode a0 a1 a3) fun x15 => some x15)
def M.spec_DecidingRace (a0 : Table) (a1 : List Int) (a2 : Int) (a3 : Int) : Option (Int × Int) :=
  bnd (M.spec_l28Code a0 a1 a2 a3) fun x9 => ifB (x9 != 0) (some (0, x9)) (bnd (M.spec_l28Compare a0 a1 a2 a3) fun x15 => ifB (x15.2.1 != 3) (some (0, 4)) (some (x15.2.2, 0)))
def M.spec_l28Rank_a1 (s_l1 : Int × Int) : Option Int :=
  some s_l1.1
def M.spec_l28Rank_j1 (s_l1 : Int × Int) (s_j1 : Int) : Option (Stp Int (Int × Int)) :=
  some (.cont (s_j1, w64 (s_l1.2 + 1)))
def M.spec_l28Rank_j2 (s_l1 : Int × Int) (s_j2 : Int) : Option (Stp Int (Int × Int)) :=
  M.spec_l28Rank_j1 s_l1 s_j2
def M.spec_l28Rank_l1 (a0 : Table) (a1 : List Int) (a2 : Int) (s_l1 : Int × Int) : Option (Stp Int (Int × Int)) :=
  ifB (decide (s_l1.2 < a0.Boats)) (bnd (M.spec_l28Compare a0 a1 s_l1.2 a2) fun x159 => ifB (decide (x159.1 < 0)) (M.spec_l28Rank_j2 s_l1 (w64 (s_l1.1 + 1))) (M.spec_l28Rank_j2 s_l1 s_l1.1)) (some (.brk (s_l1.1, s_l1.2)))
def M.spec_l28Rank (a0 : Table) (a1 : List Int) (a2 : Int) : Option Int :=
  bnd (loopF (M.spec_l28Rank_l1 a0 a1 a2) (1, 0)) fun o => outc o (fun x => some x) (fun s => M.spec_l28Rank_a1 s)
def M.spec_l28Standing_a1 (s_l1 : (List Int) × Int) : Option (List Int) :=
  some s_l1.1
def M.spec_l28Standing_a2 (s_l1 : (List Int) × Int) (s_l2 : (List Int) × Int) : Option (Stp (List Int) ((List Int) × Int)) :=
  some (.cont (s_l2.1, w64 (s_l1.2 + 1)))
def M.spec_l28Standing_j1 (s_l2 : (List Int) × Int) (s_j1 : (List Int)) : Option (Stp (List Int) ((List Int) × Int)) :=
  some (.cont (s_j1, w64 (s_l2.2 + 1)))
def M.spec_l28Standing_j2 (s_l2 : (List Int) × Int) (s_j2 : (List Int)) : Option (Stp (List Int) ((List Int) × Int)) :=
  M.spec_l28Standing_j1 s_l2 s_j2
def M.spec_l28Standing_l2 (a0 : Table) (a1 : List Int) (s_l1 : (List Int) × Int) (s_l2 : (List Int) × Int) : Option (Stp (List Int) ((List Int) × Int)) :=
  ifB (decide (s_l2.2 < a0.Boats)) (bnd (M.spec_l28Rank a0 a1 s_l2.2) fun x808 => ifB (x808 == s_l1.2) (chk (s_l2.1.length + ([s_l2.2] : List Int).length < 1099511627776) (M.spec_l28Standing_j2 s_l2 (s_l2.1 ++ ([s_l2.2] : List Int)))) (M.spec_l28Standing_j2 s_l2 s_l2.1)) (some (.brk (s_l2.1, s_l2.2)))
def M.spec_l28Standing_l1 (a0 : Table) (a1 : List Int) (s_l1 : (List Int) × Int) : Option (Stp (List Int) ((List Int) × Int)) :=
  ifB (decide (s_l1.2 ≤ a0.Boats)) (bnd (loopF (M.spec_l28Standing_l2 a0 a1 s_l1) (s_l1.1, 0)) fun o => outc o (fun x => some (.ret x)) (fun s => M.spec_l28Standing_a2 s_l1 s)) (some (.brk (s_l1.1, s_l1.2)))
def M.spec_l28Standing (a0 : Table) (a1 : List Int) : Option (List Int) :=
  bnd (loopF (M.spec_l28Standing_l1 a0 a1) (([] : List Int), 1)) fun o => outc o (fun x => some x) (fun s => M.spec_l28Standing_a1 s)
def M.spec_LeadOf (a0 : Table) (a1 : List Int) : Option (Int × Int) :=
  bnd (M.spec_l27Code a0 a1 0) fun x9 => ifB (x9 != 0) (some (0, x9)) (ifB (a0.Boats == 1) (some (0, 5)) (bnd (M.spec_l28Standing a0 a1) fun x16 => bnd (idx x16 1) fun x59 => bnd (idx x16 0) fun x65 => bnd (M.spec_l27Counted a0 a1 x59) fun x71 => bnd (M.spec_l27Sum x71) fun x78 => bnd (M.spec_l27Counted a0 a1 x65) fun x83 => bnd (M.spec_l27Sum x83) fun x90 => some (w64 (x78 - x90), 0)))
def M.spec_TiedBoats_a1 (s_l1 : (List (List Int)) × Int) : Option ((List (List Int)) × Int) :=
  some (s_l1.1, 0)
def M.spec_TiedBoats_j1 (s_l1 : (List (List Int)) × Int) (s_j1 : (List (List Int))) : Option (Stp ((List (List Int)) × Int) ((List (List Int)) × Int)) :=
  some (.cont (s_j1, w64 (s_l1.2 + 1)))
def M.spec_TiedBoats_j2 (s_l1 : (List (List Int)) × Int) (s_j2 : (List (List Int))) : Option (Stp ((List (List Int)) × Int) ((List (List Int)) × Int)) :=
  M.spec_TiedBoats_j1 s_l1 s_j2
def M.spec_TiedBoats_a2 (s_l1 : (List (List Int)) × Int) (s_l2 : (List Int) × Int) : Option (Stp ((List (List Int)) × Int) ((List (List Int)) × Int)) :=
  ifB (decide (1 < (s_l2.1.length : Int))) (chk (s_l1.1.length + ([s_l2.1] : List (List Int)).length < 1099511627776) (M.spec_TiedBoats_j2 s_l1 (s_l1.1 ++ ([s_l2.1] : List (List Int))))) (M.spec_TiedBoats_j2 s_l1 s_l1.1)
def M.spec_TiedBoats_j4 (s_l2 : (List Int) × Int) (s_j4 : (List Int)) : Option (Stp ((List (List Int)) × Int) ((List Int) × Int)) :=
  some (.cont (s_j4, w64 (s_l2.2 + 1)))
def M.spec_TiedBoats_j5 (s_l2 : (List Int) × Int) (s_j5 : (List Int)) : Option (Stp ((List (List Int)) × Int) ((List Int) × Int)) :=
  M.spec_TiedBoats_j4 s_l2 s_j5
def M.spec_TiedBoats_l2 (a0 : Table) (x9 : (List Int) × Int) (x17 : (List Int)) (s_l1 : (List (List Int)) × Int) (s_l2 : (List Int) × Int) : Option (Stp ((List (List Int)) × Int) ((List Int) × Int)) :=
  ifB (decide (s_l2.2 < a0.Boats)) (bnd (idx x9.1 s_l2.2) fun x5257 => bnd (idx x17 s_l1.2) fun x5263 => ifB (x5257 == x5263) (chk (s_l2.1.length + ([s_l2.2] : List Int).length < 1099511627776) (M.spec_TiedBoats_j5 s_l2 (s_l2.1 ++ ([s_l2.2] : List Int)))) (M.spec_TiedBoats_j5 s_l2 s_l2.1)) (some (.brk (s_l2.1, s_l2.2)))
def M.spec_TiedBoats_j3 (a0 : Table) (x9 : (List Int) × Int) (x17 : (List Int)) (s_l1 : (List (List Int)) × Int) (s_j3 : Bool) : Option (Stp ((List (List Int)) × Int) ((List (List Int)) × Int)) :=
  ifB s_j3 (M.spec_TiedBoats_j2 s_l1 s_l1.1) (bnd (loopF (M.spec_TiedBoats_l2 a0 x9 x17 s_l1) (([] : List Int), 0)) fun o => outc o (fun x => some (.ret x)) (fun s => M.spec_TiedBoats_a2 s_l1 s))
def M.spec_TiedBoats_l1 (a0 : Table) (x9 : (List Int) × Int) (x17 : (List Int)) (s_l1 : (List (List Int)) × Int) : Option (Stp ((List (List Int)) × Int) ((List (List Int)) × Int)) :=
  ifB (decide (s_l1.2 < (x17.length : Int))) (ifB (decide (0 < s_l1.2)) (bnd (idx x17 (w64 (s_l1.2 - 1))) fun x5279 => bnd (idx x17 s_l1.2) fun x5285 => M.spec_TiedBoats_j3 a0 x9 x17 s_l1 (x5279 == x5285)) (M.spec_TiedBoats_j3 a0 x9 x17 s_l1 false)) (some (.brk (s_l1.1, s_l1.2)))
def M.spec_TiedBoats (a0 : Table) (a1 : List Int) : Option ((List (List Int)) × Int) :=
  bnd (M.spec_NetScores a0 a1) fun x9 => ifB (x9.2 != 0) (some ([], x9.2)) (bnd (M.spec_l28Sorted x9.1) fun x17 => bnd (loopF (M.spec_TiedBoats_l1 a0 x9 x17) (([] : List (List Int)), 0)) fun o => outc o (fun x => some x) (fun s => M.spec_TiedBoats_a1 s))
def M.impl_TiedBoats_2 (a0 : List Int) : Option Bool :=
  some (decide ((a0.length : Int) < 2))
def M.laws_heldInt64SS_a1 (s_l1 : Int × Int) : Option Int :=
  some s_l1.1
def M.laws_heldInt64SS_l1 (a0 : List (List Int)) (s_l1 : Int × Int) : Option (Stp Int (Int × Int)) :=
  ifB (decide (s_l1.2 < (a0.length : Int))) (bnd (idx a0 s_l1.2) fun x70 => bnd (M.laws_heldInt64S x70 s_l1.1) fun x80 => ifB (decide (x80 < 0)) (some (.ret (-1))) (some (.cont (x80, w64 (s_l1.2 + 1))))) (some (.brk (s_l1.1, s_l1.2)))
def M.laws_heldInt64SS (a0 : List (List Int)) (a1 : Int) : Option Int :=
  bnd (loopF (M.laws_heldInt64SS_l1 a0) (a1, 0)) fun o => outc o (fun x => some x) (fun s => M.laws_heldInt64SS_a1 s)
def M.spec_StandingOf (a0 : Table) (a1 : List Int) : Option ((List Int) × Int) :=
  bnd (M.spec_l27Code a0 a1 0) fun x9 => ifB (x9 != 0) (some ([], x9)) (bnd (M.spec_l28Standing a0 a1) fun x15 => some (x15, 0))
def M.spec_l26DrawBoats (a0 : Src) : Option ((Int) × (Int × Int)) :=
  bnd (M.spec_l01Next (Src.mk a0.code a0.at_ a0.seed) 24) fun x5 => ifB (x5.1 == 0) (bnd (M.spec_l01Next (Src.mk a0.code x5.2.1 x5.2.2) 2) fun x11 => some (w64 (16 * x11.1), (x11.2.1, x11.2.2))) (bnd (M.spec_l01Next (Src.mk a0.code x5.2.1 x5.2.2) 6) fun x16 => some (w64 (1 + x16.1), (x16.2.1, x16.2.2)))
def M.spec_l26DrawRace_a1 (s_l1 : Int × Int × (List Finish) × Int) : Option ((Race) × (Int × Int)) :=
  some ((Race.mk s_l1.2.2.1), (s_l1.1, s_l1.2.1))
def M.spec_l26DrawRace_j1 (s_l1 : Int × Int × (List Finish) × Int) (s_j1 : Int × Int × Int × Int) : Option (Stp ((Race) × (Int × Int)) (Int × Int × (List Finish) × Int)) :=
  chk (s_l1.2.2.1.length + ([(Finish.mk s_l1.2.2.2 s_j1.2.2.1 s_j1.2.2.2)] : List Finish).length < 1099511627776) (some (.cont (s_j1.1, s_j1.2.1, s_l1.2.2.1 ++ ([(Finish.mk s_l1.2.2.2 s_j1.2.2.1 s_j1.2.2.2)] : List Finish), w64 (s_l1.2.2.2 + 1))))
def M.spec_l26DrawRace_l1 (a0 : Src) (a1 : Int) (s_l1 : Int × Int × (List Finish) × Int) : Option (Stp ((Race) × (Int × Int)) (Int × Int × (List Finish) × Int)) :=
  ifB (decide (s_l1.2.2.2 < a1)) (bnd (M.spec_l01Next (Src.mk a0.code s_l1.1 s_l1.2.1) (w64 (2 * a1))) fun x130 => bnd (M.spec_l01Next (Src.mk a0.code x130.2.1 x130.2.2) 4) fun x165 => ifB (x165.1 == 0) (bnd (M.spec_l01Next (Src.mk a0.code x165.2.1 x165.2.2) 9) fun x171 => M.spec_l26DrawRace_j1 s_l1 (x171.2.1, x171.2.2, w64 (1 + x171.1), 0)) (M.spec_l26DrawRace_j1 s_l1 (x165.2.1, x165.2.2, 0, w64 (1 + x130.1)))) (some (.brk (s_l1.1, s_l1.2.1, s_l1.2.2.1, s_l1.2.2.2)))
def M.spec_l26DrawRace (a0 : Src) (a1 : Int) : Option ((Race) × (Int × Int)) :=
  bnd (loopF (M.spec_l26DrawRace_l1 a0 a1) (a0.at_, a0.seed, ([] : List Finish), 0)) fun o => outc o (fun x => some x) (fun s => M.spec_l26DrawRace_a1 s)
def M.spec_l26DrawSeries_j1 (x7 : (Int) × (Int × Int)) (s_j1 : Int × Int × Int × (List Race)) : Option ((Series) × (Int × Int)) :=
  some ((Series.mk x7.1 s_j1.2.2.1 s_j1.2.2.2), (s_j1.1, s_j1.2.1))
def M.spec_l26DrawSeries_j2 (x7 : (Int) × (Int × Int)) (s_j2 : Int × Int × Int × (List Race)) : Option ((Series) × (Int × Int)) :=
  M.spec_l26DrawSeries_j1 x7 (s_j2.1, s_j2.2.1, s_j2.2.2.1, s_j2.2.2.2)
def M.spec_l26DrawSeries_a2 (a0 : Src) (x7 : (Int) × (Int × Int)) (x12 : (Int) × (Int × Int)) (s_l2 : Int × Int × (List Race)) : Option ((Series) × (Int × Int)) :=
  bnd (M.spec_l01Next (Src.mk a0.code s_l2.1 s_l2.2.1) 2) fun x451 => chk (0 ≤ (0 : Int) ∧ (0 : Int) ≤ w64 (12 + x451.1) ∧ w64 (12 + x451.1) ≤ (s_l2.2.2.length : Int)) (M.spec_l26DrawSeries_j2 x7 (x451.2.1, x451.2.2, x12.1, subL s_l2.2.2 0 (w64 (12 + x451.1))))
def M.spec_l26DrawSeries_l2 (a0 : Src) (x7 : (Int) × (Int × Int)) (s_l2 : Int × Int × (List Race)) : Option (Stp ((Series) × (Int × Int)) (Int × Int × (List Race))) :=
  ifB (decide ((s_l2.2.2.length : Int) < 13)) (bnd (M.spec_l26DrawRace (Src.mk a0.code s_l2.1 s_l2.2.1) x7.1) fun x467 => chk (s_l2.2.2.length + ([(Race.mk x467.1.Finishes)] : List Race).length < 1099511627776) (some (.cont (x467.2.1, x467.2.2, s_l2.2.2 ++ ([(Race.mk x467.1.Finishes)] : List Race))))) (some (.brk (s_l2.1, s_l2.2.1, s_l2.2.2)))
def M.spec_l26DrawSeries_a1 (a0 : Src) (x7 : (Int) × (Int × Int)) (x12 : (Int) × (Int × Int)) (s_l1 : Int × Int × (List Race) × Int) : Option ((Series) × (Int × Int)) :=
  bnd (M.spec_l01Next (Src.mk a0.code s_l1.1 s_l1.2.1) 30) fun x283 => ifB (x283.1 == 0) (M.spec_l26DrawSeries_j2 x7 (x283.2.1, x283.2.2, 2, s_l1.2.2.1)) (ifB (x283.1 == 1) (bnd (M.spec_l26DrawRace (Src.mk a0.code x283.2.1 x283.2.2) (w64 (x7.1 + 1))) fun x391 => chk (s_l1.2.2.1.length + ([(Race.mk x391.1.Finishes)] : List Race).length < 1099511627776) (M.spec_l26DrawSeries_j2 x7 (x391.2.1, x391.2.2, x12.1, s_l1.2.2.1 ++ ([(Race.mk x391.1.Finishes)] : List Race)))) (ifB (x283.1 == 2) (bnd (loopF (M.spec_l26DrawSeries_l2 a0 x7) (x283.2.1, x283.2.2, s_l1.2.2.1)) fun o => outc o (fun x => some x) (fun s => M.spec_l26DrawSeries_a2 a0 x7 x12 s)) (M.spec_l26DrawSeries_j2 x7 (x283.2.1, x283.2.2, x12.1, s_l1.2.2.1))))
def M.spec_l26DrawSeries_l1 (a0 : Src) (x7 : (Int) × (Int × Int)) (s_l1 : Int × Int × (List Race) × Int) : Option (Stp ((Series) × (Int × Int)) (Int × Int × (List Race) × Int)) :=
  ifB (decide (0 < s_l1.2.2.2)) (bnd (M.spec_l26DrawRace (Src.mk a0.code s_l1.1 s_l1.2.1) x7.1) fun x490 => chk (s_l1.2.2.1.length + ([(Race.mk x490.1.Finishes)] : List Race).length < 1099511627776) (some (.cont (x490.2.1, x490.2.2, s_l1.2.2.1 ++ ([(Race.mk x490.1.Finishes)] : List Race), w64 (s_l1.2.2.2 - 1))))) (some (.brk (s_l1.1, s_l1.2.1, s_l1.2.2.1, s_l1.2.2.2)))
def M.spec_l26DrawSeries (a0 : Src) : Option ((Series) × (Int × Int)) :=
  bnd (M.spec_l26DrawBoats (Src.mk a0.code a0.at_ a0.seed)) fun x7 => bnd (M.spec_l01Next (Src.mk a0.code x7.2.1 x7.2.2) 2) fun x12 => bnd (M.spec_l01Next (Src.mk a0.code x12.2.1 x12.2.2) 7) fun x26 => bnd (loopF (M.spec_l26DrawSeries_l1 a0 x7) (x26.2.1, x26.2.2, ([] : List Race), x26.1)) fun o => outc o (fun x => some x) (fun s => M.spec_l26DrawSeries_a1 a0 x7 x12 s)
def M.spec_IsSeries_a1 (s_l1 : Int) : Option Bool :=
  some true
def M.spec_IsSeries_l1 (a0 : Series) (s_l1 : Int) : Option (Stp Bool Int) :=
  ifB (decide (s_l1 < (a0.Races.length : Int))) (bnd (idx a0.Races s_l1) fun x83 => bnd (M.spec_l26Race a0.Boats x83) fun x93 => ifB (!x93) (some (.ret false)) (some (.cont (w64 (s_l1 + 1))))) (some (.brk s_l1))
def M.spec_IsSeries_j1 (a0 : Series) (s_j1 : Bool) : Option Bool :=
  ifB s_j1 (some false) (bnd (loopF (M.spec_IsSeries_l1 a0) 0) fun o => outc o (fun x => some x) (fun s => M.spec_IsSeries_a1 s))
def M.spec_IsSeries (a0 : Series) : Option Bool :=
  bnd (M.spec_l01In a0.Boats 1 16) fun x97 => ifB (!x97) (M.spec_IsSeries_j1 a0 true) (bnd (M.spec_l01In a0.Scheme 0 1) fun x103 => ifB (!x103) (M.spec_IsSeries_j1 a0 true) (M.spec_IsSeries_j1 a0 (decide (12 < (a0.Races.length : Int)))))
def M.spec_l26Place_a1 (s_l1 : Int × Int × Int) : Option (Int × Int) :=
  some (s_l1.1, s_l1.2.1)
def M.spec_l26Place_j1 (s_l1 : Int × Int × Int) (s_j1 : Int × Int) : Option (Stp (Int × Int) (Int × Int × Int)) :=
  some (.cont (s_j1.1, s_j1.2, w64 (s_l1.2.2 + 1)))
def M.spec_l26Place_j2 (s_l1 : Int × Int × Int) (s_j2 : Int × Int) : Option (Stp (Int × Int) (Int × Int × Int)) :=
  M.spec_l26Place_j1 s_l1 (s_j2.1, s_j2.2)
def M.spec_l26Place_j4 (a0 : Race) (a2 : Int) (s_l1 : Int × Int × Int) (x1059 : Finish) (s_j4 : Int) : Option (Stp (Int × Int) (Int × Int × Int)) :=
  bnd (idx a0.Finishes a2) fun x1113 => ifB (x1059.Time == x1113.Time) (M.spec_l26Place_j2 s_l1 (s_j4, w64 (s_l1.2.1 + 1))) (M.spec_l26Place_j2 s_l1 (s_j4, s_l1.2.1))
def M.spec_l26Place_j3 (a0 : Race) (a2 : Int) (s_l1 : Int × Int × Int) (x1059 : Finish) (s_j3 : Bool) : Option (Stp (Int × Int) (Int × Int × Int)) :=
  ifB s_j3 (M.spec_l26Place_j2 s_l1 (s_l1.1, s_l1.2.1)) (bnd (idx a0.Finishes a2) fun x1121 => ifB (decide (x1059.Time < x1121.Time)) (M.spec_l26Place_j4 a0 a2 s_l1 x1059 (w64 (s_l1.1 + 1))) (M.spec_l26Place_j4 a0 a2 s_l1 x1059 s_l1.1))
def M.spec_l26Place_l1 (a0 : Race) (a1 : List Int) (a2 : Int) (s_l1 : Int × Int × Int) : Option (Stp (Int × Int) (Int × Int × Int)) :=
  ifB (decide (s_l1.2.2 < (a0.Finishes.length : Int))) (bnd (idx a0.Finishes s_l1.2.2) fun x1059 => bnd (M.spec_l26Done x1059) fun x1129 => ifB (!x1129) (M.spec_l26Place_j3 a0 a2 s_l1 x1059 true) (bnd (idx a1 s_l1.2.2) fun x1133 => bnd (idx a1 a2) fun x1139 => M.spec_l26Place_j3 a0 a2 s_l1 x1059 (x1133 != x1139))) (some (.brk (s_l1.1, s_l1.2.1, s_l1.2.2)))
def M.spec_l26Place (a0 : Race) (a1 : List Int) (a2 : Int) : Option (Int × Int) :=
  bnd (loopF (M.spec_l26Place_l1 a0 a1 a2) (1, 0, 0)) fun o => outc o (fun x => some x) (fun s => M.spec_l26Place_a1 s)
def M.spec_l26Points_a2 (s_l2 : (List Int) × Int) : Option (List Int) :=
  some s_l2.1
def M.spec_l26Points_j1 (s_l2 : (List Int) × Int) (s_j1 : (List Int)) : Option (Stp (List Int) ((List Int) × Int)) :=
  some (.cont (s_j1, w64 (s_l2.2 + 1)))
def M.spec_l26Points_j2 (s_l2 : (List Int) × Int) (s_j2 : (List Int)) : Option (Stp (List Int) ((List Int) × Int)) :=
  M.spec_l26Points_j1 s_l2 s_j2
def M.spec_l26Points_j3 (s_l2 : (List Int) × Int) (s_j3 : (List Int)) : Option (Stp (List Int) ((List Int) × Int)) :=
  M.spec_l26Points_j2 s_l2 s_j3
def M.spec_l26Points_j4 (a0 : Race) (s_l1 : Int × Int) (s_l2 : (List Int) × Int) (s_j4 : Bool) : Option (Stp (List Int) ((List Int) × Int)) :=
  ifB s_j4 (bnd (idx s_l2.1 s_l2.2) fun x1402 => M.spec_l26Points_j3 s_l2 (s_l2.1.set (s_l2.2 : Int).toNat (w64 (10 * (w64 ((a0.Finishes.length : Int) + 1)))))) (bnd (idx s_l2.1 s_l2.2) fun x1409 => M.spec_l26Points_j3 s_l2 (s_l2.1.set (s_l2.2 : Int).toNat (w64 (10 * (w64 (s_l1.1 + 1))))))
def M.spec_l26Points_l2 (a0 : Race) (a1 : Int) (s_l1 : Int × Int) (s_l2 : (List Int) × Int) : Option (Stp (List Int) ((List Int) × Int)) :=
  ifB (decide (s_l2.2 < (s_l2.1.length : Int))) (bnd (idx a0.Finishes s_l2.2) fun x1319 => ifB (x1319.Code == 0) (bnd (M.spec_l26Place a0 (List.replicate ((a0.Finishes.length : Int)).toNat (0 : Int)) s_l2.2) fun x1377 => bnd (idx s_l2.1 s_l2.2) fun x1382 => M.spec_l26Points_j3 s_l2 (s_l2.1.set (s_l2.2 : Int).toNat (w64 (5 * (w64 ((w64 ((w64 (2 * x1377.1)) + x1377.2)) - 1)))))) (ifB (x1319.Code == 9) (M.spec_l26Points_j3 s_l2 s_l2.1) (ifB (x1319.Code == 1) (M.spec_l26Points_j4 a0 s_l1 s_l2 true) (M.spec_l26Points_j4 a0 s_l1 s_l2 (a1 == 0))))) (some (.brk (s_l2.1, s_l2.2)))
def M.spec_l26Points_a1 (a0 : Race) (a1 : Int) (s_l1 : Int × Int) : Option (List Int) :=
  chk (0 ≤ (a0.Finishes.length : Int) ∧ (a0.Finishes.length : Int) < 1099511627776) (chk (0 ≤ (a0.Finishes.length : Int) ∧ (a0.Finishes.length : Int) < 1099511627776) (bnd (loopF (M.spec_l26Points_l2 a0 a1 s_l1) (List.replicate ((a0.Finishes.length : Int)).toNat (0 : Int), 0)) fun o => outc o (fun x => some x) (fun s => M.spec_l26Points_a2 s)))
def M.spec_l26Points_j5 (s_l1 : Int × Int) (s_j5 : Int) : Option (Stp (List Int) (Int × Int)) :=
  some (.cont (s_j5, w64 (s_l1.2 + 1)))
def M.spec_l26Points_j6 (s_l1 : Int × Int) (s_j6 : Int) : Option (Stp (List Int) (Int × Int)) :=
  M.spec_l26Points_j5 s_l1 s_j6
def M.spec_l26Points_l1 (a0 : Race) (s_l1 : Int × Int) : Option (Stp (List Int) (Int × Int)) :=
  ifB (decide (s_l1.2 < (a0.Finishes.length : Int))) (bnd (idx a0.Finishes s_l1.2) fun x1467 => ifB (x1467.Code != 1) (M.spec_l26Points_j6 s_l1 (w64 (s_l1.1 + 1))) (M.spec_l26Points_j6 s_l1 s_l1.1)) (some (.brk (s_l1.1, s_l1.2)))
def M.spec_l26Points (a0 : Race) (a1 : Int) : Option (List Int) :=
  bnd (loopF (M.spec_l26Points_l1 a0) (0, 0)) fun o => outc o (fun x => some x) (fun s => M.spec_l26Points_a1 a0 a1 s)
def M.spec_l27DrawRule_a1 (a0 : Src) (s_l1 : Int × Int × (List Int) × Int × Int) : Option (((List Int)) × (Int × Int)) :=
  bnd (M.spec_l01Next (Src.mk a0.code s_l1.1 s_l1.2.1) 30) fun x53 => ifB (x53.1 == 0) (chk (s_l1.2.2.1.length + ([s_l1.2.2.2.1] : List Int).length < 1099511627776) (some (s_l1.2.2.1 ++ ([s_l1.2.2.2.1] : List Int), (x53.2.1, x53.2.2)))) (ifB (x53.1 == 1) (bnd (M.spec_l01Next (Src.mk a0.code x53.2.1 x53.2.2) 2) fun x67 => some (([w64 (13 * x67.1)] : List Int), (x67.2.1, x67.2.2))) (ifB (x53.1 == 2) (some (([1, 2, 3, 4] : List Int), (x53.2.1, x53.2.2))) (some (s_l1.2.2.1, (x53.2.1, x53.2.2)))))
def M.spec_l27DrawRule_l1 (a0 : Src) (s_l1 : Int × Int × (List Int) × Int × Int) : Option (Stp (((List Int)) × (Int × Int)) (Int × Int × (List Int) × Int × Int)) :=
  ifB (decide (0 < s_l1.2.2.2.2)) (bnd (M.spec_l01Next (Src.mk a0.code s_l1.1 s_l1.2.1) 4) fun x86 => chk (s_l1.2.2.1.length + ([w64 ((w64 (s_l1.2.2.2.1 + 1)) + x86.1)] : List Int).length < 1099511627776) (some (.cont (x86.2.1, x86.2.2, s_l1.2.2.1 ++ ([w64 ((w64 (s_l1.2.2.2.1 + 1)) + x86.1)] : List Int), w64 ((w64 (s_l1.2.2.2.1 + 1)) + x86.1), w64 (s_l1.2.2.2.2 - 1))))) (some (.brk (s_l1.1, s_l1.2.1, s_l1.2.2.1, s_l1.2.2.2.1, s_l1.2.2.2.2)))
def M.spec_l27DrawRule (a0 : Src) : Option (((List Int)) × (Int × Int)) :=
  bnd (M.spec_l01Next (Src.mk a0.code a0.at_ a0.seed) 4) fun x8 => bnd (loopF (M.spec_l27DrawRule_l1 a0) (x8.2.1, x8.2.2, ([] : List Int), 0, x8.1)) fun o => outc o (fun x => some x) (fun s => M.spec_l27DrawRule_a1 a0 s)
def M.spec_l27DrawBoat (a0 : Src) (a1 : Table) : Option ((Int) × (Int × Int)) :=
  bnd (M.spec_l01Next (Src.mk a0.code a0.at_ a0.seed) 24) fun x11 => ifB (x11.1 == 0) (bnd (M.spec_l01Next (Src.mk a0.code x11.2.1 x11.2.2) 2) fun x22 => some (w64 (a1.Boats - (w64 ((w64 (a1.Boats + 1)) * x22.1))), (x22.2.1, x22.2.2))) (bnd (M.spec_l01Next (Src.mk a0.code x11.2.1 x11.2.2) (max 1 a1.Boats)) fun x27 => some (x27.1, (x27.2.1, x27.2.2)))
def M.laws_likeInts_a1 (s_l1 : Int) : Option Bool :=
  some true
def M.laws_likeInts_l1 (a0 : List Int) (a1 : List Int) (s_l1 : Int) : Option (Stp Bool Int) :=
  ifB (decide (s_l1 < (a0.length : Int))) (bnd (idx a0 s_l1) fun x51 => bnd (idx a1 s_l1) fun x57 => ifB (x51 != x57) (some (.ret false)) (some (.cont (w64 (s_l1 + 1))))) (some (.brk s_l1))
def M.laws_likeInts (a0 : List Int) (a1 : List Int) : Option Bool :=
  ifB ((a0.length : Int) != (a1.length : Int)) (some false) (bnd (loopF (M.laws_likeInts_l1 a0 a1) 0) fun o => outc o (fun x => some x) (fun s => M.laws_likeInts_a1 s))
def M.spec_DrawDiscardCount (a0 : List UInt8) : Option ((List Int) × Int) :=
  bnd (M.spec_l01From a0) fun x3 => bnd (M.spec_l27DrawRule (Src.mk a0 x3.1 x3.2)) fun x9 => bnd (M.spec_l01Next (Src.mk a0 x9.2.1 x9.2.2) 15) fun x16 => some (x9.1, w64 (x16.1 - 1))
def M.laws_likeRows_a1 (s_l1 : Int) : Option Bool :=
  some true
def M.laws_likeRows_l1 (a0 : List (List Int)) (a1 : List (List Int)) (s_l1 : Int) : Option (Stp Bool Int) :=
  ifB (decide (s_l1 < (a0.length : Int))) (bnd (idx a0 s_l1) fun x101 => bnd (idx a1 s_l1) fun x117 => bnd (M.laws_likeInts x101 x117) fun x127 => ifB (!x127) (some (.ret false)) (some (.cont (w64 (s_l1 + 1))))) (some (.brk s_l1))
def M.laws_likeRows (a0 : List (List Int)) (a1 : List (List Int)) : Option Bool :=
  ifB ((a0.length : Int) != (a1.length : Int)) (some false) (bnd (loopF (M.laws_likeRows_l1 a0 a1) 0) fun o => outc o (fun x => some x) (fun s => M.laws_likeRows_a1 s))
def M.impl_isElapsed (a0 : Int) : Option Bool :=
  bnd (M.impl_within a0 1 1000000000) fun x1 => some x1
def M.laws_szCurvePointS (a0 : List CurvePoint) (a1 : Int) : Option Int :=
  ifB (decide ((w64 (a1 - (a0.length : Int))) < 0)) (some (-1)) (some (w64 (a1 - (a0.length : Int))))
def M.laws_toCurvePoint (a0 : CurvePoint) : Option CurvePoint :=
  some (CurvePoint.mk a0.Wind a0.Pace)
def M.laws_toCurvePointS_a1 (s_l1 : (List CurvePoint) × Int) : Option (List CurvePoint) :=
  some s_l1.1
def M.laws_toCurvePointS_l1 (a0 : List CurvePoint) (s_l1 : (List CurvePoint) × Int) : Option (Stp (List CurvePoint) ((List CurvePoint) × Int)) :=
  ifB (decide (s_l1.2 < (a0.length : Int))) (bnd (idx a0 s_l1.2) fun x62 => bnd (M.laws_toCurvePoint x62) fun x68 => bnd (idx s_l1.1 s_l1.2) fun x73 => some (.cont (s_l1.1.set (s_l1.2 : Int).toNat x68, w64 (s_l1.2 + 1)))) (some (.brk (s_l1.1, s_l1.2)))
def M.laws_toCurvePointS (a0 : List CurvePoint) : Option (List CurvePoint) :=
  chk (0 ≤ (a0.length : Int) ∧ (a0.length : Int) < 1099511627776) (bnd (loopF (M.laws_toCurvePointS_l1 a0) (List.replicate ((a0.length : Int)).toNat ((CurvePoint.mk 0 0) : CurvePoint), 0)) fun o => outc o (fun x => some x) (fun s => M.laws_toCurvePointS_a1 s))
def M.spec_IsCurve_a1 (s_l1 : Int) : Option Bool :=
  some true
def M.spec_IsCurve_j3 (s_l1 : Int) (s_j3 : Bool) : Option (Stp Bool Int) :=
  ifB s_j3 (some (.ret false)) (some (.cont (w64 (s_l1 + 1))))
def M.spec_IsCurve_j2 (a0 : List CurvePoint) (s_l1 : Int) (s_j2 : Bool) : Option (Stp Bool Int) :=
  ifB s_j2 (some (.ret false)) (ifB (decide (0 < s_l1)) (bnd (idx a0 s_l1) fun x321 => bnd (idx a0 (w64 (s_l1 - 1))) fun x327 => ifB (decide (x321.Wind ≤ x327.Wind)) (M.spec_IsCurve_j3 s_l1 true) (bnd (idx a0 s_l1) fun x335 => bnd (idx a0 (w64 (s_l1 - 1))) fun x341 => M.spec_IsCurve_j3 s_l1 (decide (x341.Pace ≤ x335.Pace)))) (M.spec_IsCurve_j3 s_l1 false))
def M.spec_IsCurve_l1 (a0 : List CurvePoint) (s_l1 : Int) : Option (Stp Bool Int) :=
  ifB (decide (s_l1 < (a0.length : Int))) (bnd (idx a0 s_l1) fun x349 => bnd (M.spec_l01In x349.Wind 0 1000) fun x355 => ifB (!x355) (M.spec_IsCurve_j2 a0 s_l1 true) (bnd (idx a0 s_l1) fun x361 => bnd (M.spec_l01In x361.Pace 1 1000000) fun x367 => M.spec_IsCurve_j2 a0 s_l1 (!x367))) (some (.brk s_l1))
def M.spec_IsCurve_j1 (a0 : List CurvePoint) (s_j1 : Bool) : Option Bool :=
  ifB s_j1 (some false) (bnd (loopF (M.spec_IsCurve_l1 a0) 0) fun o => outc o (fun x => some x) (fun s => M.spec_IsCurve_a1 s))
def M.spec_IsCurve (a0 : List CurvePoint) : Option Bool :=
  ifB (decide ((a0.length : Int) < 2)) (M.spec_IsCurve_j1 a0 true) (M.spec_IsCurve_j1 a0 (decide (12 < (a0.length : Int))))
def M.spec_l23Distance (a0 : Int) : Option Bool :=
  bnd (M.spec_l01In a0 1 10000000) fun x1 => some x1
def M.spec_l01Floor_j1 (s_j1 : Int) : Option Int :=
  some s_j1
def M.spec_l01Floor (a0 : Int) (a1 : Int) : Option Int :=
  chk (a1 ≠ 0) (chk (a1 ≠ 0) (ifB (decide ((a0.tmod a1) < 0)) (M.spec_l01Floor_j1 (w64 ((w64 (a0.tdiv a1)) - 1))) (M.spec_l01Floor_j1 (w64 (a0.tdiv a1)))))
def M.spec_l24Pace_a1 (a0 : List CurvePoint) (s_l1 : Int) : Option Int :=
  bnd (idx a0 (w64 ((a0.length : Int) - 1))) fun x131 => some x131.Pace
def M.spec_l24Pace_l1 (a0 : List CurvePoint) (a1 : Int) (s_l1 : Int) : Option (Stp Int Int) :=
  ifB (decide (s_l1 < (a0.length : Int))) (bnd (idx a0 (w64 (s_l1 - 1))) fun x161 => bnd (idx a0 s_l1) fun x167 => ifB (decide (a1 ≤ x167.Wind)) (bnd (M.spec_l01Floor (w64 ((w64 (x167.Pace - x161.Pace)) * (w64 (a1 - x161.Wind)))) (w64 (x167.Wind - x161.Wind))) fun x182 => some (.ret (w64 (x161.Pace + x182)))) (some (.cont (w64 (s_l1 + 1))))) (some (.brk s_l1))
def M.spec_l24Pace (a0 : List CurvePoint) (a1 : Int) : Option Int :=
  bnd (idx a0 0) fun x3 => ifB (decide (a1 ≤ x3.Wind)) (bnd (idx a0 0) fun x10 => some x10.Pace) (bnd (loopF (M.spec_l24Pace_l1 a0 a1) 1) fun o => outc o (fun x => some x) (fun s => M.spec_l24Pace_a1 a0 s))
def M.spec_l24Time (a0 : List CurvePoint) (a1 : Int) (a2 : Int) : Option Int :=
  bnd (M.spec_l24Pace a0 a1) fun x3 => some (w64 ((w64 ((w64 ((w64 (x3 * a2)) + 10000)) - 1)).tdiv 10000))
def M.spec_l24Wind_a1 (s_l1 : Int) : Option Int :=
  some (-1)
def M.spec_l24Wind_l1 (a0 : List CurvePoint) (a1 : Int) (a2 : Int) (s_l1 : Int) : Option (Stp Int Int) :=
  ifB (decide (s_l1 ≤ 1000)) (bnd (M.spec_l24Time a0 s_l1 a2) fun x34 => ifB (decide (x34 ≤ a1)) (some (.ret s_l1)) (some (.cont (w64 (s_l1 + 1))))) (some (.brk s_l1))
def M.spec_l24Wind (a0 : List CurvePoint) (a1 : Int) (a2 : Int) : Option Int :=
  bnd (loopF (M.spec_l24Wind_l1 a0 a1 a2) 0) fun o => outc o (fun x => some x) (fun s => M.spec_l24Wind_a1 s)
def M.impl_IsCurve_j1 (s_j1 : Bool) : Option Bool :=
  some s_j1
def M.impl_IsCurve_a1 (a0 : List CurvePoint) (s_l1 : Int) : Option Bool :=
  ifB (decide (2 ≤ (a0.length : Int))) (M.impl_IsCurve_j1 (decide ((a0.length : Int) ≤ 12))) (M.impl_IsCurve_j1 false)
def M.impl_IsCurve_j2 (s_l1 : Int) (s_j2 : Bool) : Option (Stp Bool Int) :=
  ifB s_j2 (some (.ret false)) (some (.cont (w64 (s_l1 + 1))))
def M.impl_IsCurve_l1 (a0 : List CurvePoint) (s_l1 : Int) : Option (Stp Bool Int) :=
  ifB (decide (s_l1 < (a0.length : Int))) (bnd (idx a0 s_l1) fun x161 => bnd (M.impl_within x161.Wind 0 1000) fun x203 => ifB (!x203) (M.impl_IsCurve_j2 s_l1 true) (bnd (M.impl_within x161.Pace 1 1000000) fun x207 => ifB (!x207) (M.impl_IsCurve_j2 s_l1 true) (ifB (decide (0 < s_l1)) (bnd (idx a0 (w64 (s_l1 - 1))) fun x212 => ifB (decide (x161.Wind ≤ x212.Wind)) (M.impl_IsCurve_j2 s_l1 true) (bnd (idx a0 (w64 (s_l1 - 1))) fun x220 => M.impl_IsCurve_j2 s_l1 (decide (x220.Pace ≤ x161.Pace)))) (M.impl_IsCurve_j2 s_l1 false)))) (some (.brk s_l1))
def M.impl_IsCurve (a0 : List CurvePoint) : Option Bool :=
  bnd (loopF (M.impl_IsCurve_l1 a0) 0) fun o => outc o (fun x => some x) (fun s => M.impl_IsCurve_a1 a0 s)
def M.impl_isDistance (a0 : Int) : Option Bool :=
  bnd (M.impl_within a0 1 10000000) fun x1 => some x1
def M.impl_floorDiv_j1 (s_j1 : Int) : Option Int :=
  some s_j1
def M.impl_floorDiv (a0 : Int) (a1 : Int) : Option Int :=
  chk (a1 ≠ 0) (chk (a1 ≠ 0) (ifB (decide ((a0.tmod a1) < 0)) (M.impl_floorDiv_j1 (w64 ((w64 (a0.tdiv a1)) - 1))) (M.impl_floorDiv_j1 (w64 (a0.tdiv a1)))))
def M.impl_paceAt_a1 (a0 : List CurvePoint) (s_l1 : Int) : Option Int :=
  bnd (idx a0 (w64 ((a0.length : Int) - 1))) fun x62 => some x62.Pace
def M.impl_paceAt_l1 (a0 : List CurvePoint) (a1 : Int) (s_l1 : Int) : Option (Stp Int Int) :=
  ifB (decide (s_l1 < (a0.length : Int))) (bnd (idx a0 s_l1) fun x76 => ifB (decide (x76.Wind < a1)) (some (.cont (w64 (s_l1 + 1)))) (ifB (s_l1 == 0) (some (.ret x76.Pace)) (bnd (idx a0 (w64 (s_l1 - 1))) fun x87 => bnd (M.impl_floorDiv (w64 ((w64 (x76.Pace - x87.Pace)) * (w64 (a1 - x87.Wind)))) (w64 (x76.Wind - x87.Wind))) fun x96 => some (.ret (w64 (x87.Pace + x96)))))) (some (.brk s_l1))
def M.impl_paceAt (a0 : List CurvePoint) (a1 : Int) : Option Int :=
  bnd (loopF (M.impl_paceAt_l1 a0 a1) 0) fun o => outc o (fun x => some x) (fun s => M.impl_paceAt_a1 a0 s)
def M.impl_ceilDiv (a0 : Int) (a1 : Int) : Option Int :=
  bnd (M.impl_floorDiv (w64 (0 - a0)) a1) fun x1 => some (w64 (0 - x1))
def M.impl_curveTime (a0 : List CurvePoint) (a1 : Int) (a2 : Int) : Option Int :=
  bnd (M.impl_paceAt a0 a1) fun x3 => bnd (M.impl_ceilDiv (w64 (x3 * a2)) 10000) fun x8 => some x8
def M.impl_impliedWind_a1 (s_l1 : Int) : Option Int :=
  some (-1)
def M.impl_impliedWind_l1 (a0 : List CurvePoint) (a1 : Int) (a2 : Int) (s_l1 : Int) : Option (Stp Int Int) :=
  ifB (decide (s_l1 < 1001)) (bnd (M.impl_curveTime a0 s_l1 a2) fun x34 => ifB (decide (x34 ≤ a1)) (some (.ret s_l1)) (some (.cont (w64 (s_l1 + 1))))) (some (.brk s_l1))
def M.impl_impliedWind (a0 : List CurvePoint) (a1 : Int) (a2 : Int) : Option Int :=
  bnd (loopF (M.impl_impliedWind_l1 a0 a1 a2) 0) fun o => outc o (fun x => some x) (fun s => M.impl_impliedWind_a1 s)
def M.laws_eqCurvePoint (a0 : CurvePoint) (a1 : CurvePoint) : Option Bool :=
  ifB (a0.Wind != a1.Wind) (some false) (ifB (a0.Pace != a1.Pace) (some false) (some true))
def M.laws_eqCurvePointS_a1 (s_l1 : Int) : Option Bool :=
  some true
def M.laws_eqCurvePointS_l1 (a0 : List CurvePoint) (a1 : List CurvePoint) (s_l1 : Int) : Option (Stp Bool Int) :=
  ifB (decide (s_l1 < (a0.length : Int))) (bnd (idx a0 s_l1) fun x55 => bnd (idx a1 s_l1) fun x61 => bnd (M.laws_eqCurvePoint x55 x61) fun x67 => ifB (!x67) (some (.ret false)) (some (.cont (w64 (s_l1 + 1))))) (some (.brk s_l1))
def M.laws_eqCurvePointS (a0 : List CurvePoint) (a1 : List CurvePoint) : Option Bool :=
  ifB ((a0.length : Int) != (a1.length : Int)) (some false) (bnd (loopF (M.laws_eqCurvePointS_l1 a0 a1) 0) fun o => outc o (fun x => some x) (fun s => M.laws_eqCurvePointS_a1 s))
def M.spec_l24Corrected (a0 : List CurvePoint) (a1 : List CurvePoint) (a2 : Int) (a3 : Int) : Option Int :=
  bnd (M.spec_l24Wind a0 a2 a3) fun x5 => ifB (decide (x5 < 0)) (some a2) (bnd (M.spec_l24Time a1 x5 a3) fun x11 => some x11)
def M.impl_curveCorrected (a0 : List CurvePoint) (a1 : List CurvePoint) (a2 : Int) (a3 : Int) : Option Int :=
  bnd (M.impl_impliedWind a0 a2 a3) fun x5 => ifB (decide (x5 < 0)) (some a2) (bnd (M.impl_curveTime a1 x5 a3) fun x11 => some x11)
def M.impl_CurveCorrected_j2 (a0 : List CurvePoint) (a1 : List CurvePoint) (a2 : Int) (a3 : Int) (s_j2 : Bool) : Option (Int × Int) :=
  ifB s_j2 (some (0, 2)) (bnd (M.impl_curveCorrected a0 a1 a2 a3) fun x43 => some (x43, 0))
def M.impl_CurveCorrected_j1 (a0 : List CurvePoint) (a1 : List CurvePoint) (a2 : Int) (a3 : Int) (s_j1 : Bool) : Option (Int × Int) :=
  ifB s_j1 (some (0, 1)) (bnd (M.impl_isElapsed a2) fun x48 => ifB (!x48) (M.impl_CurveCorrected_j2 a0 a1 a2 a3 true) (bnd (M.impl_isDistance a3) fun x54 => M.impl_CurveCorrected_j2 a0 a1 a2 a3 (!x54)))
def M.impl_CurveCorrected (a0 : List CurvePoint) (a1 : List CurvePoint) (a2 : Int) (a3 : Int) : Option (Int × Int) :=
  bnd (M.impl_IsCurve a0) fun x59 => ifB (!x59) (M.impl_CurveCorrected_j1 a0 a1 a2 a3 true) (bnd (M.impl_IsCurve a1) fun x65 => M.impl_CurveCorrected_j1 a0 a1 a2 a3 (!x65))
def M.spec_l24Draw_j1 (s_j1 : Int × Int × (List CurvePoint)) : Option (((List CurvePoint)) × (Int × Int)) :=
  some (s_j1.2.2, (s_j1.1, s_j1.2.1))
def M.spec_l24Draw_j2 (s_j2 : Int × Int × (List CurvePoint)) : Option (((List CurvePoint)) × (Int × Int)) :=
  M.spec_l24Draw_j1 (s_j2.1, s_j2.2.1, s_j2.2.2)
def M.spec_l24Draw_a1 (a0 : Src) (s_l1 : Int × Int × (List CurvePoint) × Int × Int × Int) : Option (((List CurvePoint)) × (Int × Int)) :=
  bnd (M.spec_l01Next (Src.mk a0.code s_l1.1 s_l1.2.1) (s_l1.2.2.1.length : Int)) fun x74 => bnd (M.spec_l01Next (Src.mk a0.code x74.2.1 x74.2.2) 30) fun x188 => ifB (x188.1 == 0) (bnd (M.spec_l01Next (Src.mk a0.code x188.2.1 x188.2.2) 4) fun x249 => bnd (idx ([(-1), 0, 1000, 1001] : List Int) x249.1) fun x254 => bnd (idx s_l1.2.2.1 x74.1) fun x260 => M.spec_l24Draw_j2 (x249.2.1, x249.2.2, s_l1.2.2.1.set (x74.1 : Int).toNat (CurvePoint.mk x254 x260.Pace))) (ifB (x188.1 == 1) (bnd (M.spec_l01Next (Src.mk a0.code x188.2.1 x188.2.2) 4) fun x271 => bnd (idx ([0, 1, 1000000, 1000001] : List Int) x271.1) fun x276 => bnd (idx s_l1.2.2.1 x74.1) fun x282 => M.spec_l24Draw_j2 (x271.2.1, x271.2.2, s_l1.2.2.1.set (x74.1 : Int).toNat (CurvePoint.mk x282.Wind x276))) (ifB (x188.1 == 2) (chk (0 ≤ (0 : Int) ∧ (0 : Int) ≤ 1 ∧ 1 ≤ (s_l1.2.2.1.length : Int)) (some (subL s_l1.2.2.1 0 1, (x188.2.1, x188.2.2)))) (M.spec_l24Draw_j2 (x188.2.1, x188.2.2, s_l1.2.2.1))))
def M.spec_l24Draw_l1 (a0 : Src) (s_l1 : Int × Int × (List CurvePoint) × Int × Int × Int) : Option (Stp (((List CurvePoint)) × (Int × Int)) (Int × Int × (List CurvePoint) × Int × Int × Int)) :=
  ifB (decide (0 < s_l1.2.2.2.2.2)) (chk (s_l1.2.2.1.length + ([(CurvePoint.mk s_l1.2.2.2.1 s_l1.2.2.2.2.1)] : List CurvePoint).length < 1099511627776) (bnd (M.spec_l01Next (Src.mk a0.code s_l1.1 s_l1.2.1) 60) fun x308 => bnd (M.spec_l01Next (Src.mk a0.code x308.2.1 x308.2.2) 500) fun x313 => some (.cont (x313.2.1, x313.2.2, s_l1.2.2.1 ++ ([(CurvePoint.mk s_l1.2.2.2.1 s_l1.2.2.2.2.1)] : List CurvePoint), w64 ((w64 (s_l1.2.2.2.1 + 1)) + x308.1), max 1 (w64 ((w64 (s_l1.2.2.2.2.1 - 1)) - x313.1)), w64 (s_l1.2.2.2.2.2 - 1))))) (some (.brk (s_l1.1, s_l1.2.1, s_l1.2.2.1, s_l1.2.2.2.1, s_l1.2.2.2.2.1, s_l1.2.2.2.2.2)))
def M.spec_l24Draw (a0 : Src) : Option (((List CurvePoint)) × (Int × Int)) :=
  bnd (M.spec_l01Next (Src.mk a0.code a0.at_ a0.seed) 60) fun x8 => bnd (M.spec_l01Next (Src.mk a0.code x8.2.1 x8.2.2) 4000) fun x13 => bnd (M.spec_l01Next (Src.mk a0.code x13.2.1 x13.2.2) 5) fun x18 => bnd (loopF (M.spec_l24Draw_l1 a0) (x18.2.1, x18.2.2, ([] : List CurvePoint), x8.1, w64 (3000 + x13.1), w64 (2 + x18.1))) fun o => outc o (fun x => some x) (fun s => M.spec_l24Draw_a1 a0 s)
def M.spec_l23DrawDistance (a0 : Src) : Option ((Int) × (Int × Int)) :=
  bnd (M.spec_l01Next (Src.mk a0.code a0.at_ a0.seed) 24) fun x5 => ifB (x5.1 == 0) (bnd (M.spec_l01Next (Src.mk a0.code x5.2.1 x5.2.2) 4) fun x14 => bnd (idx ([0, 1, 10000000, 10000001] : List Int) x14.1) fun x19 => some (x19, (x14.2.1, x14.2.2))) (bnd (M.spec_l01Next (Src.mk a0.code x5.2.1 x5.2.2) 60000) fun x25 => some (w64 (1 + x25.1), (x25.2.1, x25.2.2)))
def M.laws_markCurvePointS_a1 (s_l1 : (List CurvePoint) × Int × Int) : Option ((Int) × (List CurvePoint)) :=
  some (s_l1.2.1, s_l1.1)
def M.laws_markCurvePointS_l1 (s_l1 : (List CurvePoint) × Int × Int) : Option (Stp ((Int) × (List CurvePoint)) ((List CurvePoint) × Int × Int)) :=
  ifB (decide (s_l1.2.2 < (s_l1.1.length : Int))) (bnd (idx s_l1.1 s_l1.2.2) fun x52 => bnd (idx (s_l1.1.set (s_l1.2.2 : Int).toNat (CurvePoint.mk s_l1.2.1 x52.Pace)) s_l1.2.2) fun x59 => some (.cont ((s_l1.1.set (s_l1.2.2 : Int).toNat (CurvePoint.mk s_l1.2.1 x52.Pace)).set (s_l1.2.2 : Int).toNat (CurvePoint.mk x59.Wind (w64 (s_l1.2.1 + 1))), w64 ((w64 (s_l1.2.1 + 1)) + 1), w64 (s_l1.2.2 + 1)))) (some (.brk (s_l1.1, s_l1.2.1, s_l1.2.2)))
def M.laws_markCurvePointS (a0 : List CurvePoint) (a1 : Int) : Option ((Int) × (List CurvePoint)) :=
  bnd (loopF (M.laws_markCurvePointS_l1) (a0, a1, 0)) fun o => outc o (fun x => some x) (fun s => M.laws_markCurvePointS_a1 s)
def M.spec_DrawCorrectByCurves_a1 (a0 : List UInt8) (x9 : (Int × (List Finish)) × (Int × Int)) (s_l1 : Int × Int × (List (List CurvePoint)) × Int) : Option (Int × (List Finish) × (List (List CurvePoint)) × Int × Int) :=
  bnd (M.spec_l01Next (Src.mk a0 s_l1.1 s_l1.2.1) (max 1 x9.1.1)) fun x234 => bnd (M.spec_l01Next (Src.mk a0 x234.2.1 x234.2.2) 24) fun x239 => bnd (M.spec_l23DrawDistance (Src.mk a0 x239.2.1 x239.2.2)) fun x244 => some (x9.1.1, x9.1.2, s_l1.2.2.1, w64 (x234.1 - (w64 (x239.1.tdiv 23))), w64 (100000 + x244.1))
def M.spec_DrawCorrectByCurves_j1 (s_l1 : Int × Int × (List (List CurvePoint)) × Int) (s_j1 : Int × Int × (List CurvePoint)) : Option (Stp (Int × (List Finish) × (List (List CurvePoint)) × Int × Int) (Int × Int × (List (List CurvePoint)) × Int)) :=
  chk (s_l1.2.2.1.length + ([s_j1.2.2] : List (List CurvePoint)).length < 1099511627776) (some (.cont (s_j1.1, s_j1.2.1, s_l1.2.2.1 ++ ([s_j1.2.2] : List (List CurvePoint)), w64 (s_l1.2.2.2 + 1))))
def M.spec_DrawCorrectByCurves_j2 (s_l1 : Int × Int × (List (List CurvePoint)) × Int) (x262 : ((List CurvePoint)) × (Int × Int)) (s_j2 : Int × Int × Bool) : Option (Stp (Int × (List Finish) × (List (List CurvePoint)) × Int × Int) (Int × Int × (List (List CurvePoint)) × Int)) :=
  ifB s_j2.2.2 (M.spec_DrawCorrectByCurves_j1 s_l1 (s_j2.1, s_j2.2.1, ([(CurvePoint.mk 10 5000), (CurvePoint.mk 200 3000)] : List CurvePoint))) (M.spec_DrawCorrectByCurves_j1 s_l1 (s_j2.1, s_j2.2.1, x262.1))
def M.spec_DrawCorrectByCurves_l1 (a0 : List UInt8) (x9 : (Int × (List Finish)) × (Int × Int)) (s_l1 : Int × Int × (List (List CurvePoint)) × Int) : Option (Stp (Int × (List Finish) × (List (List CurvePoint)) × Int × Int) (Int × Int × (List (List CurvePoint)) × Int)) :=
  bnd (M.spec_l01Next (Src.mk a0 s_l1.1 s_l1.2.1) 24) fun x256 => ifB (decide (s_l1.2.2.2 < (w64 (x9.1.1 - (w64 (x256.1.tdiv 23)))))) (bnd (M.spec_l24Draw (Src.mk a0 x256.2.1 x256.2.2)) fun x262 => bnd (M.spec_IsCurve x262.1) fun x345 => ifB (!x345) (bnd (M.spec_l01Next (Src.mk a0 x262.2.1 x262.2.2) 4) fun x351 => M.spec_DrawCorrectByCurves_j2 s_l1 x262 (x351.2.1, x351.2.2, decide (0 < x351.1))) (M.spec_DrawCorrectByCurves_j2 s_l1 x262 (x262.2.1, x262.2.2, false))) (some (.brk (x256.2.1, x256.2.2, s_l1.2.2.1, s_l1.2.2.2)))
def M.spec_DrawCorrectByCurves (a0 : List UInt8) : Option (Int × (List Finish) × (List (List CurvePoint)) × Int × Int) :=
  bnd (M.spec_l01From a0) fun x3 => bnd (M.spec_l22DrawRace (Src.mk a0 x3.1 x3.2)) fun x9 => bnd (loopF (M.spec_DrawCorrectByCurves_l1 a0 x9) (x9.2.1, x9.2.2, ([] : List (List CurvePoint)), 0)) fun o => outc o (fun x => some x) (fun s => M.spec_DrawCorrectByCurves_a1 a0 x9 s)
def M.impl_CorrectByCurves_1 (a0 : List CurvePoint) : Option Bool :=
  bnd (M.impl_IsCurve a0) fun x3 => some (!x3)
def M.spec_CorrectByCurves_a2 (s_l2 : (List Finish) × Int) : Option ((List Finish) × Int) :=
  some (s_l2.1, 0)
def M.spec_CorrectByCurves_j3 (s_l2 : (List Finish) × Int) (x329 : Finish) (s_j3 : Int) : Option (Stp ((List Finish) × Int) ((List Finish) × Int)) :=
  chk (s_l2.1.length + ([(Finish.mk x329.Boat x329.Code s_j3)] : List Finish).length < 1099511627776) (some (.cont (s_l2.1 ++ ([(Finish.mk x329.Boat x329.Code s_j3)] : List Finish), w64 (s_l2.2 + 1))))
def M.spec_CorrectByCurves_l2 (a1 : List Finish) (a2 : List (List CurvePoint)) (a3 : Int) (a4 : Int) (s_l2 : (List Finish) × Int) : Option (Stp ((List Finish) × Int) ((List Finish) × Int)) :=
  ifB (decide (s_l2.2 < (a1.length : Int))) (bnd (idx a1 s_l2.2) fun x329 => ifB (x329.Code == 0) (bnd (idx a2 s_l2.2) fun x399 => bnd (idx a2 a3) fun x415 => bnd (M.spec_l24Corrected x399 x415 x329.Time a4) fun x425 => ifB (decide (1000000000 < x425)) (some (.ret ([], 3))) (M.spec_CorrectByCurves_j3 s_l2 x329 x425)) (M.spec_CorrectByCurves_j3 s_l2 x329 x329.Time)) (some (.brk (s_l2.1, s_l2.2)))
def M.spec_CorrectByCurves_j2 (a1 : List Finish) (a2 : List (List CurvePoint)) (a3 : Int) (a4 : Int) (s_j2 : Bool) : Option ((List Finish) × Int) :=
  ifB s_j2 (some ([], 2)) (bnd (loopF (M.spec_CorrectByCurves_l2 a1 a2 a3 a4) (([] : List Finish), 0)) fun o => outc o (fun x => some x) (fun s => M.spec_CorrectByCurves_a2 s))
def M.spec_CorrectByCurves_a1 (a0 : Int) (a1 : List Finish) (a2 : List (List CurvePoint)) (a3 : Int) (a4 : Int) (s_l1 : Int) : Option ((List Finish) × Int) :=
  bnd (M.spec_l01In a3 0 (w64 (a0 - 1))) fun x430 => ifB (!x430) (M.spec_CorrectByCurves_j2 a1 a2 a3 a4 true) (bnd (M.spec_l23Distance a4) fun x436 => M.spec_CorrectByCurves_j2 a1 a2 a3 a4 (!x436))
def M.spec_CorrectByCurves_l1 (a2 : List (List CurvePoint)) (s_l1 : Int) : Option (Stp ((List Finish) × Int) Int) :=
  ifB (decide (s_l1 < (a2.length : Int))) (bnd (idx a2 s_l1) fun x456 => bnd (M.spec_IsCurve x456) fun x466 => ifB (!x466) (some (.ret ([], 1))) (some (.cont (w64 (s_l1 + 1))))) (some (.brk s_l1))
def M.spec_CorrectByCurves_j1 (a0 : Int) (a1 : List Finish) (a2 : List (List CurvePoint)) (a3 : Int) (a4 : Int) (s_j1 : Bool) : Option ((List Finish) × Int) :=
  ifB s_j1 (some ([], 1)) (bnd (loopF (M.spec_CorrectByCurves_l1 a2) 0) fun o => outc o (fun x => some x) (fun s => M.spec_CorrectByCurves_a1 a0 a1 a2 a3 a4 s))
def M.spec_CorrectByCurves (a0 : Int) (a1 : List Finish) (a2 : List (List CurvePoint)) (a3 : Int) (a4 : Int) : Option ((List Finish) × Int) :=
  bnd (M.spec_l22Race a0 a1) fun x472 => ifB (!x472) (M.spec_CorrectByCurves_j1 a0 a1 a2 a3 a4 true) (M.spec_CorrectByCurves_j1 a0 a1 a2 a3 a4 ((a2.length : Int) != a0))
def M.laws_szCurvePointSS_a1 (s_l1 : Int × Int) : Option Int :=
  some s_l1.1
def M.laws_szCurvePointSS_l1 (a0 : List (List CurvePoint)) (s_l1 : Int × Int) : Option (Stp Int (Int × Int)) :=
  ifB (decide (s_l1.2 < (a0.length : Int))) (bnd (idx a0 s_l1.2) fun x71 => bnd (M.laws_szCurvePointS x71 s_l1.1) fun x81 => ifB (decide (x81 < 0)) (some (.ret (-1))) (some (.cont (x81, w64 (s_l1.2 + 1))))) (some (.brk (s_l1.1, s_l1.2)))
def M.laws_szCurvePointSS (a0 : List (List CurvePoint)) (a1 : Int) : Option Int :=
  ifB (decide ((w64 (a1 - (a0.length : Int))) < 0)) (some (-1)) (bnd (loopF (M.laws_szCurvePointSS_l1 a0) (w64 (a1 - (a0.length : Int)), 0)) fun o => outc o (fun x => some x) (fun s => M.laws_szCurvePointSS_a1 s))
def M.laws_toCurvePointSS_a1 (s_l1 : (List (List CurvePoint)) × Int) : Option (List (List CurvePoint)) :=
  some s_l1.1
def M.laws_toCurvePointSS_l1 (a0 : List (List CurvePoint)) (s_l1 : (List (List CurvePoint)) × Int) : Option (Stp (List (List CurvePoint)) ((List (List CurvePoint)) × Int)) :=
  ifB (decide (s_l1.2 < (a0.length : Int))) (bnd (idx a0 s_l1.2) fun x118 => bnd (M.laws_toCurvePointS x118) fun x128 => bnd (idx s_l1.1 s_l1.2) fun x143 => some (.cont (s_l1.1.set (s_l1.2 : Int).toNat x128, w64 (s_l1.2 + 1)))) (some (.brk (s_l1.1, s_l1.2)))
def M.laws_toCurvePointSS (a0 : List (List CurvePoint)) : Option (List (List CurvePoint)) :=
  chk (0 ≤ (a0.length : Int) ∧ (a0.length : Int) < 1099511627776) (bnd (loopF (M.laws_toCurvePointSS_l1 a0) (List.replicate ((a0.length : Int)).toNat (([] : List CurvePoint) : List CurvePoint), 0)) fun o => outc o (fun x => some x) (fun s => M.laws_toCurvePointSS_a1 s))
def M.laws_eqCurvePointSS_a1 (s_l1 : Int) : Option Bool :=
  some true
def M.laws_eqCurvePointSS_l1 (a0 : List (List CurvePoint)) (a1 : List (List CurvePoint)) (s_l1 : Int) : Option (Stp Bool Int) :=
  ifB (decide (s_l1 < (a0.length : Int))) (bnd (idx a0 s_l1) fun x101 => bnd (idx a1 s_l1) fun x117 => bnd (M.laws_eqCurvePointS x101 x117) fun x127 => ifB (!x127) (some (.ret false)) (some (.cont (w64 (s_l1 + 1))))) (some (.brk s_l1))
def M.laws_eqCurvePointSS (a0 : List (List CurvePoint)) (a1 : List (List CurvePoint)) : Option Bool :=
  ifB ((a0.length : Int) != (a1.length : Int)) (some false) (bnd (loopF (M.laws_eqCurvePointSS_l1 a0 a1) 0) fun o => outc o (fun x => some x) (fun s => M.laws_eqCurvePointSS_a1 s))
def M.laws_markCurvePointSS_a1 (s_l1 : (List (List CurvePoint)) × Int × Int) : Option ((Int) × (List (List CurvePoint))) :=
  some (s_l1.2.1, s_l1.1)
def M.laws_markCurvePointSS_l1 (s_l1 : (List (List CurvePoint)) × Int × Int) : Option (Stp ((Int) × (List (List CurvePoint))) ((List (List CurvePoint)) × Int × Int)) :=
  ifB (decide (s_l1.2.2 < (s_l1.1.length : Int))) (bnd (idx s_l1.1 s_l1.2.2) fun x92 => bnd (M.laws_markCurvePointS x92 s_l1.2.1) fun x107 => some (.cont (s_l1.1.set (s_l1.2.2 : Int).toNat x107.2, x107.1, w64 (s_l1.2.2 + 1)))) (some (.brk (s_l1.1, s_l1.2.1, s_l1.2.2)))
def M.laws_markCurvePointSS (a0 : List (List CurvePoint)) (a1 : Int) : Option ((Int) × (List (List CurvePoint))) :=
  bnd (loopF (M.laws_markCurvePointSS_l1) (a0, a1, 0)) fun o => outc o (fun x => some x) (fun s => M.laws_markCurvePointSS_a1 s)
end Go.Proofs.Ytpobaajdhfoomaa
