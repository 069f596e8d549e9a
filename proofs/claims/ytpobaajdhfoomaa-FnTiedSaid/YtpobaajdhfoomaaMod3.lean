/- More models of the functions, printed by my generator. -/
import Derived.Test.YtpobaajdhfoomaaMod2
namespace Go.Proofs.Ytpobaajdhfoomaa
open Go Go.RowKit Go.ChangeShapes Go.WideShapes
set_option linter.unusedVariables false
set_option linter.unusedSimpArgs false

def M.impl_parTime_a1 (s_l1 : (List Int) × Int) : Option Int :=
  ifB ((s_l1.1.length : Int) == 0) (some 0) (bnd (M.slices_SortA s_l1.1) fun x472 => bnd (idx x472.2 (w64 ((w64 ((x472.2.length : Int) - 1)).tdiv 2))) fun x478 => some x478)
def M.impl_parTime_j1 (s_l1 : (List Int) × Int) (s_j1 : (List Int)) : Option (Stp Int ((List Int) × Int)) :=
  some (.cont (s_j1, w64 (s_l1.2 + 1)))
def M.impl_parTime_j2 (s_l1 : (List Int) × Int) (s_j2 : (List Int)) : Option (Stp Int ((List Int) × Int)) :=
  M.impl_parTime_j1 s_l1 s_j2
def M.impl_parTime_l1 (a0 : List Finish) (a1 : List Rating) (s_l1 : (List Int) × Int) : Option (Stp Int ((List Int) × Int)) :=
  ifB (decide (s_l1.2 < (a0.length : Int))) (bnd (idx a0 s_l1.2) fun x667 => ifB (x667.Code == 0) (bnd (idx a1 s_l1.2) fun x697 => bnd (M.impl_corrected x667.Time x697.Value) fun x704 => chk (s_l1.1.length + ([x704] : List Int).length < 1099511627776) (M.impl_parTime_j2 s_l1 (s_l1.1 ++ ([x704] : List Int)))) (M.impl_parTime_j2 s_l1 s_l1.1)) (some (.brk (s_l1.1, s_l1.2)))
def M.impl_parTime (a0 : List Finish) (a1 : List Rating) : Option Int :=
  bnd (loopF (M.impl_parTime_l1 a0 a1) (([] : List Int), 0)) fun o => outc o (fun x => some x) (fun s => M.impl_parTime_a1 s)
def M.impl_ParTime (a0 : Int) (a1 : List Finish) (a2 : List Rating) : Option (Int × Int) :=
  bnd (M.impl_ratingsCode a0 a1 a2) fun x5 => ifB (x5 != 0) (some (0, x5)) (bnd (M.impl_parTime a1 a2) fun x11 => ifB (x11 == 0) (some (0, 4)) (some (x11, 0)))
def M.laws_FnExactParTime_j1 (a1 : List Finish) (a2 : List Rating) (x36 : (List Finish)) (x43 : (List Rating)) (s_j1 : Bool) : Option Bool :=
  ifB s_j1 (some false) (bnd (M.laws_toFinishS a1) fun x64 => bnd (M.laws_eqFinishS x36 x64) fun x71 => ifB (!x71) (some false) (bnd (M.laws_toRatingS a2) fun x77 => bnd (M.laws_eqRatingS x43 x77) fun x84 => ifB (!x84) (some false) (some true)))
def M.laws_FnExactParTime (a0 : Int) (a1 : List Finish) (a2 : List Rating) : Option Bool :=
  bnd (M.laws_szFinishS a1 1048576) fun x5 => ifB (decide (x5 < 0)) (some true) (bnd (M.laws_szRatingS a2 x5) fun x11 => ifB (decide (x11 < 0)) (some true) (bnd (M.laws_toFinishS a1) fun x17 => bnd (M.laws_toRatingS a2) fun x24 => bnd (M.spec_ParTime a0 x17 x24) fun x31 => bnd (M.laws_toFinishS a1) fun x36 => bnd (M.laws_toRatingS a2) fun x43 => bnd (M.impl_ParTime a0 x36 x43) fun x50 => ifB (x50.1 != x31.1) (M.laws_FnExactParTime_j1 a1 a2 x36 x43 true) (M.laws_FnExactParTime_j1 a1 a2 x36 x43 (x50.2 != x31.2))))
def M.impl_ParFactors_a1 (s_l1 : (List Int) × Int) : Option ((List Int) × Int) :=
  some (s_l1.1, 0)
def M.impl_ParFactors_j1 (s_l1 : (List Int) × Int) (s_j1 : (List Int)) : Option (Stp ((List Int) × Int) ((List Int) × Int)) :=
  some (.cont (s_j1, w64 (s_l1.2 + 1)))
def M.impl_ParFactors_j2 (s_l1 : (List Int) × Int) (s_j2 : (List Int)) : Option (Stp ((List Int) × Int) ((List Int) × Int)) :=
  M.impl_ParFactors_j1 s_l1 s_j2
def M.impl_ParFactors_l1 (a1 : List Finish) (x5 : Int × Int) (s_l1 : (List Int) × Int) : Option (Stp ((List Int) × Int) ((List Int) × Int)) :=
  ifB (decide (s_l1.2 < (a1.length : Int))) (bnd (idx a1 s_l1.2) fun x374 => ifB (x374.Code == 0) (bnd (M.impl_parFactor x5.1 x374.Time) fun x385 => bnd (idx s_l1.1 s_l1.2) fun x390 => M.impl_ParFactors_j2 s_l1 (s_l1.1.set (s_l1.2 : Int).toNat x385)) (M.impl_ParFactors_j2 s_l1 s_l1.1)) (some (.brk (s_l1.1, s_l1.2)))
def M.impl_ParFactors (a0 : Int) (a1 : List Finish) (a2 : List Rating) : Option ((List Int) × Int) :=
  bnd (M.impl_ParTime a0 a1 a2) fun x5 => ifB (x5.2 != 0) (some ([], x5.2)) (chk (0 ≤ a0 ∧ a0 < 1099511627776) (bnd (loopF (M.impl_ParFactors_l1 a1 x5) (List.replicate (a0).toNat (0 : Int), 0)) fun o => outc o (fun x => some x) (fun s => M.impl_ParFactors_a1 s)))
def M.laws_FnExactParFactors_j3 (x133 : (Int) × (List Int)) (s_j3 : Bool) : Option Bool :=
  ifB s_j3 (some false) (bnd (M.laws_heldInt64S x133.2 1) fun x179 => ifB (decide (x179 < 0)) (some false) (ifB (x179 != x133.1) (some false) (some true)))
def M.laws_FnExactParFactors_j2 (a0 : Int) (a1 : List Finish) (a2 : List Rating) (x31 : (List Int) × Int) (x52 : (List Int) × Int) (s_j2 : Bool) : Option Bool :=
  ifB s_j2 (some false) (bnd (M.laws_markInt64S x52.1 1) fun x133 => bnd (M.laws_heldInt64S x133.2 1) fun x139 => ifB (decide (x139 < 0)) (some false) (ifB (x139 != x133.1) (some false) (bnd (M.laws_toFinishS a1) fun x146 => bnd (M.laws_toRatingS a2) fun x153 => bnd (M.impl_ParFactors a0 x146 x153) fun x160 => bnd (M.laws_eqInt64S x160.1 x31.1) fun x186 => ifB (!x186) (M.laws_FnExactParFactors_j3 x133 true) (M.laws_FnExactParFactors_j3 x133 (x160.2 != x31.2)))))
def M.laws_FnExactParFactors_j1 (a0 : Int) (a1 : List Finish) (a2 : List Rating) (x31 : (List Int) × Int) (x38 : (List Finish)) (x45 : (List Rating)) (x52 : (List Int) × Int) (s_j1 : Bool) : Option Bool :=
  ifB s_j1 (some false) (bnd (M.laws_toFinishS a1) fun x78 => bnd (M.laws_eqFinishS x38 x78) fun x85 => ifB (!x85) (some false) (bnd (M.laws_toRatingS a2) fun x91 => bnd (M.laws_eqRatingS x45 x91) fun x98 => ifB (!x98) (some false) (bnd (M.laws_markFinishS x38 1) fun x104 => bnd (M.laws_markRatingS x45 x104.1) fun x110 => ifB (decide (x110.1 < 0)) (M.laws_FnExactParFactors_j2 a0 a1 a2 x31 x52 true) (bnd (M.laws_eqInt64S x52.1 x31.1) fun x193 => ifB (!x193) (M.laws_FnExactParFactors_j2 a0 a1 a2 x31 x52 true) (M.laws_FnExactParFactors_j2 a0 a1 a2 x31 x52 (x52.2 != x31.2))))))
def M.laws_FnExactParFactors (a0 : Int) (a1 : List Finish) (a2 : List Rating) : Option Bool :=
  bnd (M.laws_szFinishS a1 1048576) fun x5 => ifB (decide (x5 < 0)) (some true) (bnd (M.laws_szRatingS a2 x5) fun x11 => ifB (decide (x11 < 0)) (some true) (bnd (M.laws_toFinishS a1) fun x17 => bnd (M.laws_toRatingS a2) fun x24 => bnd (M.spec_ParFactors a0 x17 x24) fun x31 => bnd (M.laws_toFinishS a1) fun x38 => bnd (M.laws_toRatingS a2) fun x45 => bnd (M.impl_ParFactors a0 x38 x45) fun x52 => bnd (M.laws_eqInt64S x52.1 x31.1) fun x199 => ifB (!x199) (M.laws_FnExactParFactors_j1 a0 a1 a2 x31 x38 x45 x52 true) (M.laws_FnExactParFactors_j1 a0 a1 a2 x31 x38 x45 x52 (x52.2 != x31.2))))
def M.slices_Clone___impl_Rating_impl_Rating_ (a0 : List Rating) : Option (List Rating) :=
  chk (([] : List Rating).length + a0.length < 1099511627776) (some (([] : List Rating) ++ a0))
def M.impl_progressRace_a2 (s_l2 : (List Rating) × Int) : Option (List Rating) :=
  some s_l2.1
def M.impl_progressRace_j1 (s_l2 : (List Rating) × Int) (s_j1 : (List Rating)) : Option (Stp (List Rating) ((List Rating) × Int)) :=
  some (.cont (s_j1, w64 (s_l2.2 + 1)))
def M.impl_progressRace_j2 (s_l2 : (List Rating) × Int) (s_j2 : (List Rating)) : Option (Stp (List Rating) ((List Rating) × Int)) :=
  M.impl_progressRace_j1 s_l2 s_j2
def M.impl_progressRace_j3 (a0 : ProgressRules) (x14 : Int) (s_l2 : (List Rating) × Int) (x1345 : Finish) (s_j3 : Bool) : Option (Stp (List Rating) ((List Rating) × Int)) :=
  ifB s_j3 (bnd (idx s_l2.1 s_l2.2) fun x1394 => bnd (M.impl_parFactor x14 x1345.Time) fun x1403 => bnd (M.impl_progress a0 x1394.Value x1403) fun x1408 => bnd (idx s_l2.1 s_l2.2) fun x1413 => M.impl_progressRace_j2 s_l2 (s_l2.1.set (s_l2.2 : Int).toNat (Rating.mk x1413.Boat x1408))) (M.impl_progressRace_j2 s_l2 s_l2.1)
def M.impl_progressRace_l2 (a0 : ProgressRules) (a1 : List Finish) (x14 : Int) (s_l1 : Int × Int) (s_l2 : (List Rating) × Int) : Option (Stp (List Rating) ((List Rating) × Int)) :=
  ifB (decide (s_l2.2 < (a1.length : Int))) (bnd (idx a1 s_l2.2) fun x1345 => ifB (decide (1 < s_l1.1)) (M.impl_progressRace_j3 a0 x14 s_l2 x1345 (x1345.Code == 0)) (M.impl_progressRace_j3 a0 x14 s_l2 x1345 false)) (some (.brk (s_l2.1, s_l2.2)))
def M.impl_progressRace_a1 (a0 : ProgressRules) (a1 : List Finish) (x7 : (List Rating)) (x14 : Int) (s_l1 : Int × Int) : Option (List Rating) :=
  bnd (loopF (M.impl_progressRace_l2 a0 a1 x14 s_l1) (x7, 0)) fun o => outc o (fun x => some x) (fun s => M.impl_progressRace_a2 s)
def M.impl_progressRace_j4 (s_l1 : Int × Int) (s_j4 : Int) : Option (Stp (List Rating) (Int × Int)) :=
  some (.cont (s_j4, w64 (s_l1.2 + 1)))
def M.impl_progressRace_j5 (s_l1 : Int × Int) (s_j5 : Int) : Option (Stp (List Rating) (Int × Int)) :=
  M.impl_progressRace_j4 s_l1 s_j5
def M.impl_progressRace_l1 (a1 : List Finish) (s_l1 : Int × Int) : Option (Stp (List Rating) (Int × Int)) :=
  ifB (decide (s_l1.2 < (a1.length : Int))) (bnd (idx a1 s_l1.2) fun x1514 => ifB (x1514.Code == 0) (M.impl_progressRace_j5 s_l1 (w64 (s_l1.1 + 1))) (M.impl_progressRace_j5 s_l1 s_l1.1)) (some (.brk (s_l1.1, s_l1.2)))
def M.impl_progressRace (a0 : ProgressRules) (a1 : List Finish) (a2 : List Rating) : Option (List Rating) :=
  bnd (M.slices_Clone___impl_Rating_impl_Rating_ a2) fun x7 => bnd (M.impl_parTime a1 a2) fun x14 => bnd (loopF (M.impl_progressRace_l1 a1) (0, 0)) fun o => outc o (fun x => some x) (fun s => M.impl_progressRace_a1 a0 a1 x7 x14 s)
def M.impl_ProgressRace (a0 : ProgressRules) (a1 : Int) (a2 : List Finish) (a3 : List Rating) : Option ((List Rating) × Int) :=
  bnd (M.impl_IsProgress a0) fun x7 => ifB (!x7) (some ([], 1)) (bnd (M.impl_ratingsCode a1 a2 a3) fun x13 => ifB (x13 != 0) (some ([], x13)) (bnd (M.impl_progressRace a0 a2 a3) fun x19 => some (x19, 0)))
def M.laws_FnExactProgressRace_j3 (x147 : (Int) × (List Rating)) (s_j3 : Bool) : Option Bool :=
  ifB s_j3 (some false) (bnd (M.laws_heldRatingS x147.2 1) fun x198 => ifB (decide (x198 < 0)) (some false) (ifB (x198 != x147.1) (some false) (some true)))
def M.laws_FnExactProgressRace_j2 (a0 : ProgressRules) (a1 : Int) (a2 : List Finish) (a3 : List Rating) (x38 : (List Rating) × Int) (x64 : (List Rating) × Int) (s_j2 : Bool) : Option Bool :=
  ifB s_j2 (some false) (bnd (M.laws_markRatingS x64.1 1) fun x147 => bnd (M.laws_heldRatingS x147.2 1) fun x153 => ifB (decide (x153 < 0)) (some false) (ifB (x153 != x147.1) (some false) (bnd (M.laws_toProgressRules a0) fun x160 => bnd (M.laws_toFinishS a2) fun x165 => bnd (M.laws_toRatingS a3) fun x172 => bnd (M.impl_ProgressRace x160 a1 x165 x172) fun x179 => bnd (M.laws_eqRatingS x179.1 x38.1) fun x205 => ifB (!x205) (M.laws_FnExactProgressRace_j3 x147 true) (M.laws_FnExactProgressRace_j3 x147 (x179.2 != x38.2)))))
def M.laws_FnExactProgressRace_j1 (a0 : ProgressRules) (a1 : Int) (a2 : List Finish) (a3 : List Rating) (x38 : (List Rating) × Int) (x45 : (List Finish)) (x52 : (List Rating)) (x64 : (List Rating) × Int) (s_j1 : Bool) : Option Bool :=
  ifB s_j1 (some false) (bnd (M.laws_toFinishS a2) fun x91 => bnd (M.laws_eqFinishS x45 x91) fun x98 => ifB (!x98) (some false) (bnd (M.laws_toRatingS a3) fun x104 => bnd (M.laws_eqRatingS x52 x104) fun x111 => ifB (!x111) (some false) (bnd (M.laws_markFinishS x45 1) fun x117 => bnd (M.laws_markRatingS x52 x117.1) fun x123 => ifB (decide (x123.1 < 0)) (M.laws_FnExactProgressRace_j2 a0 a1 a2 a3 x38 x64 true) (bnd (M.laws_eqRatingS x64.1 x38.1) fun x212 => ifB (!x212) (M.laws_FnExactProgressRace_j2 a0 a1 a2 a3 x38 x64 true) (M.laws_FnExactProgressRace_j2 a0 a1 a2 a3 x38 x64 (x64.2 != x38.2))))))
def M.laws_FnExactProgressRace (a0 : ProgressRules) (a1 : Int) (a2 : List Finish) (a3 : List Rating) : Option Bool :=
  bnd (M.laws_szFinishS a2 1048576) fun x7 => ifB (decide (x7 < 0)) (some true) (bnd (M.laws_szRatingS a3 x7) fun x13 => ifB (decide (x13 < 0)) (some true) (bnd (M.laws_toProgressRules a0) fun x19 => bnd (M.laws_toFinishS a2) fun x24 => bnd (M.laws_toRatingS a3) fun x31 => bnd (M.spec_ProgressRace x19 a1 x24 x31) fun x38 => bnd (M.laws_toFinishS a2) fun x45 => bnd (M.laws_toRatingS a3) fun x52 => bnd (M.laws_toProgressRules a0) fun x59 => bnd (M.impl_ProgressRace x59 a1 x45 x52) fun x64 => bnd (M.laws_eqRatingS x64.1 x38.1) fun x218 => ifB (!x218) (M.laws_FnExactProgressRace_j1 a0 a1 a2 a3 x38 x45 x52 x64 true) (M.laws_FnExactProgressRace_j1 a0 a1 a2 a3 x38 x45 x52 x64 (x64.2 != x38.2))))
def M.laws_FnParTime_j2 (s_j2 : Bool) : Option Bool :=
  some s_j2
def M.laws_FnParTime_a1 (x39 : (List Finish) × Int) (s_l1 : Int × Int × Int × Int) : Option Bool :=
  ifB (x39.2 == 0) (ifB (decide (0 < s_l1.1)) (ifB (decide ((w64 (2 * s_l1.2.1)) < s_l1.1)) (ifB (decide ((w64 (2 * s_l1.2.2.1)) ≤ s_l1.1)) (M.laws_FnParTime_j2 (decide ((w64 (s_l1.2.1 + s_l1.2.2.1)) < s_l1.1))) (M.laws_FnParTime_j2 false)) (M.laws_FnParTime_j2 false)) (M.laws_FnParTime_j2 false)) (M.laws_FnParTime_j2 false)
def M.laws_FnParTime_j3 (s_l1 : Int × Int × Int × Int) (s_j3 : Int × Int × Int) : Option (Stp Bool (Int × Int × Int × Int)) :=
  some (.cont (s_j3.1, s_j3.2.1, s_j3.2.2, w64 (s_l1.2.2.2 + 1)))
def M.laws_FnParTime_j4 (s_l1 : Int × Int × Int × Int) (s_j4 : Int × Int × Int) : Option (Stp Bool (Int × Int × Int × Int)) :=
  M.laws_FnParTime_j3 s_l1 (s_j4.1, s_j4.2.1, s_j4.2.2)
def M.laws_FnParTime_j5 (x18 : Int × Int) (x39 : (List Finish) × Int) (s_l1 : Int × Int × Int × Int) (s_j5 : Int) : Option (Stp Bool (Int × Int × Int × Int)) :=
  bnd (idx x39.1 s_l1.2.2.2) fun x639 => ifB (decide (x18.1 < x639.Time)) (M.laws_FnParTime_j4 s_l1 (w64 (s_l1.1 + 1), s_j5, w64 (s_l1.2.2.1 + 1))) (M.laws_FnParTime_j4 s_l1 (w64 (s_l1.1 + 1), s_j5, s_l1.2.2.1))
def M.laws_FnParTime_l1 (x18 : Int × Int) (x39 : (List Finish) × Int) (s_l1 : Int × Int × Int × Int) : Option (Stp Bool (Int × Int × Int × Int)) :=
  ifB (decide (s_l1.2.2.2 < (x39.1.length : Int))) (bnd (idx x39.1 s_l1.2.2.2) fun x614 => ifB (x614.Code != 0) (M.laws_FnParTime_j4 s_l1 (s_l1.1, s_l1.2.1, s_l1.2.2.1)) (bnd (idx x39.1 s_l1.2.2.2) fun x647 => ifB (decide (x647.Time < x18.1)) (M.laws_FnParTime_j5 x18 x39 s_l1 (w64 (s_l1.2.1 + 1))) (M.laws_FnParTime_j5 x18 x39 s_l1 s_l1.2.1))) (some (.brk (s_l1.1, s_l1.2.1, s_l1.2.2.1, s_l1.2.2.2)))
def M.laws_FnParTime_j1 (x9 : Int × (List Finish) × (List Rating)) (x18 : Int × Int) (s_j1 : Bool) : Option Bool :=
  ifB s_j1 (some false) (ifB (x18.2 != 0) (some true) (bnd (M.impl_CorrectFinishes x9.1 x9.2.1 x9.2.2) fun x39 => bnd (loopF (M.laws_FnParTime_l1 x18 x39) (0, 0, 0, 0)) fun o => outc o (fun x => some x) (fun s => M.laws_FnParTime_a1 x39 s)))
def M.laws_FnParTime (a0 : List UInt8) : Option Bool :=
  bnd (M.laws_big a0) fun x3 => ifB x3 (some true) (bnd (M.spec_DrawParTime a0) fun x9 => bnd (M.impl_ParTime x9.1 x9.2.1 x9.2.2) fun x18 => bnd (M.spec_ParTime x9.1 x9.2.1 x9.2.2) fun x23 => ifB (x18.2 != x23.2) (M.laws_FnParTime_j1 x9 x18 true) (M.laws_FnParTime_j1 x9 x18 (x18.1 != x23.1)))
def M.laws_FnProgressRace_a1 (s_l1 : Int) : Option Bool :=
  some true
def M.laws_FnProgressRace_j2 (s_l1 : Int) (s_j2 : Unit) : Option (Stp Bool Int) :=
  some (.cont (w64 (s_l1 + 1)))
def M.laws_FnProgressRace_j3 (s_l1 : Int) (s_j3 : Unit) : Option (Stp Bool Int) :=
  M.laws_FnProgressRace_j2 s_l1 ()
def M.laws_FnProgressRace_j6 (s_l1 : Int) (s_j6 : Bool) : Option (Stp Bool Int) :=
  ifB s_j6 (some (.ret false)) (M.laws_FnProgressRace_j3 s_l1 ())
def M.laws_FnProgressRace_j5 (x9 : ProgressRules × Int × (List Finish) × (List Rating)) (x21 : (List Rating) × Int) (x53 : (List Int) × Int) (s_l1 : Int) (s_j5 : Bool) : Option (Stp Bool Int) :=
  ifB s_j5 (some (.ret false)) (bnd (idx x9.2.2.2 s_l1) fun x1535 => bnd (idx x53.1 s_l1) fun x1542 => bnd (M.impl_ProgressFactor x9.1 x1535.Value x1542) fun x1549 => ifB (x1549.2 != 0) (M.laws_FnProgressRace_j6 s_l1 true) (bnd (idx x21.1 s_l1) fun x1581 => ifB (x1581.Value != x1549.1) (M.laws_FnProgressRace_j6 s_l1 true) (bnd (idx x21.1 s_l1) fun x1589 => M.laws_FnProgressRace_j6 s_l1 (x1589.Boat != s_l1))))
def M.laws_FnProgressRace_j4 (x9 : ProgressRules × Int × (List Finish) × (List Rating)) (x21 : (List Rating) × Int) (x53 : (List Int) × Int) (s_l1 : Int) (s_j4 : Bool) : Option (Stp Bool Int) :=
  ifB s_j4 (bnd (idx x21.1 s_l1) fun x1506 => bnd (idx x9.2.2.2 s_l1) fun x1513 => ifB (!(eqL [x1506.Boat, x1506.Value] [x1513.Boat, x1513.Value])) (some (.ret false)) (M.laws_FnProgressRace_j3 s_l1 ())) (ifB (x53.2 != 0) (M.laws_FnProgressRace_j5 x9 x21 x53 s_l1 true) (M.laws_FnProgressRace_j5 x9 x21 x53 s_l1 ((x53.1.length : Int) != (x21.1.length : Int))))
def M.laws_FnProgressRace_l1 (x9 : ProgressRules × Int × (List Finish) × (List Rating)) (x21 : (List Rating) × Int) (x37 : Int × Int) (x53 : (List Int) × Int) (s_l1 : Int) : Option (Stp Bool Int) :=
  ifB (decide (s_l1 < (x21.1.length : Int))) (ifB (decide (x37.1 < 2)) (M.laws_FnProgressRace_j4 x9 x21 x53 s_l1 true) (bnd (idx x9.2.2.1 s_l1) fun x1598 => M.laws_FnProgressRace_j4 x9 x21 x53 s_l1 (x1598.Code != 0))) (some (.brk s_l1))
def M.laws_FnProgressRace_j1 (x9 : ProgressRules × Int × (List Finish) × (List Rating)) (x21 : (List Rating) × Int) (x37 : Int × Int) (s_j1 : Bool) : Option Bool :=
  ifB s_j1 (some false) (bnd (M.impl_ParFactors x9.2.1 x9.2.2.1 x9.2.2.2) fun x53 => bnd (loopF (M.laws_FnProgressRace_l1 x9 x21 x37 x53) 0) fun o => outc o (fun x => some x) (fun s => M.laws_FnProgressRace_a1 s))
def M.laws_FnProgressRace (a0 : List UInt8) : Option Bool :=
  bnd (M.laws_big a0) fun x3 => ifB x3 (some true) (bnd (M.spec_DrawProgressRace a0) fun x9 => bnd (M.impl_ProgressRace x9.1 x9.2.1 x9.2.2.1 x9.2.2.2) fun x21 => bnd (M.spec_ProgressRace x9.1 x9.2.1 x9.2.2.1 x9.2.2.2) fun x28 => ifB (x21.2 != x28.2) (some false) (ifB (x21.2 != 0) (some ((x21.1.length : Int) == 0)) (bnd (M.impl_CountFinished x9.2.2.1) fun x37 => ifB (x37.2 != 0) (M.laws_FnProgressRace_j1 x9 x21 x37 true) (M.laws_FnProgressRace_j1 x9 x21 x37 ((x21.1.length : Int) != (x9.2.2.2.length : Int))))))
def M.impl_progressSteps_1 (a0 : List Finish) (a1 : Int) : Option Bool :=
  bnd (M.impl_areFinishes a1 a0) fun x5 => some (!x5)
def M.slices_IndexFunc_____impl_Finish___impl_Finish__a1 (s_l1 : Int) : Option Int :=
  some (-1)
def M.slices_IndexFunc_____impl_Finish___impl_Finish__l1 (a0 : List (List Finish)) (a1 : (List Finish) → Option Bool) (s_l1 : Int) : Option (Stp Int Int) :=
  ifB (decide (s_l1 < (a0.length : Int))) (bnd (idx a0 s_l1) fun x59 => bnd (a1 x59) fun x70 => ifB x70 (some (.ret s_l1)) (some (.cont (w64 (s_l1 + 1))))) (some (.brk s_l1))
def M.slices_IndexFunc_____impl_Finish___impl_Finish_ (a0 : List (List Finish)) (a1 : (List Finish) → Option Bool) : Option Int :=
  bnd (loopF (M.slices_IndexFunc_____impl_Finish___impl_Finish__l1 a0 a1) 0) fun o => outc o (fun x => some x) (fun s => M.slices_IndexFunc_____impl_Finish___impl_Finish__a1 s)
def M.slices_ContainsFunc_____impl_Finish___impl_Finish_ (a0 : List (List Finish)) (a1 : (List Finish) → Option Bool) : Option Bool :=
  bnd (M.slices_IndexFunc_____impl_Finish___impl_Finish_ a0 a1) fun x6 => some (decide (0 ≤ x6))
def M.impl_progressSteps_a1 (s_l1 : (List (List Rating)) × Int) : Option ((List (List Rating)) × Int) :=
  some (s_l1.1, 0)
def M.impl_progressSteps_l1 (a0 : ProgressRules) (a2 : List (List Finish)) (s_l1 : (List (List Rating)) × Int) : Option (Stp ((List (List Rating)) × Int) ((List (List Rating)) × Int)) :=
  ifB (decide (s_l1.2 < (a2.length : Int))) (bnd (idx a2 s_l1.2) fun x189 => bnd (idx s_l1.1 s_l1.2) fun x227 => bnd (M.impl_progressRace a0 x189 x227) fun x238 => chk (s_l1.1.length + ([x238] : List (List Rating)).length < 1099511627776) (some (.cont (s_l1.1 ++ ([x238] : List (List Rating)), w64 (s_l1.2 + 1))))) (some (.brk (s_l1.1, s_l1.2)))
def M.impl_progressSteps (a0 : ProgressRules) (a1 : Int) (a2 : List (List Finish)) (a3 : List Rating) : Option ((List (List Rating)) × Int) :=
  bnd (M.impl_IsProgress a0) fun x9 => ifB (!x9) (some ([], 1)) (ifB (decide (20 < (a2.length : Int))) (some ([], 3)) (bnd (M.slices_ContainsFunc_____impl_Finish___impl_Finish_ a2 (fun y0 => M.impl_progressSteps_1 y0 a1)) fun x16 => ifB x16 (some ([], 1)) (bnd (M.impl_IsRatings a1 a3) fun x22 => ifB (!x22) (some ([], 2)) (bnd (M.slices_Clone___impl_Rating_impl_Rating_ a3) fun x28 => bnd (loopF (M.impl_progressSteps_l1 a0 a2) (([x28] : List (List Rating)), 0)) fun o => outc o (fun x => some x) (fun s => M.impl_progressSteps_a1 s)))))
def M.impl_ProgressSeries (a0 : ProgressRules) (a1 : Int) (a2 : List (List Finish)) (a3 : List Rating) : Option ((List Rating) × Int) :=
  bnd (M.impl_progressSteps a0 a1 a2 a3) fun x7 => ifB (x7.2 != 0) (some ([], x7.2)) (bnd (idx x7.1 (a2.length : Int)) fun x17 => some (x17, 0))
def M.impl_FactorHistory_a1 (s_l1 : (List Int) × Int) : Option ((List Int) × Int) :=
  some (s_l1.1, 0)
def M.impl_FactorHistory_l1 (a4 : Int) (x7 : (List (List Rating)) × Int) (s_l1 : (List Int) × Int) : Option (Stp ((List Int) × Int) ((List Int) × Int)) :=
  ifB (decide (s_l1.2 < (x7.1.length : Int))) (bnd (idx x7.1 s_l1.2) fun x105 => bnd (idx x105 a4) fun x116 => chk (s_l1.1.length + ([x116.Value] : List Int).length < 1099511627776) (some (.cont (s_l1.1 ++ ([x116.Value] : List Int), w64 (s_l1.2 + 1))))) (some (.brk (s_l1.1, s_l1.2)))
def M.impl_FactorHistory (a0 : ProgressRules) (a1 : Int) (a2 : List (List Finish)) (a3 : List Rating) (a4 : Int) : Option ((List Int) × Int) :=
  bnd (M.impl_progressSteps a0 a1 a2 a3) fun x7 => ifB (x7.2 != 0) (some ([], x7.2)) (bnd (M.impl_within a4 0 (w64 (a1 - 1))) fun x15 => ifB (!x15) (some ([], 4)) (bnd (loopF (M.impl_FactorHistory_l1 a4 x7) (([] : List Int), 0)) fun o => outc o (fun x => some x) (fun s => M.impl_FactorHistory_a1 s)))
def M.laws_FnProgressSeries_a1 (s_l1 : Int) : Option Bool :=
  some true
def M.laws_FnProgressSeries_j2 (s_l1 : Int) (s_j2 : Bool) : Option (Stp Bool Int) :=
  ifB s_j2 (some (.ret false)) (some (.cont (w64 (s_l1 + 1))))
def M.laws_FnProgressSeries_j1 (x9 : ProgressRules × Int × (List (List Finish)) × (List Rating)) (x21 : (List Rating) × Int) (x39 : (List Int) × Int) (s_l1 : Int) (s_j1 : Bool) : Option (Stp Bool Int) :=
  ifB s_j1 (some (.ret false)) (bnd (M.laws_hasInt x39.1 s_l1) fun x429 => bnd (idx x21.1 s_l1) fun x431 => ifB (decide (x431.Value ≤ x9.1.Low)) (M.laws_FnProgressSeries_j2 s_l1 (x429 != true)) (bnd (idx x21.1 s_l1) fun x440 => M.laws_FnProgressSeries_j2 s_l1 (x429 != (decide (x9.1.High ≤ x440.Value)))))
def M.laws_FnProgressSeries_l1 (x9 : ProgressRules × Int × (List (List Finish)) × (List Rating)) (x21 : (List Rating) × Int) (x39 : (List Int) × Int) (s_l1 : Int) : Option (Stp Bool Int) :=
  ifB (decide (s_l1 < x9.2.1)) (bnd (M.impl_FactorHistory x9.1 x9.2.1 x9.2.2.1 x9.2.2.2 s_l1) fun x346 => ifB (x346.2 != 0) (M.laws_FnProgressSeries_j1 x9 x21 x39 s_l1 true) (ifB ((x346.1.length : Int) != (w64 ((x9.2.2.1.length : Int) + 1))) (M.laws_FnProgressSeries_j1 x9 x21 x39 s_l1 true) (bnd (idx x346.1 0) fun x452 => bnd (idx x9.2.2.2 s_l1) fun x459 => ifB (x452 != x459.Value) (M.laws_FnProgressSeries_j1 x9 x21 x39 s_l1 true) (bnd (idx x346.1 (w64 ((x346.1.length : Int) - 1))) fun x468 => bnd (idx x21.1 s_l1) fun x475 => M.laws_FnProgressSeries_j1 x9 x21 x39 s_l1 (x468 != x475.Value))))) (some (.brk s_l1))
def M.laws_FnProgressSeries (a0 : List UInt8) : Option Bool :=
  bnd (M.laws_big a0) fun x3 => ifB x3 (some true) (bnd (M.spec_DrawProgressSeries a0) fun x9 => bnd (M.impl_ProgressSeries x9.1 x9.2.1 x9.2.2.1 x9.2.2.2) fun x21 => bnd (M.spec_ProgressSeries x9.1 x9.2.1 x9.2.2.1 x9.2.2.2) fun x29 => ifB (x21.2 != x29.2) (some false) (ifB (x21.2 != 0) (some ((x21.1.length : Int) == 0)) (ifB ((x21.1.length : Int) != x9.2.1) (some false) (bnd (M.impl_BoundedBoats x9.1 x9.2.1 x21.1) fun x39 => ifB (x39.2 != 0) (some false) (bnd (loopF (M.laws_FnProgressSeries_l1 x9 x21 x39) 0) fun o => outc o (fun x => some x) (fun s => M.laws_FnProgressSeries_a1 s))))))
def M.laws_FnExactProgressSeries_j3 (x148 : (Int) × (List Rating)) (s_j3 : Bool) : Option Bool :=
  ifB s_j3 (some false) (bnd (M.laws_heldRatingS x148.2 1) fun x200 => ifB (decide (x200 < 0)) (some false) (ifB (x200 != x148.1) (some false) (some true)))
def M.laws_FnExactProgressSeries_j2 (a0 : ProgressRules) (a1 : Int) (a2 : List (List Finish)) (a3 : List Rating) (x38 : (List Rating) × Int) (x64 : (List Rating) × Int) (s_j2 : Bool) : Option Bool :=
  ifB s_j2 (some false) (bnd (M.laws_markRatingS x64.1 1) fun x148 => bnd (M.laws_heldRatingS x148.2 1) fun x154 => ifB (decide (x154 < 0)) (some false) (ifB (x154 != x148.1) (some false) (bnd (M.laws_toProgressRules a0) fun x161 => bnd (M.laws_toFinishSS a2) fun x166 => bnd (M.laws_toRatingS a3) fun x173 => bnd (M.impl_ProgressSeries x161 a1 x166 x173) fun x180 => bnd (M.laws_eqRatingS x180.1 x38.1) fun x207 => ifB (!x207) (M.laws_FnExactProgressSeries_j3 x148 true) (M.laws_FnExactProgressSeries_j3 x148 (x180.2 != x38.2)))))
def M.laws_FnExactProgressSeries_j1 (a0 : ProgressRules) (a1 : Int) (a2 : List (List Finish)) (a3 : List Rating) (x38 : (List Rating) × Int) (x45 : (List (List Finish))) (x52 : (List Rating)) (x64 : (List Rating) × Int) (s_j1 : Bool) : Option Bool :=
  ifB s_j1 (some false) (bnd (M.laws_toFinishSS a2) fun x92 => bnd (M.laws_eqFinishSS x45 x92) fun x99 => ifB (!x99) (some false) (bnd (M.laws_toRatingS a3) fun x105 => bnd (M.laws_eqRatingS x52 x105) fun x112 => ifB (!x112) (some false) (bnd (M.laws_markFinishSS x45 1) fun x118 => bnd (M.laws_markRatingS x52 x118.1) fun x124 => ifB (decide (x124.1 < 0)) (M.laws_FnExactProgressSeries_j2 a0 a1 a2 a3 x38 x64 true) (bnd (M.laws_eqRatingS x64.1 x38.1) fun x214 => ifB (!x214) (M.laws_FnExactProgressSeries_j2 a0 a1 a2 a3 x38 x64 true) (M.laws_FnExactProgressSeries_j2 a0 a1 a2 a3 x38 x64 (x64.2 != x38.2))))))
def M.laws_FnExactProgressSeries (a0 : ProgressRules) (a1 : Int) (a2 : List (List Finish)) (a3 : List Rating) : Option Bool :=
  bnd (M.laws_szFinishSS a2 1048576) fun x7 => ifB (decide (x7 < 0)) (some true) (bnd (M.laws_szRatingS a3 x7) fun x13 => ifB (decide (x13 < 0)) (some true) (bnd (M.laws_toProgressRules a0) fun x19 => bnd (M.laws_toFinishSS a2) fun x24 => bnd (M.laws_toRatingS a3) fun x31 => bnd (M.spec_ProgressSeries x19 a1 x24 x31) fun x38 => bnd (M.laws_toFinishSS a2) fun x45 => bnd (M.laws_toRatingS a3) fun x52 => bnd (M.laws_toProgressRules a0) fun x59 => bnd (M.impl_ProgressSeries x59 a1 x45 x52) fun x64 => bnd (M.laws_eqRatingS x64.1 x38.1) fun x220 => ifB (!x220) (M.laws_FnExactProgressSeries_j1 a0 a1 a2 a3 x38 x45 x52 x64 true) (M.laws_FnExactProgressSeries_j1 a0 a1 a2 a3 x38 x45 x52 x64 (x64.2 != x38.2))))
def M.spec_FactorHistory_a1 (s_l1 : (List Rating) × (List Int) × Int) : Option ((List Int) × Int) :=
  some (s_l1.2.1, 0)
def M.spec_FactorHistory_l1 (a0 : ProgressRules) (a2 : List (List Finish)) (a4 : Int) (s_l1 : (List Rating) × (List Int) × Int) : Option (Stp ((List Int) × Int) ((List Rating) × (List Int) × Int)) :=
  ifB (decide (s_l1.2.2 < (a2.length : Int))) (bnd (idx a2 s_l1.2.2) fun x178 => bnd (M.spec_l25Race a0 x178 s_l1.1) fun x189 => bnd (idx x189 a4) fun x196 => chk (s_l1.2.1.length + ([x196.Value] : List Int).length < 1099511627776) (some (.cont (x189, s_l1.2.1 ++ ([x196.Value] : List Int), w64 (s_l1.2.2 + 1))))) (some (.brk (s_l1.1, s_l1.2.1, s_l1.2.2)))
def M.spec_FactorHistory (a0 : ProgressRules) (a1 : Int) (a2 : List (List Finish)) (a3 : List Rating) (a4 : Int) : Option ((List Int) × Int) :=
  bnd (M.spec_l25Code a0 a1 a2 a3) fun x7 => ifB (x7 != 0) (some ([], x7)) (bnd (M.spec_l01In a4 0 (w64 (a1 - 1))) fun x13 => ifB (!x13) (some ([], 4)) (bnd (idx a3 a4) fun x19 => bnd (loopF (M.spec_FactorHistory_l1 a0 a2 a4) (a3, ([x19.Value] : List Int), 0)) fun o => outc o (fun x => some x) (fun s => M.spec_FactorHistory_a1 s)))
def M.laws_FnExactFactorHistory_j3 (x149 : (Int) × (List Int)) (s_j3 : Bool) : Option Bool :=
  ifB s_j3 (some false) (bnd (M.laws_heldInt64S x149.2 1) fun x200 => ifB (decide (x200 < 0)) (some false) (ifB (x200 != x149.1) (some false) (some true)))
def M.laws_FnExactFactorHistory_j2 (a0 : ProgressRules) (a1 : Int) (a2 : List (List Finish)) (a3 : List Rating) (a4 : Int) (x38 : (List Int) × Int) (x64 : (List Int) × Int) (s_j2 : Bool) : Option Bool :=
  ifB s_j2 (some false) (bnd (M.laws_markInt64S x64.1 1) fun x149 => bnd (M.laws_heldInt64S x149.2 1) fun x155 => ifB (decide (x155 < 0)) (some false) (ifB (x155 != x149.1) (some false) (bnd (M.laws_toProgressRules a0) fun x162 => bnd (M.laws_toFinishSS a2) fun x167 => bnd (M.laws_toRatingS a3) fun x174 => bnd (M.impl_FactorHistory x162 a1 x167 x174 a4) fun x181 => bnd (M.laws_eqInt64S x181.1 x38.1) fun x207 => ifB (!x207) (M.laws_FnExactFactorHistory_j3 x149 true) (M.laws_FnExactFactorHistory_j3 x149 (x181.2 != x38.2)))))
def M.laws_FnExactFactorHistory_j1 (a0 : ProgressRules) (a1 : Int) (a2 : List (List Finish)) (a3 : List Rating) (a4 : Int) (x38 : (List Int) × Int) (x45 : (List (List Finish))) (x52 : (List Rating)) (x64 : (List Int) × Int) (s_j1 : Bool) : Option Bool :=
  ifB s_j1 (some false) (bnd (M.laws_toFinishSS a2) fun x92 => bnd (M.laws_eqFinishSS x45 x92) fun x99 => ifB (!x99) (some false) (bnd (M.laws_toRatingS a3) fun x105 => bnd (M.laws_eqRatingS x52 x105) fun x112 => ifB (!x112) (some false) (bnd (M.laws_markFinishSS x45 1) fun x118 => bnd (M.laws_markRatingS x52 x118.1) fun x124 => ifB (decide (x124.1 < 0)) (M.laws_FnExactFactorHistory_j2 a0 a1 a2 a3 a4 x38 x64 true) (bnd (M.laws_eqInt64S x64.1 x38.1) fun x214 => ifB (!x214) (M.laws_FnExactFactorHistory_j2 a0 a1 a2 a3 a4 x38 x64 true) (M.laws_FnExactFactorHistory_j2 a0 a1 a2 a3 a4 x38 x64 (x64.2 != x38.2))))))
def M.laws_FnExactFactorHistory (a0 : ProgressRules) (a1 : Int) (a2 : List (List Finish)) (a3 : List Rating) (a4 : Int) : Option Bool :=
  bnd (M.laws_szFinishSS a2 1048576) fun x7 => ifB (decide (x7 < 0)) (some true) (bnd (M.laws_szRatingS a3 x7) fun x13 => ifB (decide (x13 < 0)) (some true) (bnd (M.laws_toProgressRules a0) fun x19 => bnd (M.laws_toFinishSS a2) fun x24 => bnd (M.laws_toRatingS a3) fun x31 => bnd (M.spec_FactorHistory x19 a1 x24 x31 a4) fun x38 => bnd (M.laws_toFinishSS a2) fun x45 => bnd (M.laws_toRatingS a3) fun x52 => bnd (M.laws_toProgressRules a0) fun x59 => bnd (M.impl_FactorHistory x59 a1 x45 x52 a4) fun x64 => bnd (M.laws_eqInt64S x64.1 x38.1) fun x220 => ifB (!x220) (M.laws_FnExactFactorHistory_j1 a0 a1 a2 a3 a4 x38 x45 x52 x64 true) (M.laws_FnExactFactorHistory_j1 a0 a1 a2 a3 a4 x38 x45 x52 x64 (x64.2 != x38.2))))
def M.slices_IndexFunc_____impl_CurvePoint___impl_CurvePoint__a1 (s_l1 : Int) : Option Int :=
  some (-1)
def M.slices_IndexFunc_____impl_CurvePoint___impl_CurvePoint__l1 (a0 : List (List CurvePoint)) (a1 : (List CurvePoint) → Option Bool) (s_l1 : Int) : Option (Stp Int Int) :=
  ifB (decide (s_l1 < (a0.length : Int))) (bnd (idx a0 s_l1) fun x59 => bnd (a1 x59) fun x70 => ifB x70 (some (.ret s_l1)) (some (.cont (w64 (s_l1 + 1))))) (some (.brk s_l1))
def M.slices_IndexFunc_____impl_CurvePoint___impl_CurvePoint_ (a0 : List (List CurvePoint)) (a1 : (List CurvePoint) → Option Bool) : Option Int :=
  bnd (loopF (M.slices_IndexFunc_____impl_CurvePoint___impl_CurvePoint__l1 a0 a1) 0) fun o => outc o (fun x => some x) (fun s => M.slices_IndexFunc_____impl_CurvePoint___impl_CurvePoint__a1 s)
def M.slices_ContainsFunc_____impl_CurvePoint___impl_CurvePoint_ (a0 : List (List CurvePoint)) (a1 : (List CurvePoint) → Option Bool) : Option Bool :=
  bnd (M.slices_IndexFunc_____impl_CurvePoint___impl_CurvePoint_ a0 a1) fun x6 => some (decide (0 ≤ x6))
def M.impl_CorrectByCurves_a1 (s_l1 : (List Finish) × Int) : Option ((List Finish) × Int) :=
  some (s_l1.1, 0)
def M.impl_CorrectByCurves_j3 (s_l1 : (List Finish) × Int) (x241 : Finish) (s_j3 : Int) : Option (Stp ((List Finish) × Int) ((List Finish) × Int)) :=
  ifB (decide (1000000000 < s_j3)) (some (.ret ([], 3))) (chk (s_l1.1.length + ([(Finish.mk x241.Boat x241.Code s_j3)] : List Finish).length < 1099511627776) (some (.cont (s_l1.1 ++ ([(Finish.mk x241.Boat x241.Code s_j3)] : List Finish), w64 (s_l1.2 + 1)))))
def M.impl_CorrectByCurves_l1 (a1 : List Finish) (a2 : List (List CurvePoint)) (a3 : Int) (a4 : Int) (s_l1 : (List Finish) × Int) : Option (Stp ((List Finish) × Int) ((List Finish) × Int)) :=
  ifB (decide (s_l1.2 < (a1.length : Int))) (bnd (idx a1 s_l1.2) fun x241 => ifB (x241.Code == 0) (bnd (idx a2 s_l1.2) fun x297 => bnd (idx a2 a3) fun x308 => bnd (M.impl_curveCorrected x297 x308 x241.Time a4) fun x319 => M.impl_CorrectByCurves_j3 s_l1 x241 x319) (M.impl_CorrectByCurves_j3 s_l1 x241 x241.Time)) (some (.brk (s_l1.1, s_l1.2)))
def M.impl_CorrectByCurves_j2 (a1 : List Finish) (a2 : List (List CurvePoint)) (a3 : Int) (a4 : Int) (s_j2 : Bool) : Option ((List Finish) × Int) :=
  ifB s_j2 (some ([], 2)) (bnd (loopF (M.impl_CorrectByCurves_l1 a1 a2 a3 a4) (([] : List Finish), 0)) fun o => outc o (fun x => some x) (fun s => M.impl_CorrectByCurves_a1 s))
def M.impl_CorrectByCurves_j1 (a0 : Int) (a1 : List Finish) (a2 : List (List CurvePoint)) (a3 : Int) (a4 : Int) (s_j1 : Bool) : Option ((List Finish) × Int) :=
  ifB s_j1 (some ([], 1)) (bnd (M.slices_ContainsFunc_____impl_CurvePoint___impl_CurvePoint_ a2 (fun y0 => M.impl_CorrectByCurves_1 y0)) fun x20 => ifB x20 (some ([], 1)) (bnd (M.impl_within a3 0 (w64 (a0 - 1))) fun x323 => ifB (!x323) (M.impl_CorrectByCurves_j2 a1 a2 a3 a4 true) (bnd (M.impl_isDistance a4) fun x329 => M.impl_CorrectByCurves_j2 a1 a2 a3 a4 (!x329))))
def M.impl_CorrectByCurves (a0 : Int) (a1 : List Finish) (a2 : List (List CurvePoint)) (a3 : Int) (a4 : Int) : Option ((List Finish) × Int) :=
  bnd (M.impl_areFinishes a0 a1) fun x334 => ifB (!x334) (M.impl_CorrectByCurves_j1 a0 a1 a2 a3 a4 true) (M.impl_CorrectByCurves_j1 a0 a1 a2 a3 a4 ((a2.length : Int) != a0))
def M.laws_FnByCurves_a1 (s_l1 : Int) : Option Bool :=
  some true
def M.laws_FnByCurves_j1 (s_l1 : Int) (s_j1 : Unit) : Option (Stp Bool Int) :=
  some (.cont (w64 (s_l1 + 1)))
def M.laws_FnByCurves_j2 (s_l1 : Int) (s_j2 : Unit) : Option (Stp Bool Int) :=
  M.laws_FnByCurves_j1 s_l1 ()
def M.laws_FnByCurves_j3 (s_l1 : Int) (s_j3 : Bool) : Option (Stp Bool Int) :=
  ifB s_j3 (some (.ret false)) (M.laws_FnByCurves_j2 s_l1 ())
def M.laws_FnByCurves_l1 (x9 : Int × (List Finish) × (List (List CurvePoint)) × Int × Int) (x18 : (List Finish) × Int) (s_l1 : Int) : Option (Stp Bool Int) :=
  ifB (decide (s_l1 < (x18.1.length : Int))) (bnd (idx x9.2.1 s_l1) fun x1450 => ifB (x1450.Code != 0) (bnd (idx x18.1 s_l1) fun x1458 => bnd (idx x9.2.1 s_l1) fun x1465 => ifB (!(eqL [x1458.Boat, x1458.Code, x1458.Time] [x1465.Boat, x1465.Code, x1465.Time])) (some (.ret false)) (M.laws_FnByCurves_j2 s_l1 ())) (bnd (idx x9.2.2.1 s_l1) fun x1476 => bnd (idx x9.2.2.1 x9.2.2.2.1) fun x1487 => bnd (idx x9.2.1 s_l1) fun x1498 => bnd (M.impl_CurveCorrected x1476 x1487 x1498.Time x9.2.2.2.2) fun x1505 => ifB (x1505.2 != 0) (M.laws_FnByCurves_j3 s_l1 true) (bnd (idx x18.1 s_l1) fun x1546 => ifB (x1546.Time != x1505.1) (M.laws_FnByCurves_j3 s_l1 true) (bnd (idx x18.1 s_l1) fun x1555 => bnd (idx x9.2.1 s_l1) fun x1562 => M.laws_FnByCurves_j3 s_l1 (x1555.Boat != x1562.Boat))))) (some (.brk s_l1))
def M.laws_FnByCurves (a0 : List UInt8) : Option Bool :=
  bnd (M.laws_big a0) fun x3 => ifB x3 (some true) (bnd (M.spec_DrawCorrectByCurves a0) fun x9 => bnd (M.impl_CorrectByCurves x9.1 x9.2.1 x9.2.2.1 x9.2.2.2.1 x9.2.2.2.2) fun x18 => bnd (M.spec_CorrectByCurves x9.1 x9.2.1 x9.2.2.1 x9.2.2.2.1 x9.2.2.2.2) fun x25 => ifB (x18.2 != x25.2) (some false) (ifB (x18.2 != 0) (some ((x18.1.length : Int) == 0)) (ifB ((x18.1.length : Int) != (x9.2.1.length : Int)) (some false) (bnd (loopF (M.laws_FnByCurves_l1 x9 x18) 0) fun o => outc o (fun x => some x) (fun s => M.laws_FnByCurves_a1 s)))))
def M.laws_FnExactCorrectByCurves_j3 (x137 : (Int) × (List Finish)) (s_j3 : Bool) : Option Bool :=
  ifB s_j3 (some false) (bnd (M.laws_heldFinishS x137.2 1) fun x183 => ifB (decide (x183 < 0)) (some false) (ifB (x183 != x137.1) (some false) (some true)))
def M.laws_FnExactCorrectByCurves_j2 (a0 : Int) (a1 : List Finish) (a2 : List (List CurvePoint)) (a3 : Int) (a4 : Int) (x31 : (List Finish) × Int) (x52 : (List Finish) × Int) (s_j2 : Bool) : Option Bool :=
  ifB s_j2 (some false) (bnd (M.laws_markFinishS x52.1 1) fun x137 => bnd (M.laws_heldFinishS x137.2 1) fun x143 => ifB (decide (x143 < 0)) (some false) (ifB (x143 != x137.1) (some false) (bnd (M.laws_toFinishS a1) fun x150 => bnd (M.laws_toCurvePointSS a2) fun x157 => bnd (M.impl_CorrectByCurves a0 x150 x157 a3 a4) fun x164 => bnd (M.laws_eqFinishS x164.1 x31.1) fun x190 => ifB (!x190) (M.laws_FnExactCorrectByCurves_j3 x137 true) (M.laws_FnExactCorrectByCurves_j3 x137 (x164.2 != x31.2)))))
def M.laws_FnExactCorrectByCurves_j1 (a0 : Int) (a1 : List Finish) (a2 : List (List CurvePoint)) (a3 : Int) (a4 : Int) (x31 : (List Finish) × Int) (x38 : (List Finish)) (x45 : (List (List CurvePoint))) (x52 : (List Finish) × Int) (s_j1 : Bool) : Option Bool :=
  ifB s_j1 (some false) (bnd (M.laws_toFinishS a1) fun x80 => bnd (M.laws_eqFinishS x38 x80) fun x87 => ifB (!x87) (some false) (bnd (M.laws_toCurvePointSS a2) fun x93 => bnd (M.laws_eqCurvePointSS x45 x93) fun x100 => ifB (!x100) (some false) (bnd (M.laws_markFinishS x38 1) fun x106 => bnd (M.laws_markCurvePointSS x45 x106.1) fun x112 => ifB (decide (x112.1 < 0)) (M.laws_FnExactCorrectByCurves_j2 a0 a1 a2 a3 a4 x31 x52 true) (bnd (M.laws_eqFinishS x52.1 x31.1) fun x197 => ifB (!x197) (M.laws_FnExactCorrectByCurves_j2 a0 a1 a2 a3 a4 x31 x52 true) (M.laws_FnExactCorrectByCurves_j2 a0 a1 a2 a3 a4 x31 x52 (x52.2 != x31.2))))))
def M.laws_FnExactCorrectByCurves (a0 : Int) (a1 : List Finish) (a2 : List (List CurvePoint)) (a3 : Int) (a4 : Int) : Option Bool :=
  bnd (M.laws_szFinishS a1 1048576) fun x5 => ifB (decide (x5 < 0)) (some true) (bnd (M.laws_szCurvePointSS a2 x5) fun x11 => ifB (decide (x11 < 0)) (some true) (bnd (M.laws_toFinishS a1) fun x17 => bnd (M.laws_toCurvePointSS a2) fun x24 => bnd (M.spec_CorrectByCurves a0 x17 x24 a3 a4) fun x31 => bnd (M.laws_toFinishS a1) fun x38 => bnd (M.laws_toCurvePointSS a2) fun x45 => bnd (M.impl_CorrectByCurves a0 x38 x45 a3 a4) fun x52 => bnd (M.laws_eqFinishS x52.1 x31.1) fun x203 => ifB (!x203) (M.laws_FnExactCorrectByCurves_j1 a0 a1 a2 a3 a4 x31 x38 x45 x52 true) (M.laws_FnExactCorrectByCurves_j1 a0 a1 a2 a3 a4 x31 x38 x45 x52 (x52.2 != x31.2))))
def M.impl_SimplifyCurve_1 (a0 : CurvePoint) (a1 : List CurvePoint) (a2 : Int) : Option Bool :=
  bnd (M.impl_paceAt a1 a0.Wind) fun x9 => bnd (M.impl_within (w64 (x9 - a0.Pace)) (w64 (0 - a2)) a2) fun x11 => some (!x11)
def M.slices_IndexFunc___impl_CurvePoint_impl_CurvePoint__a1 (s_l1 : Int) : Option Int :=
  some (-1)
def M.slices_IndexFunc___impl_CurvePoint_impl_CurvePoint__l1 (a0 : List CurvePoint) (a1 : CurvePoint → Option Bool) (s_l1 : Int) : Option (Stp Int Int) :=
  ifB (decide (s_l1 < (a0.length : Int))) (bnd (idx a0 s_l1) fun x51 => bnd (a1 x51) fun x58 => ifB x58 (some (.ret s_l1)) (some (.cont (w64 (s_l1 + 1))))) (some (.brk s_l1))
def M.slices_IndexFunc___impl_CurvePoint_impl_CurvePoint_ (a0 : List CurvePoint) (a1 : CurvePoint → Option Bool) : Option Int :=
  bnd (loopF (M.slices_IndexFunc___impl_CurvePoint_impl_CurvePoint__l1 a0 a1) 0) fun o => outc o (fun x => some x) (fun s => M.slices_IndexFunc___impl_CurvePoint_impl_CurvePoint__a1 s)
def M.slices_ContainsFunc___impl_CurvePoint_impl_CurvePoint_ (a0 : List CurvePoint) (a1 : CurvePoint → Option Bool) : Option Bool :=
  bnd (M.slices_IndexFunc___impl_CurvePoint_impl_CurvePoint_ a0 a1) fun x6 => some (decide (0 ≤ x6))

def M.spec_l26DrawTable_j2 (x2123 : Table × Int) (s_j2 : Int × Int × (List (List Int)) × (List (List Int))) : Option ((Table) × (Int × Int)) :=
  some ((Table.mk x2123.1.Boats s_j2.2.2.1 s_j2.2.2.2), (s_j2.1, s_j2.2.1))
def M.spec_l26DrawTable_j3 (x2123 : Table × Int) (s_j3 : Int × Int × (List (List Int)) × (List (List Int))) : Option ((Table) × (Int × Int)) :=
  M.spec_l26DrawTable_j2 x2123 (s_j3.1, s_j3.2.1, s_j3.2.2.1, s_j3.2.2.2)
def M.spec_l26DrawTable_j4 (a0 : Src) (x2123 : Table × Int) (x2144 : (Int) × (Int × Int)) (x2149 : (Int) × (Int × Int)) (x2720 : (Int) × (Int × Int)) (s_j4 : Bool) : Option ((Table) × (Int × Int)) :=
  ifB s_j4 (bnd (idx x2123.1.Points x2144.1) fun x3394 => bnd (M.spec_l01Next (Src.mk a0.code x2720.2.1 x2720.2.2) 8) fun x3405 => bnd (idx x3394 x2149.1) fun x3410 => M.spec_l26DrawTable_j3 x2123 (x3405.2.1, x3405.2.2, x2123.1.Points.set (x2144.1 : Int).toNat (x3394.set (x2149.1 : Int).toNat (w64 (10 * x3405.1))), x2123.1.Codes)) (M.spec_l26DrawTable_j3 x2123 (x2720.2.1, x2720.2.2, x2123.1.Points, x2123.1.Codes))
def M.spec_l26DrawTable_j1 (a0 : Src) (s_l1 : Int × Int × (List Race) × Int) (x2123 : Table × Int) (s_j1 : Bool) : Option ((Table) × (Int × Int)) :=
  ifB s_j1 (some (x2123.1, (s_l1.1, s_l1.2.1))) (bnd (M.spec_l01Next (Src.mk a0.code s_l1.1 s_l1.2.1) (x2123.1.Points.length : Int)) fun x2144 => bnd (M.spec_l01Next (Src.mk a0.code x2144.2.1 x2144.2.2) x2123.1.Boats) fun x2149 => bnd (M.spec_l01Next (Src.mk a0.code x2149.2.1 x2149.2.2) 20) fun x2720 => ifB (x2720.1 == 0) (bnd (idx x2123.1.Points x2144.1) fun x3045 => bnd (M.spec_l01Next (Src.mk a0.code x2720.2.1 x2720.2.2) 2) fun x3056 => bnd (idx x3045 x2149.1) fun x3061 => M.spec_l26DrawTable_j3 x2123 (x3056.2.1, x3056.2.2, x2123.1.Points.set (x2144.1 : Int).toNat (x3045.set (x2149.1 : Int).toNat (w64 (10000 + x3056.1))), x2123.1.Codes)) (ifB (x2720.1 == 1) (bnd (idx x2123.1.Codes x2144.1) fun x3194 => bnd (M.spec_l01Next (Src.mk a0.code x2720.2.1 x2720.2.2) 2) fun x3205 => bnd (idx x3194 x2149.1) fun x3210 => M.spec_l26DrawTable_j3 x2123 (x3205.2.1, x3205.2.2, x2123.1.Points, x2123.1.Codes.set (x2144.1 : Int).toNat (x3194.set (x2149.1 : Int).toNat (w64 (10 - x3205.1))))) (ifB (x2720.1 == 2) (bnd (idx x2123.1.Points x2144.1) fun x3310 => chk (0 ≤ (1 : Int) ∧ (1 : Int) ≤ (x3310.length : Int) ∧ (x3310.length : Int) ≤ (x3310.length : Int)) (bnd (idx x2123.1.Points x2144.1) fun x3324 => chk (¬ (M.spec_IsTable (Table.mk x2123.1.Boats (x2123.1.Points.set (x2144.1 : Int).toNat (subL x3310 1 (x3310.length : Int))) x2123.1.Codes) = some true)) (M.spec_l26DrawTable_j3 x2123 (x2720.2.1, x2720.2.2, x2123.1.Points.set (x2144.1 : Int).toNat (subL x3310 1 (x3310.length : Int)), x2123.1.Codes)))) (ifB (x2720.1 == 3) (chk (0 ≤ (1 : Int) ∧ (1 : Int) ≤ (x2123.1.Codes.length : Int) ∧ (x2123.1.Codes.length : Int) ≤ (x2123.1.Codes.length : Int)) (M.spec_l26DrawTable_j3 x2123 (x2720.2.1, x2720.2.2, x2123.1.Points, subL x2123.1.Codes 1 (x2123.1.Codes.length : Int)))) (ifB (x2720.1 == 4) (M.spec_l26DrawTable_j4 a0 x2123 x2144 x2149 x2720 (x2720.1 == 4)) (ifB (x2720.1 == 5) (M.spec_l26DrawTable_j4 a0 x2123 x2144 x2149 x2720 (x2720.1 == 5)) (M.spec_l26DrawTable_j4 a0 x2123 x2144 x2149 x2720 (x2720.1 == 6))))))))
def M.spec_l26DrawTable_a1 (a0 : Src) (x7 : (Series) × (Int × Int)) (s_l1 : Int × Int × (List Race) × Int) : Option ((Table) × (Int × Int)) :=
  bnd (M.spec_TableOf (Series.mk x7.1.Boats x7.1.Scheme s_l1.2.2.1)) fun x2123 => ifB ((x2123.1.Points.length : Int) == 0) (M.spec_l26DrawTable_j1 a0 s_l1 x2123 true) (M.spec_l26DrawTable_j1 a0 s_l1 x2123 (x2123.1.Boats == 0))
def M.spec_l26DrawTable_a2 (s_l1 : Int × Int × (List Race) × Int) (s_l2 : Int × Int × (List Race) × Int) : Option (Stp ((Table) × (Int × Int)) (Int × Int × (List Race) × Int)) :=
  some (.cont (s_l2.1, s_l2.2.1, s_l2.2.2.1, w64 (s_l1.2.2.2 + 1)))
def M.spec_l26DrawTable_j5 (s_l2 : Int × Int × (List Race) × Int) (s_j5 : Int × Int × (List Race)) : Option (Stp ((Table) × (Int × Int)) (Int × Int × (List Race) × Int)) :=
  some (.cont (s_j5.1, s_j5.2.1, s_j5.2.2, w64 (s_l2.2.2.2 + 1)))
def M.spec_l26DrawTable_j6 (s_l2 : Int × Int × (List Race) × Int) (s_j6 : Int × Int × (List Race)) : Option (Stp ((Table) × (Int × Int)) (Int × Int × (List Race) × Int)) :=
  M.spec_l26DrawTable_j5 s_l2 (s_j6.1, s_j6.2.1, s_j6.2.2)
def M.spec_l26DrawTable_j7 (s_l1 : Int × Int × (List Race) × Int) (s_l2 : Int × Int × (List Race) × Int) (x4496 : Finish) (s_j7 : Int × Int × Bool) : Option (Stp ((Table) × (Int × Int)) (Int × Int × (List Race) × Int)) :=
  ifB s_j7.2.2 (bnd (idx s_l2.2.2.1 s_l1.2.2.2) fun x4524 => bnd (idx x4524.Finishes s_l2.2.2.2) fun x4535 => M.spec_l26DrawTable_j6 s_l2 (s_j7.1, s_j7.2.1, s_l2.2.2.1.set (s_l1.2.2.2 : Int).toNat (Race.mk (x4524.Finishes.set (s_l2.2.2.2 : Int).toNat (Finish.mk x4496.Boat 4 0))))) (M.spec_l26DrawTable_j6 s_l2 (s_j7.1, s_j7.2.1, s_l2.2.2.1))
def M.spec_l26DrawTable_l2 (a0 : Src) (s_l1 : Int × Int × (List Race) × Int) (s_l2 : Int × Int × (List Race) × Int) : Option (Stp ((Table) × (Int × Int)) (Int × Int × (List Race) × Int)) :=
  bnd (idx s_l2.2.2.1 s_l1.2.2.2) fun x4219 => ifB (decide (s_l2.2.2.2 < (x4219.Finishes.length : Int))) (bnd (idx s_l2.2.2.1 s_l1.2.2.2) fun x4485 => bnd (idx x4485.Finishes s_l2.2.2.2) fun x4496 => ifB (x4496.Code == 9) (bnd (M.spec_l01Next (Src.mk a0.code s_l2.1 s_l2.2.1) 2) fun x4554 => M.spec_l26DrawTable_j7 s_l1 s_l2 x4496 (x4554.2.1, x4554.2.2, x4554.1 == 0)) (M.spec_l26DrawTable_j7 s_l1 s_l2 x4496 (s_l2.1, s_l2.2.1, false))) (some (.brk (s_l2.1, s_l2.2.1, s_l2.2.2.1, s_l2.2.2.2)))
def M.spec_l26DrawTable_l1 (a0 : Src) (s_l1 : Int × Int × (List Race) × Int) : Option (Stp ((Table) × (Int × Int)) (Int × Int × (List Race) × Int)) :=
  ifB (decide (s_l1.2.2.2 < (s_l1.2.2.1.length : Int))) (bnd (loopF (M.spec_l26DrawTable_l2 a0 s_l1) (s_l1.1, s_l1.2.1, s_l1.2.2.1, 0)) fun o => outc o (fun x => some (.ret x)) (fun s => M.spec_l26DrawTable_a2 s_l1 s)) (some (.brk (s_l1.1, s_l1.2.1, s_l1.2.2.1, s_l1.2.2.2)))
def M.spec_l26DrawTable (a0 : Src) : Option ((Table) × (Int × Int)) :=
  bnd (M.spec_l26DrawSeries (Src.mk a0.code a0.at_ a0.seed)) fun x7 => bnd (loopF (M.spec_l26DrawTable_l1 a0) (x7.2.1, x7.2.2, x7.1.Races, 0)) fun o => outc o (fun x => some x) (fun s => M.spec_l26DrawTable_a1 a0 x7 s)
def M.spec_l27Draw (a0 : List UInt8) : Option (Table × (List Int) × Int) :=
  bnd (M.spec_l01From a0) fun x5 => bnd (M.spec_l26DrawTable (Src.mk a0 x5.1 x5.2)) fun x11 => bnd (M.spec_l27DrawRule (Src.mk a0 x11.2.1 x11.2.2)) fun x27 => bnd (M.spec_l27DrawBoat (Src.mk a0 x27.2.1 x27.2.2) x11.1) fun x40 => some (x11.1, x27.1, x40.1)
def M.spec_DrawDiscardsOf (a0 : List UInt8) : Option (Table × (List Int) × Int) :=
  bnd (M.spec_l27Draw a0) fun x5 => some (x5.1, x5.2.1, x5.2.2)
def M.laws_FnDiscards_j2 (s_j2 : Bool) : Option Bool :=
  some s_j2
def M.laws_FnDiscards_a1 (x29 : (List Int) × Int) (x36 : Table × (List Int) × Int) (x78 : Int × Int) (x83 : Int × Int) (s_l1 : Int × Int) : Option Bool :=
  ifB (x78.2 == 0) (ifB (x83.2 == 0) (ifB (s_l1.1 == x78.1) (bnd (M.impl_DiscardCount x36.2.1 (x36.1.Points.length : Int)) fun x4080 => M.laws_FnDiscards_j2 (decide ((x29.1.length : Int) ≤ x4080))) (M.laws_FnDiscards_j2 false)) (M.laws_FnDiscards_j2 false)) (M.laws_FnDiscards_j2 false)
def M.laws_FnDiscards_j3 (s_l1 : Int × Int) (s_j3 : Int) : Option (Stp Bool (Int × Int)) :=
  some (.cont (s_j3, w64 (s_l1.2 + 1)))
def M.laws_FnDiscards_j4 (s_l1 : Int × Int) (s_j4 : Int) : Option (Stp Bool (Int × Int)) :=
  M.laws_FnDiscards_j3 s_l1 s_j4
def M.laws_FnDiscards_a2 (s_l1 : Int × Int) (s_l2 : Int) : Option (Stp Bool (Int × Int)) :=
  M.laws_FnDiscards_j4 s_l1 s_l1.1
def M.laws_FnDiscards_j5 (s_l2 : Int) (s_j5 : Bool) : Option (Stp Bool Int) :=
  ifB s_j5 (some (.ret false)) (some (.cont (w64 (s_l2 + 1))))
def M.laws_FnDiscards_l2 (x36 : Table × (List Int) × Int) (x54 : (List Int) × Int) (s_l1 : Int × Int) (s_l2 : Int) : Option (Stp Bool Int) :=
  ifB (decide (s_l2 < (x54.1.length : Int))) (bnd (idx x36.1.Codes s_l1.2) fun x6014 => bnd (idx x6014 x36.2.2) fun x6025 => ifB (x6025 != 7) (bnd (idx x36.1.Points s_l1.2) fun x6033 => bnd (idx x6033 x36.2.2) fun x6044 => bnd (idx x54.1 s_l2) fun x6051 => bnd (idx x36.1.Points x6051) fun x6058 => bnd (idx x6058 x36.2.2) fun x6069 => M.laws_FnDiscards_j5 s_l2 (decide (x6069 < x6044))) (M.laws_FnDiscards_j5 s_l2 false)) (some (.brk s_l2))
def M.laws_FnDiscards_l1 (x36 : Table × (List Int) × Int) (x54 : (List Int) × Int) (s_l1 : Int × Int) : Option (Stp Bool (Int × Int)) :=
  ifB (decide (s_l1.2 < (x36.1.Points.length : Int))) (bnd (M.laws_hasInt x54.1 s_l1.2) fun x5592 => ifB x5592 (bnd (idx x36.1.Points s_l1.2) fun x5598 => bnd (idx x5598 x36.2.2) fun x5609 => M.laws_FnDiscards_j4 s_l1 (w64 (s_l1.1 - x5609))) (bnd (loopF (M.laws_FnDiscards_l2 x36 x54 s_l1) 0) fun o => outc o (fun x => some (.ret x)) (fun s => M.laws_FnDiscards_a2 s_l1 s))) (some (.brk (s_l1.1, s_l1.2)))
def M.laws_FnDiscards_j1 (x29 : (List Int) × Int) (x36 : Table × (List Int) × Int) (x54 : (List Int) × Int) (s_j1 : Bool) : Option Bool :=
  ifB s_j1 (some false) (ifB (x29.2 != 0) (some true) (bnd (M.impl_NetPoints x36.1 x36.2.1 x36.2.2) fun x78 => bnd (M.impl_TotalPoints x36.1 x36.2.2) fun x83 => bnd (loopF (M.laws_FnDiscards_l1 x36 x54) (x83.1, 0)) fun o => outc o (fun x => some x) (fun s => M.laws_FnDiscards_a1 x29 x36 x78 x83 s)))
def M.laws_FnDiscards (a0 : List UInt8) : Option Bool :=
  bnd (M.laws_big a0) fun x3 => ifB x3 (some true) (bnd (M.spec_DrawDiscardsOf a0) fun x9 => bnd (M.impl_DiscardsOf x9.1 x9.2.1 x9.2.2) fun x29 => bnd (M.spec_DrawDiscardsOf a0) fun x36 => bnd (M.spec_DiscardsOf x36.1 x36.2.1 x36.2.2) fun x54 => ifB (x29.2 != x54.2) (M.laws_FnDiscards_j1 x29 x36 x54 true) (bnd (M.laws_likeInts x29.1 x54.1) fun x6079 => M.laws_FnDiscards_j1 x29 x36 x54 (!x6079)))
def M.spec_DrawNetScores (a0 : List UInt8) : Option (Table × (List Int)) :=
  bnd (M.spec_l27Draw a0) fun x5 => some (x5.1, x5.2.1)
def M.laws_FnCounted_a1 (s_l1 : Int) : Option Bool :=
  some true
def M.laws_FnCounted_j3 (s_l1 : Int) (s_j3 : Bool) : Option (Stp Bool Int) :=
  ifB s_j3 (some (.ret false)) (some (.cont (w64 (s_l1 + 1))))
def M.laws_FnCounted_a2 (x29 : (List Int) × Int) (s_l1 : Int) (x287 : (List Int) × Int) (s_l2 : Int × Int) : Option (Stp Bool Int) :=
  ifB (x287.2 != 0) (M.laws_FnCounted_j3 s_l1 true) (bnd (idx x29.1 s_l1) fun x341 => M.laws_FnCounted_j3 s_l1 (s_l2.1 != x341))
def M.laws_FnCounted_l2 (x287 : (List Int) × Int) (s_l2 : Int × Int) : Option (Stp Bool (Int × Int)) :=
  ifB (decide (s_l2.2 < (x287.1.length : Int))) (bnd (idx x287.1 s_l2.2) fun x359 => some (.cont (w64 (s_l2.1 + x359), w64 (s_l2.2 + 1)))) (some (.brk (s_l2.1, s_l2.2)))
def M.laws_FnCounted_l1 (x29 : (List Int) × Int) (x36 : Table × (List Int)) (s_l1 : Int) : Option (Stp Bool Int) :=
  ifB (decide (s_l1 < x36.1.Boats)) (bnd (M.impl_CountedPoints x36.1 x36.2 s_l1) fun x287 => bnd (loopF (M.laws_FnCounted_l2 x287) (0, 0)) fun o => outc o (fun x => some (.ret x)) (fun s => M.laws_FnCounted_a2 x29 s_l1 x287 s)) (some (.brk s_l1))
def M.laws_FnCounted_j2 (x29 : (List Int) × Int) (x36 : Table × (List Int)) (s_j2 : Bool) : Option Bool :=
  ifB s_j2 (some false) (ifB (x29.2 != 0) (some true) (bnd (loopF (M.laws_FnCounted_l1 x29 x36) 0) fun o => outc o (fun x => some x) (fun s => M.laws_FnCounted_a1 s)))
def M.laws_FnCounted_j1 (a0 : List UInt8) (x29 : (List Int) × Int) (x36 : Table × (List Int)) (s_j1 : Bool) : Option Bool :=
  ifB s_j1 (some false) (bnd (M.spec_DrawDiscardCount a0) fun x76 => bnd (M.impl_DiscardCount x76.1 x76.2) fun x83 => bnd (M.spec_DiscardCount x76.1 x76.2) fun x366 => ifB (x83 != x366) (M.laws_FnCounted_j2 x29 x36 true) (ifB (decide (0 ≤ x83)) (ifB (decide (x76.2 < 12)) (bnd (M.impl_DiscardCount x76.1 (w64 (x76.2 + 1))) fun x374 => M.laws_FnCounted_j2 x29 x36 (decide (x374 < x83))) (M.laws_FnCounted_j2 x29 x36 false)) (M.laws_FnCounted_j2 x29 x36 false)))
def M.laws_FnCounted (a0 : List UInt8) : Option Bool :=
  bnd (M.laws_big a0) fun x3 => ifB x3 (some true) (bnd (M.spec_DrawNetScores a0) fun x9 => bnd (M.impl_NetScores x9.1 x9.2) fun x29 => bnd (M.spec_DrawNetScores a0) fun x36 => bnd (M.spec_NetScores x36.1 x36.2) fun x54 => ifB (x29.2 != x54.2) (M.laws_FnCounted_j1 a0 x29 x36 true) (bnd (M.laws_likeInts x29.1 x54.1) fun x380 => M.laws_FnCounted_j1 a0 x29 x36 (!x380)))
def M.spec_l28Draw_j1 (a0 : List UInt8) (x11 : (Table) × (Int × Int)) (s_j1 : Int × Int × (List (List Int))) : Option (Table × (List Int) × Int × Int) :=
  bnd (M.spec_l27DrawRule (Src.mk a0 s_j1.1 s_j1.2.1)) fun x865 => bnd (M.spec_l27DrawBoat (Src.mk a0 x865.2.1 x865.2.2) (Table.mk x11.1.Boats s_j1.2.2 x11.1.Codes)) fun x872 => bnd (M.spec_l27DrawBoat (Src.mk a0 x872.2.1 x872.2.2) (Table.mk x11.1.Boats s_j1.2.2 x11.1.Codes)) fun x883 => some ((Table.mk x11.1.Boats s_j1.2.2 x11.1.Codes), x865.1, x872.1, x883.1)
def M.spec_l28Draw_a1 (a0 : List UInt8) (x11 : (Table) × (Int × Int)) (s_l1 : Int × Int × (List (List Int)) × Int) : Option (Table × (List Int) × Int × Int) :=
  M.spec_l28Draw_j1 a0 x11 (s_l1.1, s_l1.2.1, s_l1.2.2.1)
def M.spec_l28Draw_a2 (s_l1 : Int × Int × (List (List Int)) × Int) (s_l2 : Int × Int × (List (List Int)) × Int) : Option (Stp (Table × (List Int) × Int × Int) (Int × Int × (List (List Int)) × Int)) :=
  some (.cont (s_l2.1, s_l2.2.1, s_l2.2.2.1, w64 (s_l1.2.2.2 + 1)))
def M.spec_l28Draw_l2 (a0 : List UInt8) (s_l1 : Int × Int × (List (List Int)) × Int) (s_l2 : Int × Int × (List (List Int)) × Int) : Option (Stp (Table × (List Int) × Int × Int) (Int × Int × (List (List Int)) × Int)) :=
  bnd (idx s_l2.2.2.1 s_l1.2.2.2) fun x1631 => ifB (decide (s_l2.2.2.2 < (x1631.length : Int))) (bnd (idx s_l2.2.2.1 s_l1.2.2.2) fun x1676 => bnd (M.spec_l01Next (Src.mk a0 s_l2.1 s_l2.2.1) 3) fun x1687 => bnd (idx x1676 s_l2.2.2.2) fun x1692 => some (.cont (x1687.2.1, x1687.2.2, s_l2.2.2.1.set (s_l1.2.2.2 : Int).toNat (x1676.set (s_l2.2.2.2 : Int).toNat (w64 (10 * (w64 (1 + x1687.1))))), w64 (s_l2.2.2.2 + 1)))) (some (.brk (s_l2.1, s_l2.2.1, s_l2.2.2.1, s_l2.2.2.2)))
def M.spec_l28Draw_l1 (a0 : List UInt8) (s_l1 : Int × Int × (List (List Int)) × Int) : Option (Stp (Table × (List Int) × Int × Int) (Int × Int × (List (List Int)) × Int)) :=
  ifB (decide (s_l1.2.2.2 < (s_l1.2.2.1.length : Int))) (bnd (loopF (M.spec_l28Draw_l2 a0 s_l1) (s_l1.1, s_l1.2.1, s_l1.2.2.1, 0)) fun o => outc o (fun x => some (.ret x)) (fun s => M.spec_l28Draw_a2 s_l1 s)) (some (.brk (s_l1.1, s_l1.2.1, s_l1.2.2.1, s_l1.2.2.2)))
def M.spec_l28Draw_j2 (a0 : List UInt8) (x11 : (Table) × (Int × Int)) (s_j2 : Int × Int × Bool) : Option (Table × (List Int) × Int × Int) :=
  ifB s_j2.2.2 (chk (M.spec_IsTable x11.1 = some true) (bnd (loopF (M.spec_l28Draw_l1 a0) (s_j2.1, s_j2.2.1, x11.1.Points, 0)) fun o => outc o (fun x => some x) (fun s => M.spec_l28Draw_a1 a0 x11 s))) (M.spec_l28Draw_j1 a0 x11 (s_j2.1, s_j2.2.1, x11.1.Points))
def M.spec_l28Draw (a0 : List UInt8) : Option (Table × (List Int) × Int × Int) :=
  bnd (M.spec_l01From a0) fun x5 => bnd (M.spec_l26DrawTable (Src.mk a0 x5.1 x5.2)) fun x11 => bnd (M.spec_l01Next (Src.mk a0 x11.2.1 x11.2.2) 2) fun x1797 => ifB (x1797.1 == 0) (bnd (M.spec_IsTable x11.1) fun x1803 => M.spec_l28Draw_j2 a0 x11 (x1797.2.1, x1797.2.2, x1803)) (M.spec_l28Draw_j2 a0 x11 (x1797.2.1, x1797.2.2, false))
def M.spec_DrawCompareBoats (a0 : List UInt8) : Option (Table × (List Int) × Int × Int) :=
  bnd (M.spec_l28Draw a0) fun x5 => some (x5.1, x5.2.1, x5.2.2.1, x5.2.2.2)
def M.laws_FnChain_j3 (s_j3 : Bool) : Option Bool :=
  some s_j3
def M.laws_FnChain_j2 (x29 : Int × Int × Int) (x71 : Int × Int × Int) (x76 : Int × Int) (x81 : Int × Int) (s_j2 : Bool) : Option Bool :=
  ifB s_j2 (some false) (ifB (x71.1 == (w64 (0 - x29.1))) (ifB (x71.2.1 == x29.2.1) (ifB ((x76.1 != x81.1) == (x29.2.1 == 1)) (M.laws_FnChain_j3 ((x29.1 == 0) == (x29.2.1 == 0))) (M.laws_FnChain_j3 false)) (M.laws_FnChain_j3 false)) (M.laws_FnChain_j3 false))
def M.laws_FnChain_j1 (x29 : Int × Int × Int) (x34 : Table × (List Int) × Int × Int) (s_j1 : Bool) : Option Bool :=
  ifB s_j1 (some false) (ifB (x29.2.2 != 0) (some true) (bnd (M.impl_CompareBoats x34.1 x34.2.1 x34.2.2.2 x34.2.2.1) fun x71 => bnd (M.impl_NetPoints x34.1 x34.2.1 x34.2.2.1) fun x76 => bnd (M.impl_NetPoints x34.1 x34.2.1 x34.2.2.2) fun x81 => bnd (M.impl_SortedPoints x34.1 x34.2.1 x34.2.2.1) fun x86 => bnd (M.spec_SortedPoints x34.1 x34.2.1 x34.2.2.1) fun x93 => ifB (x71.2.2 != 0) (M.laws_FnChain_j2 x29 x71 x76 x81 true) (ifB (x76.2 != 0) (M.laws_FnChain_j2 x29 x71 x76 x81 true) (ifB (x81.2 != 0) (M.laws_FnChain_j2 x29 x71 x76 x81 true) (ifB (x86.2 != x93.2) (M.laws_FnChain_j2 x29 x71 x76 x81 true) (bnd (M.laws_likeInts x86.1 x93.1) fun x132 => M.laws_FnChain_j2 x29 x71 x76 x81 (!x132)))))))
def M.laws_FnChain (a0 : List UInt8) : Option Bool :=
  bnd (M.laws_big a0) fun x3 => ifB x3 (some true) (bnd (M.spec_DrawCompareBoats a0) fun x9 => bnd (M.impl_CompareBoats x9.1 x9.2.1 x9.2.2.1 x9.2.2.2) fun x29 => bnd (M.spec_DrawCompareBoats a0) fun x34 => bnd (M.spec_CompareBoats x34.1 x34.2.1 x34.2.2.1 x34.2.2.2) fun x52 => ifB (x29.2.2 != x52.2.2) (M.laws_FnChain_j1 x29 x34 true) (ifB (x29.1 != x52.1) (M.laws_FnChain_j1 x29 x34 true) (M.laws_FnChain_j1 x29 x34 (x29.2.1 != x52.2.1))))
def M.spec_l28DrawTable (a0 : List UInt8) : Option (Table × (List Int)) :=
  bnd (M.spec_l28Draw a0) fun x5 => some (x5.1, x5.2.1)
def M.spec_DrawTiedBoats (a0 : List UInt8) : Option (Table × (List Int)) :=
  bnd (M.spec_l28DrawTable a0) fun x5 => some (x5.1, x5.2)
def M.spec_DrawDecidingRace_j1 (x5 : Table × (List Int) × Int × Int) (s_j1 : (List (List Int))) : Option (Table × (List Int) × Int × Int) :=
  some ((Table.mk x5.1.Boats s_j1 x5.1.Codes), x5.2.1, x5.2.2.1, x5.2.2.2)
def M.spec_DrawDecidingRace_a1 (x5 : Table × (List Int) × Int × Int) (s_l1 : (List (List Int)) × Int) : Option (Table × (List Int) × Int × Int) :=
  M.spec_DrawDecidingRace_j1 x5 s_l1.1
def M.spec_DrawDecidingRace_j3 (x5 : Table × (List Int) × Int × Int) (s_l1 : (List (List Int)) × Int) (s_j3 : Bool) : Option (Stp (Table × (List Int) × Int × Int) ((List (List Int)) × Int)) :=
  ifB s_j3 (bnd (idx s_l1.1 s_l1.2) fun x703 => bnd (idx s_l1.1 (w64 (s_l1.2 + 1))) fun x714 => bnd (idx x714 x5.2.2.1) fun x725 => bnd (idx x703 x5.2.2.2) fun x732 => bnd (idx (s_l1.1.set (s_l1.2 : Int).toNat (x703.set (x5.2.2.2 : Int).toNat x725)) (w64 (s_l1.2 + 1))) fun x750 => bnd (idx (s_l1.1.set (s_l1.2 : Int).toNat (x703.set (x5.2.2.2 : Int).toNat x725)) s_l1.2) fun x761 => bnd (idx x761 x5.2.2.1) fun x772 => bnd (idx x750 x5.2.2.2) fun x779 => some (.cont ((s_l1.1.set (s_l1.2 : Int).toNat (x703.set (x5.2.2.2 : Int).toNat x725)).set (w64 (s_l1.2 + 1) : Int).toNat (x750.set (x5.2.2.2 : Int).toNat x772), w64 (s_l1.2 + 2)))) (some (.brk (s_l1.1, s_l1.2)))
def M.spec_DrawDecidingRace_l1 (x5 : Table × (List Int) × Int × Int) (s_l1 : (List (List Int)) × Int) : Option (Stp (Table × (List Int) × Int × Int) ((List (List Int)) × Int)) :=
  ifB (decide ((w64 (s_l1.2 + 1)) < (s_l1.1.length : Int))) (ifB (decide (0 ≤ x5.2.2.1)) (ifB (decide (0 ≤ x5.2.2.2)) (ifB (decide (x5.2.2.1 < x5.1.Boats)) (M.spec_DrawDecidingRace_j3 x5 s_l1 (decide (x5.2.2.2 < x5.1.Boats))) (M.spec_DrawDecidingRace_j3 x5 s_l1 false)) (M.spec_DrawDecidingRace_j3 x5 s_l1 false)) (M.spec_DrawDecidingRace_j3 x5 s_l1 false)) (M.spec_DrawDecidingRace_j3 x5 s_l1 false)
def M.spec_DrawDecidingRace_j2 (x5 : Table × (List Int) × Int × Int) (s_j2 : Bool) : Option (Table × (List Int) × Int × Int) :=
  ifB s_j2 (chk (M.spec_IsTable x5.1 = some true) (bnd (loopF (M.spec_DrawDecidingRace_l1 x5) (x5.1.Points, 0)) fun o => outc o (fun x => some x) (fun s => M.spec_DrawDecidingRace_a1 x5 s))) (M.spec_DrawDecidingRace_j1 x5 x5.1.Points)
def M.spec_DrawDecidingRace (a0 : List UInt8) : Option (Table × (List Int) × Int × Int) :=
  bnd (M.spec_l28Draw a0) fun x5 => ifB (((a0.length : Int).tmod 2) == 0) (bnd (M.spec_IsTable x5.1) fun x802 => M.spec_DrawDecidingRace_j2 x5 x802) (M.spec_DrawDecidingRace_j2 x5 false)

end Go.Proofs.Ytpobaajdhfoomaa
