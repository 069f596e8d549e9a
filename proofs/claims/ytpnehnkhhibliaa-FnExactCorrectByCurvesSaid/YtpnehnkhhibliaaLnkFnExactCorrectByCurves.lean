/- Links: each Go function returns what its model computes and leaves what was there. Printed by my generator. -/
import Derived.Test.YtpnehnkhhibliaaLnkFnExactCorrectByCurvesA
namespace Go.Proofs.Ytpnehnkhhibliaa
set_option maxRecDepth 10000
open Go Go.RowKit Go.ChangeShapes Go.WideShapes
set_option linter.unusedVariables false
set_option linter.unusedSimpArgs false

theorem M.laws_eqFinishS_ok (w0 : World) (a0 : List Finish) {v1 : Value} (h2 : rdL (· < w0.heap.size) w0 v1 a0) (a1 : List Finish) {v3 : Value} (h4 : rdL (· < w0.heap.size) w0 v3 a1) {r : Bool} (hm : M.laws_eqFinishS a0 a1 = some r) :
    Calls Try.prog 15 #[v1, v3] w0 fun e w' => e = .returned (.bool r) ∧ Fresh w0 w' [] := by
  unfold M.laws_eqFinishS at hm
  refine calls_CW (args := [v1, v3]) Try.func15 rfl rfl rfl ?_
  have hL := Hp.start w0
  refine CW.seq ?_
  refine CW.regionL ?_
  refine OW.cons (OP.val (v := (.bool false)) rfl (x_assign) ?_)
  refine OW.nil ?_
  refine CW.seq ?_
  refine CW.seq ?_
  refine CW.regionL ?_
  refine OW.cons (OP.val (v := v1) rfl (x_move) ?_)
  refine OW.cons (OP.val (v := (.int .i64 (a0.length : Int))) rfl (x_lenR Try.underlying24 rfl (hL.rdS 0 rfl h2)) ?_)
  refine OW.cons (OP.val (v := v3) rfl (x_move) ?_)
  refine OW.cons (OP.val (v := (.int .i64 (a1.length : Int))) rfl (x_lenR Try.underlying24 rfl (hL.rdS 0 rfl h4)) ?_)
  refine OW.cons (OP.val (v := (.bool ((a0.length : Int) != (a1.length : Int)))) rfl (x_neq rfl rfl) ?_)
  refine OW.nil ?_
  refine CW.condM (t := (a0.length : Int) != (a1.length : Int)) rfl hm (fun hb5 hm => ?_) (fun hb5 hm => ?_)
  · refine CW.seq ?_
    refine CW.regionL ?_
    refine OW.cons (OP.val (v := (.bool false)) rfl (x_assign) ?_)
    refine OW.nil ?_
    refine CW.ret ?_
    obtain rfl := Option.some.inj hm
    exact RR1 rfl rfl ⟨rfl, hL.fresh 0 rfl [] (by decide) (by decide) rfl⟩
  · refine CW.skip ?_
    refine CW.seq ?_
    refine CW.seq ?_
    refine CW.regionL ?_
    refine OW.cons (OP.val (v := (.int .i64 0)) rfl (x_assign) ?_)
    refine OW.nil ?_
    obtain ⟨o46, ho47, hm⟩ := bndE hm
    refine CW.loopB (fun (s_l1 : Int) (F : Fr) (w : World) => F 0 = v1 ∧ F 1 = v3 ∧ F 5 = (.int .i64 s_l1) ∧ Hp w0 [Ent.snap w0 w0.heap.size] w) (fun o => outc o (fun x => some x) (fun s => M.laws_eqFinishS_a1 s) = some r) ho47 hm ⟨rfl, rfl, rfl, hL⟩ ?_ ?_
    · intro s_l1 F48 wd49 hJ hm
      have hm := outcE hm
      have hm : M.laws_eqFinishS_a1 s_l1 = some r := hm
      unfold M.laws_eqFinishS_a1 at hm
      obtain ⟨f50, f51, f52, hL⟩ := hJ
      refine CW.seq ?_
      refine CW.regionL ?_
      refine OW.cons (OP.val (v := (.bool true)) rfl (x_assign) ?_)
      refine OW.nil ?_
      refine CW.ret ?_
      obtain rfl := Option.some.inj hm
      exact RR1 rfl rfl ⟨rfl, hL.fresh 0 rfl [] (by decide) (by decide) rfl⟩
    · intro s_l1 F53 wd54 t44 hJ hm hr45
      unfold M.laws_eqFinishS_l1 at hm
      obtain ⟨f55, f56, f57, hL⟩ := hJ
      refine CW.seq ?_
      refine CW.seq ?_
      refine CW.regionL ?_
      refine OW.cons (OP.val (v := (.int .i64 s_l1)) rfl (x_mv f57) ?_)
      refine OW.cons (OP.val (v := v1) rfl (x_mv f55) ?_)
      refine OW.cons (OP.val (v := (.int .i64 (a0.length : Int))) rfl (x_lenR Try.underlying24 rfl (hL.rdS 0 rfl h2)) ?_)
      refine OW.cons (OP.val (v := (.bool (decide (s_l1 < (a0.length : Int))))) rfl (x_lss rfl rfl) ?_)
      refine OW.nil ?_
      refine CW.condM (t := decide (s_l1 < (a0.length : Int))) rfl hm (fun hb58 hm => ?_) (fun hb58 hm => ?_)
      · refine CW.skip ?_
        refine CW.seq ?_
        refine CW.block ?_
        refine CW.seq ?_
        refine CW.draw Try_mixed ?_
        have hL := hL.call (Mod.drew _)
        refine DW.pre (fuel := 0) (fin := (((((((((((Array.replicate 10 false).setIfInBounds 0 true).setIfInBounds 1 true).setIfInBounds 2 true).setIfInBounds 3 true).setIfInBounds 4 true).setIfInBounds 5 true).setIfInBounds 6 true).setIfInBounds 7 true).setIfInBounds 8 true).setIfInBounds 9 true)) (C := fun w' => Mod None_ _ w') [0, 1, 2, 3, 4, 5, 6, 7, 8, 9] (Mod.refl _ _) (by kernel_rfl) (by kernel_rfl) ?_
        refine QW.cons rfl (QP.val (v := v1) rfl (fun w' hm' => x_mv f55) ?_)
        refine QW.cons rfl (QP.val (v := (.int .i64 s_l1)) rfl (fun w' hm' => x_mv f57) ?_)
        obtain ⟨x59, ha60, hm⟩ := bndE hm
        obtain ⟨hz61, ha65⟩ := idxE ha60
        obtain ⟨b62, q63, hix64⟩ := rdL_ix (hL.rdS 0 rfl h2) hz61 ha65
        refine QW.cons rfl (QP.val (v := (.pointer (some ⟨b62, q63, none⟩))) rfl (fun w' hm' => x_ix Try.underlying24 Try_T31 rfl rfl hix64) ?_)
        refine QW.cons rfl (QP.val (v := (.agg #[(.int .i64 x59.Boat), (.int .i64 x59.Code), (.int .i64 x59.Time)])) rfl (fun w' hm' => x_loadN (cs := [(.int .i64 x59.Boat), (.int .i64 x59.Code), (.int .i64 x59.Time)]) Try.underlying31 Try_T31 rfl rfl (rdF_cells ((hL.call hm').rdS 0 rfl h2) hix64 ha65)) ?_)
        refine QW.cons rfl (QP.val (v := v3) rfl (fun w' hm' => x_mv f56) ?_)
        refine QW.cons rfl (QP.val (v := (.int .i64 s_l1)) rfl (fun w' hm' => x_mv f57) ?_)
        obtain ⟨x66, ha67, hm⟩ := bndE hm
        obtain ⟨hz68, ha72⟩ := idxE ha67
        obtain ⟨b69, q70, hix71⟩ := rdL_ix (hL.rdS 0 rfl h4) hz68 ha72
        refine QW.cons rfl (QP.val (v := (.pointer (some ⟨b69, q70, none⟩))) rfl (fun w' hm' => x_ix Try.underlying24 Try_T31 rfl rfl hix71) ?_)
        refine QW.cons rfl (QP.val (v := (.agg #[(.int .i64 x66.Boat), (.int .i64 x66.Code), (.int .i64 x66.Time)])) rfl (fun w' hm' => x_loadN (cs := [(.int .i64 x66.Boat), (.int .i64 x66.Code), (.int .i64 x66.Time)]) Try.underlying31 Try_T31 rfl rfl (rdF_cells ((hL.call hm').rdS 0 rfl h4) hix71 ha72)) ?_)
        obtain ⟨x73, hx74, hm⟩ := bndE hm
        refine QW.cons rfl (QP.call (v := (.bool x73)) rfl (fun w' hm' => x_call (vs := [(.agg #[(.int .i64 x59.Boat), (.int .i64 x59.Code), (.int .i64 x59.Time)]), (.agg #[(.int .i64 x66.Boat), (.int .i64 x66.Code), (.int .i64 x66.Time)])]) Try_C46 ⟨rfl, rfl, trivial⟩) (fun w' hm' => (M.laws_eqFinish_ok w' x59 x66 hx74).mono (fun e w'' h => ⟨h.1, hm'.trans h.2.mod⟩)) ?_)
        refine QW.cons rfl (QP.val (v := (.bool (!x73))) rfl (fun w' hm' => x_not rfl) ?_)
        refine QW.nil ?_
        intro wd75 hmod
        have hL := hL.call hmod
        refine DW.done (by kernel_rfl) ?_
        refine CW.condM (t := !x73) rfl hm (fun hb76 hm => ?_) (fun hb76 hm => ?_)
        · refine CW.seq ?_
          refine CW.regionL ?_
          refine OW.cons (OP.val (v := (.bool false)) rfl (x_assign) ?_)
          refine OW.nil ?_
          refine CW.ret ?_
          obtain rfl := Option.some.inj hm
          have hm := hr45 _ rfl
          obtain rfl := Option.some.inj hm
          exact RR1 rfl rfl ⟨rfl, hL.fresh 0 rfl [] (by decide) (by decide) rfl⟩
        · refine CW.skip ?_
          refine CW.regionL ?_
          refine OW.cons (OP.val (v := (.int .i64 s_l1)) rfl (x_mv f57) ?_)
          refine OW.cons (OP.val (v := (.int .i64 (w64 (s_l1 + 1)))) rfl (x_add rfl rfl) ?_)
          refine OW.cons (OP.val (v := (.int .i64 (w64 (s_l1 + 1)))) rfl (x_assign) ?_)
          refine OW.nil ?_
          obtain rfl := Option.some.inj hm
          exact ⟨_, rfl, ⟨f55, f56, rfl, hL⟩⟩
      · refine CW.exit ?_
        refine XJ.hit ?_
        obtain rfl := Option.some.inj hm
        exact ⟨_, rfl, ⟨f55, f56, f57, hL⟩⟩

theorem M.laws_eqCurvePoint_ok (w0 : World) (a0 : CurvePoint) (a1 : CurvePoint) {r : Bool} (hm : M.laws_eqCurvePoint a0 a1 = some r) :
    Calls Try.prog 53 #[(.agg #[(.int .i64 a0.Wind), (.int .i64 a0.Pace)]), (.agg #[(.int .i64 a1.Wind), (.int .i64 a1.Pace)])] w0 fun e w' => e = .returned (.bool r) ∧ Fresh w0 w' [] := by
  unfold M.laws_eqCurvePoint at hm
  refine calls_CW (args := [(.agg #[(.int .i64 a0.Wind), (.int .i64 a0.Pace)]), (.agg #[(.int .i64 a1.Wind), (.int .i64 a1.Pace)])]) Try.func53 rfl rfl rfl ?_
  have hL := Hp.start w0
  refine CW.seq ?_
  refine CW.regionL ?_
  refine OW.cons (S_box (cs := #[(.int .i64 a0.Wind), (.int .i64 a0.Pace)]) hL rfl rfl rfl ?_)
  intro wd1 b2 hL
  refine OW.cons (S_box (cs := #[(.int .i64 a1.Wind), (.int .i64 a1.Pace)]) hL rfl rfl rfl ?_)
  intro wd3 b4 hL
  refine OW.cons (OP.val (v := (.bool false)) rfl (x_assign) ?_)
  refine OW.nil ?_
  refine CW.seq ?_
  refine CW.seq ?_
  refine CW.regionL ?_
  refine OW.cons (OP.val (v := (.pointer (some ⟨b2, 0, none⟩))) rfl (x_fieldAddr (fsz := 1) 0 0 0 Try.underlying62 rfl Try_T2 rfl rfl rfl) ?_)
  refine OW.cons (OP.val (v := (.int .i64 a0.Wind)) rfl (x_load1 Try.underlying2 rfl rfl (hL.cellB 1 rfl rfl)) ?_)
  refine OW.cons (OP.val (v := (.pointer (some ⟨b4, 0, none⟩))) rfl (x_fieldAddr (fsz := 1) 0 0 0 Try.underlying62 rfl Try_T2 rfl rfl rfl) ?_)
  refine OW.cons (OP.val (v := (.int .i64 a1.Wind)) rfl (x_load1 Try.underlying2 rfl rfl (hL.cellB 0 rfl rfl)) ?_)
  refine OW.cons (OP.val (v := (.bool (a0.Wind != a1.Wind))) rfl (x_neq rfl rfl) ?_)
  refine OW.nil ?_
  refine CW.condM (t := a0.Wind != a1.Wind) rfl hm (fun hb5 hm => ?_) (fun hb5 hm => ?_)
  · refine CW.seq ?_
    refine CW.regionL ?_
    refine OW.cons (OP.val (v := (.bool false)) rfl (x_assign) ?_)
    refine OW.nil ?_
    refine CW.ret ?_
    obtain rfl := Option.some.inj hm
    exact RR1 rfl rfl ⟨rfl, hL.fresh 2 rfl [] (by decide) (by decide) rfl⟩
  · refine CW.skip ?_
    refine CW.seq ?_
    refine CW.seq ?_
    refine CW.regionL ?_
    refine OW.cons (OP.val (v := (.pointer (some ⟨b2, 1, none⟩))) rfl (x_fieldAddr (fsz := 1) 0 1 1 Try.underlying62 rfl Try_T2 rfl rfl rfl) ?_)
    refine OW.cons (OP.val (v := (.int .i64 a0.Pace)) rfl (x_load1 Try.underlying2 rfl rfl (hL.cellB 1 rfl rfl)) ?_)
    refine OW.cons (OP.val (v := (.pointer (some ⟨b4, 1, none⟩))) rfl (x_fieldAddr (fsz := 1) 0 1 1 Try.underlying62 rfl Try_T2 rfl rfl rfl) ?_)
    refine OW.cons (OP.val (v := (.int .i64 a1.Pace)) rfl (x_load1 Try.underlying2 rfl rfl (hL.cellB 0 rfl rfl)) ?_)
    refine OW.cons (OP.val (v := (.bool (a0.Pace != a1.Pace))) rfl (x_neq rfl rfl) ?_)
    refine OW.nil ?_
    refine CW.condM (t := a0.Pace != a1.Pace) rfl hm (fun hb6 hm => ?_) (fun hb6 hm => ?_)
    · refine CW.seq ?_
      refine CW.regionL ?_
      refine OW.cons (OP.val (v := (.bool false)) rfl (x_assign) ?_)
      refine OW.nil ?_
      refine CW.ret ?_
      obtain rfl := Option.some.inj hm
      exact RR1 rfl rfl ⟨rfl, hL.fresh 2 rfl [] (by decide) (by decide) rfl⟩
    · refine CW.skip ?_
      refine CW.seq ?_
      refine CW.regionL ?_
      refine OW.cons (OP.val (v := (.bool true)) rfl (x_assign) ?_)
      refine OW.nil ?_
      refine CW.ret ?_
      obtain rfl := Option.some.inj hm
      exact RR1 rfl rfl ⟨rfl, hL.fresh 2 rfl [] (by decide) (by decide) rfl⟩

theorem M.laws_eqCurvePointS_ok (w0 : World) (a0 : List CurvePoint) {v1 : Value} (h2 : rdL (· < w0.heap.size) w0 v1 a0) (a1 : List CurvePoint) {v3 : Value} (h4 : rdL (· < w0.heap.size) w0 v3 a1) {r : Bool} (hm : M.laws_eqCurvePointS a0 a1 = some r) :
    Calls Try.prog 24 #[v1, v3] w0 fun e w' => e = .returned (.bool r) ∧ Fresh w0 w' [] := by
  unfold M.laws_eqCurvePointS at hm
  refine calls_CW (args := [v1, v3]) Try.func24 rfl rfl rfl ?_
  have hL := Hp.start w0
  refine CW.seq ?_
  refine CW.regionL ?_
  refine OW.cons (OP.val (v := (.bool false)) rfl (x_assign) ?_)
  refine OW.nil ?_
  refine CW.seq ?_
  refine CW.seq ?_
  refine CW.regionL ?_
  refine OW.cons (OP.val (v := v1) rfl (x_move) ?_)
  refine OW.cons (OP.val (v := (.int .i64 (a0.length : Int))) rfl (x_lenR Try.underlying34 rfl (hL.rdS 0 rfl h2)) ?_)
  refine OW.cons (OP.val (v := v3) rfl (x_move) ?_)
  refine OW.cons (OP.val (v := (.int .i64 (a1.length : Int))) rfl (x_lenR Try.underlying34 rfl (hL.rdS 0 rfl h4)) ?_)
  refine OW.cons (OP.val (v := (.bool ((a0.length : Int) != (a1.length : Int)))) rfl (x_neq rfl rfl) ?_)
  refine OW.nil ?_
  refine CW.condM (t := (a0.length : Int) != (a1.length : Int)) rfl hm (fun hb5 hm => ?_) (fun hb5 hm => ?_)
  · refine CW.seq ?_
    refine CW.regionL ?_
    refine OW.cons (OP.val (v := (.bool false)) rfl (x_assign) ?_)
    refine OW.nil ?_
    refine CW.ret ?_
    obtain rfl := Option.some.inj hm
    exact RR1 rfl rfl ⟨rfl, hL.fresh 0 rfl [] (by decide) (by decide) rfl⟩
  · refine CW.skip ?_
    refine CW.seq ?_
    refine CW.seq ?_
    refine CW.regionL ?_
    refine OW.cons (OP.val (v := (.int .i64 0)) rfl (x_assign) ?_)
    refine OW.nil ?_
    obtain ⟨o46, ho47, hm⟩ := bndE hm
    refine CW.loopB (fun (s_l1 : Int) (F : Fr) (w : World) => F 0 = v1 ∧ F 1 = v3 ∧ F 5 = (.int .i64 s_l1) ∧ Hp w0 [Ent.snap w0 w0.heap.size] w) (fun o => outc o (fun x => some x) (fun s => M.laws_eqCurvePointS_a1 s) = some r) ho47 hm ⟨rfl, rfl, rfl, hL⟩ ?_ ?_
    · intro s_l1 F48 wd49 hJ hm
      have hm := outcE hm
      have hm : M.laws_eqCurvePointS_a1 s_l1 = some r := hm
      unfold M.laws_eqCurvePointS_a1 at hm
      obtain ⟨f50, f51, f52, hL⟩ := hJ
      refine CW.seq ?_
      refine CW.regionL ?_
      refine OW.cons (OP.val (v := (.bool true)) rfl (x_assign) ?_)
      refine OW.nil ?_
      refine CW.ret ?_
      obtain rfl := Option.some.inj hm
      exact RR1 rfl rfl ⟨rfl, hL.fresh 0 rfl [] (by decide) (by decide) rfl⟩
    · intro s_l1 F53 wd54 t44 hJ hm hr45
      unfold M.laws_eqCurvePointS_l1 at hm
      obtain ⟨f55, f56, f57, hL⟩ := hJ
      refine CW.seq ?_
      refine CW.seq ?_
      refine CW.regionL ?_
      refine OW.cons (OP.val (v := (.int .i64 s_l1)) rfl (x_mv f57) ?_)
      refine OW.cons (OP.val (v := v1) rfl (x_mv f55) ?_)
      refine OW.cons (OP.val (v := (.int .i64 (a0.length : Int))) rfl (x_lenR Try.underlying34 rfl (hL.rdS 0 rfl h2)) ?_)
      refine OW.cons (OP.val (v := (.bool (decide (s_l1 < (a0.length : Int))))) rfl (x_lss rfl rfl) ?_)
      refine OW.nil ?_
      refine CW.condM (t := decide (s_l1 < (a0.length : Int))) rfl hm (fun hb58 hm => ?_) (fun hb58 hm => ?_)
      · refine CW.skip ?_
        refine CW.seq ?_
        refine CW.block ?_
        refine CW.seq ?_
        refine CW.draw Try_mixed ?_
        have hL := hL.call (Mod.drew _)
        refine DW.pre (fuel := 0) (fin := (((((((((((Array.replicate 10 false).setIfInBounds 0 true).setIfInBounds 1 true).setIfInBounds 2 true).setIfInBounds 3 true).setIfInBounds 4 true).setIfInBounds 5 true).setIfInBounds 6 true).setIfInBounds 7 true).setIfInBounds 8 true).setIfInBounds 9 true)) (C := fun w' => Mod None_ _ w') [0, 1, 2, 3, 4, 5, 6, 7, 8, 9] (Mod.refl _ _) (by kernel_rfl) (by kernel_rfl) ?_
        refine QW.cons rfl (QP.val (v := v1) rfl (fun w' hm' => x_mv f55) ?_)
        refine QW.cons rfl (QP.val (v := (.int .i64 s_l1)) rfl (fun w' hm' => x_mv f57) ?_)
        obtain ⟨x59, ha60, hm⟩ := bndE hm
        obtain ⟨hz61, ha65⟩ := idxE ha60
        obtain ⟨b62, q63, hix64⟩ := rdL_ix (hL.rdS 0 rfl h2) hz61 ha65
        refine QW.cons rfl (QP.val (v := (.pointer (some ⟨b62, q63, none⟩))) rfl (fun w' hm' => x_ix Try.underlying34 Try_T62 rfl rfl hix64) ?_)
        refine QW.cons rfl (QP.val (v := (.agg #[(.int .i64 x59.Wind), (.int .i64 x59.Pace)])) rfl (fun w' hm' => x_loadN (cs := [(.int .i64 x59.Wind), (.int .i64 x59.Pace)]) Try.underlying62 Try_T62 rfl rfl (rdF_cells ((hL.call hm').rdS 0 rfl h2) hix64 ha65)) ?_)
        refine QW.cons rfl (QP.val (v := v3) rfl (fun w' hm' => x_mv f56) ?_)
        refine QW.cons rfl (QP.val (v := (.int .i64 s_l1)) rfl (fun w' hm' => x_mv f57) ?_)
        obtain ⟨x66, ha67, hm⟩ := bndE hm
        obtain ⟨hz68, ha72⟩ := idxE ha67
        obtain ⟨b69, q70, hix71⟩ := rdL_ix (hL.rdS 0 rfl h4) hz68 ha72
        refine QW.cons rfl (QP.val (v := (.pointer (some ⟨b69, q70, none⟩))) rfl (fun w' hm' => x_ix Try.underlying34 Try_T62 rfl rfl hix71) ?_)
        refine QW.cons rfl (QP.val (v := (.agg #[(.int .i64 x66.Wind), (.int .i64 x66.Pace)])) rfl (fun w' hm' => x_loadN (cs := [(.int .i64 x66.Wind), (.int .i64 x66.Pace)]) Try.underlying62 Try_T62 rfl rfl (rdF_cells ((hL.call hm').rdS 0 rfl h4) hix71 ha72)) ?_)
        obtain ⟨x73, hx74, hm⟩ := bndE hm
        refine QW.cons rfl (QP.call (v := (.bool x73)) rfl (fun w' hm' => x_call (vs := [(.agg #[(.int .i64 x59.Wind), (.int .i64 x59.Pace)]), (.agg #[(.int .i64 x66.Wind), (.int .i64 x66.Pace)])]) Try_C53 ⟨rfl, rfl, trivial⟩) (fun w' hm' => (M.laws_eqCurvePoint_ok w' x59 x66 hx74).mono (fun e w'' h => ⟨h.1, hm'.trans h.2.mod⟩)) ?_)
        refine QW.cons rfl (QP.val (v := (.bool (!x73))) rfl (fun w' hm' => x_not rfl) ?_)
        refine QW.nil ?_
        intro wd75 hmod
        have hL := hL.call hmod
        refine DW.done (by kernel_rfl) ?_
        refine CW.condM (t := !x73) rfl hm (fun hb76 hm => ?_) (fun hb76 hm => ?_)
        · refine CW.seq ?_
          refine CW.regionL ?_
          refine OW.cons (OP.val (v := (.bool false)) rfl (x_assign) ?_)
          refine OW.nil ?_
          refine CW.ret ?_
          obtain rfl := Option.some.inj hm
          have hm := hr45 _ rfl
          obtain rfl := Option.some.inj hm
          exact RR1 rfl rfl ⟨rfl, hL.fresh 0 rfl [] (by decide) (by decide) rfl⟩
        · refine CW.skip ?_
          refine CW.regionL ?_
          refine OW.cons (OP.val (v := (.int .i64 s_l1)) rfl (x_mv f57) ?_)
          refine OW.cons (OP.val (v := (.int .i64 (w64 (s_l1 + 1)))) rfl (x_add rfl rfl) ?_)
          refine OW.cons (OP.val (v := (.int .i64 (w64 (s_l1 + 1)))) rfl (x_assign) ?_)
          refine OW.nil ?_
          obtain rfl := Option.some.inj hm
          exact ⟨_, rfl, ⟨f55, f56, rfl, hL⟩⟩
      · refine CW.exit ?_
        refine XJ.hit ?_
        obtain rfl := Option.some.inj hm
        exact ⟨_, rfl, ⟨f55, f56, f57, hL⟩⟩

theorem M.laws_eqCurvePointSS_ok (w0 : World) (a0 : List (List CurvePoint)) {v1 : Value} (h2 : rdL (· < w0.heap.size) w0 v1 a0) (a1 : List (List CurvePoint)) {v3 : Value} (h4 : rdL (· < w0.heap.size) w0 v3 a1) {r : Bool} (hm : M.laws_eqCurvePointSS a0 a1 = some r) :
    Calls Try.prog 16 #[v1, v3] w0 fun e w' => e = .returned (.bool r) ∧ Fresh w0 w' [] := by
  unfold M.laws_eqCurvePointSS at hm
  refine calls_CW (args := [v1, v3]) Try.func16 rfl rfl rfl ?_
  have hL := Hp.start w0
  refine CW.seq ?_
  refine CW.regionL ?_
  refine OW.cons (OP.val (v := (.bool false)) rfl (x_assign) ?_)
  refine OW.nil ?_
  refine CW.seq ?_
  refine CW.seq ?_
  refine CW.regionL ?_
  refine OW.cons (OP.val (v := v1) rfl (x_move) ?_)
  refine OW.cons (OP.val (v := (.int .i64 (a0.length : Int))) rfl (x_lenR Try.underlying25 rfl (hL.rdS 0 rfl h2)) ?_)
  refine OW.cons (OP.val (v := v3) rfl (x_move) ?_)
  refine OW.cons (OP.val (v := (.int .i64 (a1.length : Int))) rfl (x_lenR Try.underlying25 rfl (hL.rdS 0 rfl h4)) ?_)
  refine OW.cons (OP.val (v := (.bool ((a0.length : Int) != (a1.length : Int)))) rfl (x_neq rfl rfl) ?_)
  refine OW.nil ?_
  refine CW.condM (t := (a0.length : Int) != (a1.length : Int)) rfl hm (fun hb5 hm => ?_) (fun hb5 hm => ?_)
  · refine CW.seq ?_
    refine CW.regionL ?_
    refine OW.cons (OP.val (v := (.bool false)) rfl (x_assign) ?_)
    refine OW.nil ?_
    refine CW.ret ?_
    obtain rfl := Option.some.inj hm
    exact RR1 rfl rfl ⟨rfl, hL.fresh 0 rfl [] (by decide) (by decide) rfl⟩
  · refine CW.skip ?_
    refine CW.seq ?_
    refine CW.seq ?_
    refine CW.regionL ?_
    refine OW.cons (OP.val (v := (.int .i64 0)) rfl (x_assign) ?_)
    refine OW.nil ?_
    obtain ⟨o62, ho63, hm⟩ := bndE hm
    refine CW.loopB (fun (s_l1 : Int) (F : Fr) (w : World) => F 0 = v1 ∧ F 1 = v3 ∧ F 5 = (.int .i64 s_l1) ∧ Hp w0 [Ent.snap w0 w0.heap.size] w) (fun o => outc o (fun x => some x) (fun s => M.laws_eqCurvePointSS_a1 s) = some r) ho63 hm ⟨rfl, rfl, rfl, hL⟩ ?_ ?_
    · intro s_l1 F64 wd65 hJ hm
      have hm := outcE hm
      have hm : M.laws_eqCurvePointSS_a1 s_l1 = some r := hm
      unfold M.laws_eqCurvePointSS_a1 at hm
      obtain ⟨f66, f67, f68, hL⟩ := hJ
      refine CW.seq ?_
      refine CW.regionL ?_
      refine OW.cons (OP.val (v := (.bool true)) rfl (x_assign) ?_)
      refine OW.nil ?_
      refine CW.ret ?_
      obtain rfl := Option.some.inj hm
      exact RR1 rfl rfl ⟨rfl, hL.fresh 0 rfl [] (by decide) (by decide) rfl⟩
    · intro s_l1 F69 wd70 t60 hJ hm hr61
      unfold M.laws_eqCurvePointSS_l1 at hm
      obtain ⟨f71, f72, f73, hL⟩ := hJ
      refine CW.seq ?_
      refine CW.seq ?_
      refine CW.regionL ?_
      refine OW.cons (OP.val (v := (.int .i64 s_l1)) rfl (x_mv f73) ?_)
      refine OW.cons (OP.val (v := v1) rfl (x_mv f71) ?_)
      refine OW.cons (OP.val (v := (.int .i64 (a0.length : Int))) rfl (x_lenR Try.underlying25 rfl (hL.rdS 0 rfl h2)) ?_)
      refine OW.cons (OP.val (v := (.bool (decide (s_l1 < (a0.length : Int))))) rfl (x_lss rfl rfl) ?_)
      refine OW.nil ?_
      refine CW.condM (t := decide (s_l1 < (a0.length : Int))) rfl hm (fun hb74 hm => ?_) (fun hb74 hm => ?_)
      · refine CW.skip ?_
        refine CW.seq ?_
        refine CW.block ?_
        refine CW.seq ?_
        refine CW.draw Try_mixed ?_
        have hL := hL.call (Mod.drew _)
        refine DW.pre (fuel := 0) (fin := (((((((((((Array.replicate 10 false).setIfInBounds 0 true).setIfInBounds 1 true).setIfInBounds 2 true).setIfInBounds 3 true).setIfInBounds 4 true).setIfInBounds 5 true).setIfInBounds 6 true).setIfInBounds 7 true).setIfInBounds 8 true).setIfInBounds 9 true)) (C := fun w' => Mod None_ _ w') [0, 1, 2, 3, 4, 5, 6, 7, 8, 9] (Mod.refl _ _) (by kernel_rfl) (by kernel_rfl) ?_
        refine QW.cons rfl (QP.val (v := v1) rfl (fun w' hm' => x_mv f71) ?_)
        refine QW.cons rfl (QP.val (v := (.int .i64 s_l1)) rfl (fun w' hm' => x_mv f73) ?_)
        obtain ⟨x75, ha76, hm⟩ := bndE hm
        obtain ⟨hz77, ha85⟩ := idxE ha76
        obtain ⟨b78, q79, v80, hix81, hs82, hc83, hr84⟩ := rdN_at h2 hz77 ha85
        refine QW.cons rfl (QP.val (v := (.pointer (some ⟨b78, q79, none⟩))) rfl (fun w' hm' => x_ix Try.underlying25 Try_T34 rfl rfl hix81) ?_)
        refine QW.cons rfl (QP.val (v := v80) rfl (fun w' hm' => x_load1 Try.underlying34 rfl rfl ((hL.call hm').cellS 0 rfl hs82 hc83)) ?_)
        refine QW.cons rfl (QP.val (v := v3) rfl (fun w' hm' => x_mv f72) ?_)
        refine QW.cons rfl (QP.val (v := (.int .i64 s_l1)) rfl (fun w' hm' => x_mv f73) ?_)
        obtain ⟨x86, ha87, hm⟩ := bndE hm
        obtain ⟨hz88, ha96⟩ := idxE ha87
        obtain ⟨b89, q90, v91, hix92, hs93, hc94, hr95⟩ := rdN_at h4 hz88 ha96
        refine QW.cons rfl (QP.val (v := (.pointer (some ⟨b89, q90, none⟩))) rfl (fun w' hm' => x_ix Try.underlying25 Try_T34 rfl rfl hix92) ?_)
        refine QW.cons rfl (QP.val (v := v91) rfl (fun w' hm' => x_load1 Try.underlying34 rfl rfl ((hL.call hm').cellS 0 rfl hs93 hc94)) ?_)
        obtain ⟨x97, hx98, hm⟩ := bndE hm
        refine QW.cons rfl (QP.call (v := (.bool x97)) rfl (fun w' hm' => x_call (vs := [v80, v91]) Try_C24 ⟨rfl, rfl, trivial⟩) (fun w' hm' => (M.laws_eqCurvePointS_ok w' x75 ((hL.call hm').rdS 0 rfl hr84) x86 ((hL.call hm').rdS 0 rfl hr95) hx98).mono (fun e w'' h => ⟨h.1, hm'.trans h.2.mod⟩)) ?_)
        refine QW.cons rfl (QP.val (v := (.bool (!x97))) rfl (fun w' hm' => x_not rfl) ?_)
        refine QW.nil ?_
        intro wd99 hmod
        have hL := hL.call hmod
        refine DW.done (by kernel_rfl) ?_
        refine CW.condM (t := !x97) rfl hm (fun hb100 hm => ?_) (fun hb100 hm => ?_)
        · refine CW.seq ?_
          refine CW.regionL ?_
          refine OW.cons (OP.val (v := (.bool false)) rfl (x_assign) ?_)
          refine OW.nil ?_
          refine CW.ret ?_
          obtain rfl := Option.some.inj hm
          have hm := hr61 _ rfl
          obtain rfl := Option.some.inj hm
          exact RR1 rfl rfl ⟨rfl, hL.fresh 0 rfl [] (by decide) (by decide) rfl⟩
        · refine CW.skip ?_
          refine CW.regionL ?_
          refine OW.cons (OP.val (v := (.int .i64 s_l1)) rfl (x_mv f73) ?_)
          refine OW.cons (OP.val (v := (.int .i64 (w64 (s_l1 + 1)))) rfl (x_add rfl rfl) ?_)
          refine OW.cons (OP.val (v := (.int .i64 (w64 (s_l1 + 1)))) rfl (x_assign) ?_)
          refine OW.nil ?_
          obtain rfl := Option.some.inj hm
          exact ⟨_, rfl, ⟨f71, f72, rfl, hL⟩⟩
      · refine CW.exit ?_
        refine XJ.hit ?_
        obtain rfl := Option.some.inj hm
        exact ⟨_, rfl, ⟨f71, f72, f73, hL⟩⟩

theorem M.laws_markFinishS_ok (w0 : World) {E4 : TypeId} {S2 : Nat → Prop} {v1 : Value} (a0 : List Finish) (he3 : (Ent.own E4 S2 v1 a0).H w0) (a1 : Int) {r : (Int) × (List Finish)} (hm : M.laws_markFinishS a0 a1 = some r) :
    Calls Try.prog 17 #[v1, (.int .i64 a1)] w0 fun e w' => ∃ (ioS : Nat → Prop), e = .returned (.int .i64 r.1) ∧ Mut w0 w' (Ent.own E4 S2 v1 a0).S [Ent.own E4 ioS v1 r.2] := by
  unfold M.laws_markFinishS at hm
  refine calls_CW (args := [v1, (.int .i64 a1)]) Try.func17 rfl rfl rfl ?_
  have hL := Hp.startIO he3
  refine CW.seq ?_
  refine CW.regionL ?_
  refine OW.cons (OP.val (v := (.int .i64 0)) rfl (x_assign) ?_)
  refine OW.nil ?_
  refine CW.seq ?_
  refine CW.seq ?_
  refine CW.regionL ?_
  refine OW.cons (OP.val (v := (.int .i64 0)) rfl (x_assign) ?_)
  refine OW.nil ?_
  obtain ⟨o59, ho60, hm⟩ := bndE hm
  refine CW.loopB (fun (s_l1 : (List Finish) × Int × Int) (F : Fr) (w : World) => ∃ (S56 : Nat → Prop), F 0 = v1 ∧ F 1 = (.int .i64 s_l1.2.1) ∧ F 5 = (.int .i64 s_l1.2.2) ∧ Hp w0 [Ent.own E4 S56 v1 s_l1.1, Ent.frz w0 (Ent.own E4 S2 v1 a0).S] w) (fun o => outc o (fun x => some x) (fun s => M.laws_markFinishS_a1 s) = some r) ho60 hm ⟨S2, rfl, rfl, rfl, hL⟩ ?_ ?_
  · intro s_l1 F61 wd62 hJ hm
    have hm := outcE hm
    have hm : M.laws_markFinishS_a1 s_l1 = some r := hm
    unfold M.laws_markFinishS_a1 at hm
    obtain ⟨S56, f63, f64, f65, hL⟩ := hJ
    refine CW.seq ?_
    refine CW.regionL ?_
    refine OW.cons (OP.val (v := (.int .i64 s_l1.2.1)) rfl (x_mv f64) ?_)
    refine OW.cons (OP.val (v := (.int .i64 s_l1.2.1)) rfl (x_assign) ?_)
    refine OW.nil ?_
    refine CW.ret ?_
    obtain rfl := Option.some.inj hm
    exact RR1 rfl rfl ⟨S56, rfl, hL.mutOut 1 rfl [0] (by decide) (by decide) rfl⟩
  · intro s_l1 F66 wd67 t57 hJ hm hr58
    unfold M.laws_markFinishS_l1 at hm
    obtain ⟨S56, f68, f69, f70, hL⟩ := hJ
    refine CW.seq ?_
    refine CW.seq ?_
    refine CW.regionL ?_
    refine OW.cons (OP.val (v := (.int .i64 s_l1.2.2)) rfl (x_mv f70) ?_)
    refine OW.cons (OP.val (v := v1) rfl (x_mv f68) ?_)
    refine OW.cons (OP.val (v := (.int .i64 (s_l1.1.length : Int))) rfl (x_lenR Try.underlying24 rfl (hL.rdO 0 rfl)) ?_)
    refine OW.cons (OP.val (v := (.bool (decide (s_l1.2.2 < (s_l1.1.length : Int))))) rfl (x_lss rfl rfl) ?_)
    refine OW.nil ?_
    refine CW.condM (t := decide (s_l1.2.2 < (s_l1.1.length : Int))) rfl hm (fun hb71 hm => ?_) (fun hb71 hm => ?_)
    · refine CW.skip ?_
      refine CW.seq ?_
      refine CW.block ?_
      refine CW.seq ?_
      refine CW.regionL ?_
      refine OW.cons (OP.val (v := v1) rfl (x_mv f68) ?_)
      refine OW.cons (OP.val (v := (.int .i64 s_l1.2.2)) rfl (x_mv f70) ?_)
      refine OW.cons (OP.val (v := (.int .i64 s_l1.2.1)) rfl (x_mv f69) ?_)
      obtain ⟨x72, ha73, hm⟩ := bndE hm
      obtain ⟨hz74, ha78⟩ := idxE ha73
      obtain ⟨b75, q76, hix77⟩ := rdL_ix (hL.rdO 0 rfl) hz74 ha78
      refine OW.cons (OP.val (v := (.pointer (some ⟨b75, q76, none⟩))) rfl (x_ix Try.underlying24 Try_T31 rfl rfl hix77) ?_)
      refine OW.cons (OP.val (v := (.pointer (some ⟨b75, q76, none⟩))) rfl (x_fieldAddr (fsz := 1) q76 0 q76 Try.underlying31 rfl Try_T2 rfl rfl rfl) ?_)
      refine OW.cons (S_storeX (j := 0) (Finish.mk s_l1.2.1 x72.Code x72.Time) hL 0 rfl Try_T2 hix77 ha78 rfl rfl rfl rfl rfl rfl ?_)
      intro wd79 hL
      refine OW.nil ?_
      refine CW.seq ?_
      refine CW.regionL ?_
      refine OW.cons (OP.val (v := (.int .i64 s_l1.2.1)) rfl (x_mv f69) ?_)
      refine OW.cons (OP.val (v := (.int .i64 (w64 (s_l1.2.1 + 1)))) rfl (x_add rfl rfl) ?_)
      refine OW.cons (OP.val (v := (.int .i64 (w64 (s_l1.2.1 + 1)))) rfl (x_assign) ?_)
      refine OW.nil ?_
      refine CW.seq ?_
      refine CW.regionL ?_
      refine OW.cons (OP.val (v := v1) rfl (x_mv f68) ?_)
      refine OW.cons (OP.val (v := (.int .i64 s_l1.2.2)) rfl (x_mv f70) ?_)
      refine OW.cons (OP.val (v := (.int .i64 (w64 (s_l1.2.1 + 1)))) rfl (x_move) ?_)
      obtain ⟨x80, ha81, hm⟩ := bndE hm
      obtain ⟨hz82, ha86⟩ := idxE ha81
      obtain ⟨b83, q84, hix85⟩ := rdL_ix (hL.rdO 0 rfl) hz82 ha86
      refine OW.cons (OP.val (v := (.pointer (some ⟨b83, q84, none⟩))) rfl (x_ix Try.underlying24 Try_T31 rfl rfl hix85) ?_)
      refine OW.cons (OP.val (v := (.pointer (some ⟨b83, q84 + 1, none⟩))) rfl (x_fieldAddr (fsz := 1) q84 1 (q84 + 1) Try.underlying31 rfl Try_T2 rfl rfl rfl) ?_)
      refine OW.cons (S_storeX (j := 1) (Finish.mk x80.Boat (w64 (s_l1.2.1 + 1)) x80.Time) hL 0 rfl Try_T2 hix85 ha86 rfl rfl rfl rfl rfl rfl ?_)
      intro wd87 hL
      refine OW.nil ?_
      refine CW.seq ?_
      refine CW.regionL ?_
      refine OW.cons (OP.val (v := (.int .i64 (w64 (s_l1.2.1 + 1)))) rfl (x_move) ?_)
      refine OW.cons (OP.val (v := (.int .i64 (w64 ((w64 (s_l1.2.1 + 1)) + 1)))) rfl (x_add rfl rfl) ?_)
      refine OW.cons (OP.val (v := (.int .i64 (w64 ((w64 (s_l1.2.1 + 1)) + 1)))) rfl (x_assign) ?_)
      refine OW.nil ?_
      refine CW.seq ?_
      refine CW.regionL ?_
      refine OW.cons (OP.val (v := v1) rfl (x_mv f68) ?_)
      refine OW.cons (OP.val (v := (.int .i64 s_l1.2.2)) rfl (x_mv f70) ?_)
      refine OW.cons (OP.val (v := (.int .i64 (w64 ((w64 (s_l1.2.1 + 1)) + 1)))) rfl (x_move) ?_)
      obtain ⟨x88, ha89, hm⟩ := bndE hm
      obtain ⟨hz90, ha94⟩ := idxE ha89
      obtain ⟨b91, q92, hix93⟩ := rdL_ix (hL.rdO 0 rfl) hz90 ha94
      refine OW.cons (OP.val (v := (.pointer (some ⟨b91, q92, none⟩))) rfl (x_ix Try.underlying24 Try_T31 rfl rfl hix93) ?_)
      refine OW.cons (OP.val (v := (.pointer (some ⟨b91, q92 + 2, none⟩))) rfl (x_fieldAddr (fsz := 1) q92 2 (q92 + 2) Try.underlying31 rfl Try_T2 rfl rfl rfl) ?_)
      refine OW.cons (S_storeX (j := 2) (Finish.mk x88.Boat x88.Code (w64 ((w64 (s_l1.2.1 + 1)) + 1))) hL 0 rfl Try_T2 hix93 ha94 rfl rfl rfl rfl rfl rfl ?_)
      intro wd95 hL
      refine OW.nil ?_
      refine CW.regionL ?_
      refine OW.cons (OP.val (v := (.int .i64 (w64 ((w64 (s_l1.2.1 + 1)) + 1)))) rfl (x_move) ?_)
      refine OW.cons (OP.val (v := (.int .i64 (w64 ((w64 ((w64 (s_l1.2.1 + 1)) + 1)) + 1)))) rfl (x_add rfl rfl) ?_)
      refine OW.cons (OP.val (v := (.int .i64 (w64 ((w64 ((w64 (s_l1.2.1 + 1)) + 1)) + 1)))) rfl (x_assign) ?_)
      refine OW.nil ?_
      refine CW.regionL ?_
      refine OW.cons (OP.val (v := (.int .i64 s_l1.2.2)) rfl (x_mv f70) ?_)
      refine OW.cons (OP.val (v := (.int .i64 (w64 (s_l1.2.2 + 1)))) rfl (x_add rfl rfl) ?_)
      refine OW.cons (OP.val (v := (.int .i64 (w64 (s_l1.2.2 + 1)))) rfl (x_assign) ?_)
      refine OW.nil ?_
      obtain rfl := Option.some.inj hm
      exact ⟨_, rfl, ⟨S56, f68, rfl, rfl, hL⟩⟩
    · refine CW.exit ?_
      refine XJ.hit ?_
      obtain rfl := Option.some.inj hm
      exact ⟨_, rfl, ⟨S56, f68, f69, f70, hL⟩⟩

theorem M.laws_markCurvePointS_ok (w0 : World) {E4 : TypeId} {S2 : Nat → Prop} {v1 : Value} (a0 : List CurvePoint) (he3 : (Ent.own E4 S2 v1 a0).H w0) (a1 : Int) {r : (Int) × (List CurvePoint)} (hm : M.laws_markCurvePointS a0 a1 = some r) :
    Calls Try.prog 25 #[v1, (.int .i64 a1)] w0 fun e w' => ∃ (ioS : Nat → Prop), e = .returned (.int .i64 r.1) ∧ Mut w0 w' (Ent.own E4 S2 v1 a0).S [Ent.own E4 ioS v1 r.2] := by
  unfold M.laws_markCurvePointS at hm
  refine calls_CW (args := [v1, (.int .i64 a1)]) Try.func25 rfl rfl rfl ?_
  have hL := Hp.startIO he3
  refine CW.seq ?_
  refine CW.regionL ?_
  refine OW.cons (OP.val (v := (.int .i64 0)) rfl (x_assign) ?_)
  refine OW.nil ?_
  refine CW.seq ?_
  refine CW.seq ?_
  refine CW.regionL ?_
  refine OW.cons (OP.val (v := (.int .i64 0)) rfl (x_assign) ?_)
  refine OW.nil ?_
  obtain ⟨o43, ho44, hm⟩ := bndE hm
  refine CW.loopB (fun (s_l1 : (List CurvePoint) × Int × Int) (F : Fr) (w : World) => ∃ (S40 : Nat → Prop), F 0 = v1 ∧ F 1 = (.int .i64 s_l1.2.1) ∧ F 5 = (.int .i64 s_l1.2.2) ∧ Hp w0 [Ent.own E4 S40 v1 s_l1.1, Ent.frz w0 (Ent.own E4 S2 v1 a0).S] w) (fun o => outc o (fun x => some x) (fun s => M.laws_markCurvePointS_a1 s) = some r) ho44 hm ⟨S2, rfl, rfl, rfl, hL⟩ ?_ ?_
  · intro s_l1 F45 wd46 hJ hm
    have hm := outcE hm
    have hm : M.laws_markCurvePointS_a1 s_l1 = some r := hm
    unfold M.laws_markCurvePointS_a1 at hm
    obtain ⟨S40, f47, f48, f49, hL⟩ := hJ
    refine CW.seq ?_
    refine CW.regionL ?_
    refine OW.cons (OP.val (v := (.int .i64 s_l1.2.1)) rfl (x_mv f48) ?_)
    refine OW.cons (OP.val (v := (.int .i64 s_l1.2.1)) rfl (x_assign) ?_)
    refine OW.nil ?_
    refine CW.ret ?_
    obtain rfl := Option.some.inj hm
    exact RR1 rfl rfl ⟨S40, rfl, hL.mutOut 1 rfl [0] (by decide) (by decide) rfl⟩
  · intro s_l1 F50 wd51 t41 hJ hm hr42
    unfold M.laws_markCurvePointS_l1 at hm
    obtain ⟨S40, f52, f53, f54, hL⟩ := hJ
    refine CW.seq ?_
    refine CW.seq ?_
    refine CW.regionL ?_
    refine OW.cons (OP.val (v := (.int .i64 s_l1.2.2)) rfl (x_mv f54) ?_)
    refine OW.cons (OP.val (v := v1) rfl (x_mv f52) ?_)
    refine OW.cons (OP.val (v := (.int .i64 (s_l1.1.length : Int))) rfl (x_lenR Try.underlying34 rfl (hL.rdO 0 rfl)) ?_)
    refine OW.cons (OP.val (v := (.bool (decide (s_l1.2.2 < (s_l1.1.length : Int))))) rfl (x_lss rfl rfl) ?_)
    refine OW.nil ?_
    refine CW.condM (t := decide (s_l1.2.2 < (s_l1.1.length : Int))) rfl hm (fun hb55 hm => ?_) (fun hb55 hm => ?_)
    · refine CW.skip ?_
      refine CW.seq ?_
      refine CW.block ?_
      refine CW.seq ?_
      refine CW.regionL ?_
      refine OW.cons (OP.val (v := v1) rfl (x_mv f52) ?_)
      refine OW.cons (OP.val (v := (.int .i64 s_l1.2.2)) rfl (x_mv f54) ?_)
      refine OW.cons (OP.val (v := (.int .i64 s_l1.2.1)) rfl (x_mv f53) ?_)
      obtain ⟨x56, ha57, hm⟩ := bndE hm
      obtain ⟨hz58, ha62⟩ := idxE ha57
      obtain ⟨b59, q60, hix61⟩ := rdL_ix (hL.rdO 0 rfl) hz58 ha62
      refine OW.cons (OP.val (v := (.pointer (some ⟨b59, q60, none⟩))) rfl (x_ix Try.underlying34 Try_T62 rfl rfl hix61) ?_)
      refine OW.cons (OP.val (v := (.pointer (some ⟨b59, q60, none⟩))) rfl (x_fieldAddr (fsz := 1) q60 0 q60 Try.underlying62 rfl Try_T2 rfl rfl rfl) ?_)
      refine OW.cons (S_storeX (j := 0) (CurvePoint.mk s_l1.2.1 x56.Pace) hL 0 rfl Try_T2 hix61 ha62 rfl rfl rfl rfl rfl rfl ?_)
      intro wd63 hL
      refine OW.nil ?_
      refine CW.seq ?_
      refine CW.regionL ?_
      refine OW.cons (OP.val (v := (.int .i64 s_l1.2.1)) rfl (x_mv f53) ?_)
      refine OW.cons (OP.val (v := (.int .i64 (w64 (s_l1.2.1 + 1)))) rfl (x_add rfl rfl) ?_)
      refine OW.cons (OP.val (v := (.int .i64 (w64 (s_l1.2.1 + 1)))) rfl (x_assign) ?_)
      refine OW.nil ?_
      refine CW.seq ?_
      refine CW.regionL ?_
      refine OW.cons (OP.val (v := v1) rfl (x_mv f52) ?_)
      refine OW.cons (OP.val (v := (.int .i64 s_l1.2.2)) rfl (x_mv f54) ?_)
      refine OW.cons (OP.val (v := (.int .i64 (w64 (s_l1.2.1 + 1)))) rfl (x_move) ?_)
      obtain ⟨x64, ha65, hm⟩ := bndE hm
      obtain ⟨hz66, ha70⟩ := idxE ha65
      obtain ⟨b67, q68, hix69⟩ := rdL_ix (hL.rdO 0 rfl) hz66 ha70
      refine OW.cons (OP.val (v := (.pointer (some ⟨b67, q68, none⟩))) rfl (x_ix Try.underlying34 Try_T62 rfl rfl hix69) ?_)
      refine OW.cons (OP.val (v := (.pointer (some ⟨b67, q68 + 1, none⟩))) rfl (x_fieldAddr (fsz := 1) q68 1 (q68 + 1) Try.underlying62 rfl Try_T2 rfl rfl rfl) ?_)
      refine OW.cons (S_storeX (j := 1) (CurvePoint.mk x64.Wind (w64 (s_l1.2.1 + 1))) hL 0 rfl Try_T2 hix69 ha70 rfl rfl rfl rfl rfl rfl ?_)
      intro wd71 hL
      refine OW.nil ?_
      refine CW.regionL ?_
      refine OW.cons (OP.val (v := (.int .i64 (w64 (s_l1.2.1 + 1)))) rfl (x_move) ?_)
      refine OW.cons (OP.val (v := (.int .i64 (w64 ((w64 (s_l1.2.1 + 1)) + 1)))) rfl (x_add rfl rfl) ?_)
      refine OW.cons (OP.val (v := (.int .i64 (w64 ((w64 (s_l1.2.1 + 1)) + 1)))) rfl (x_assign) ?_)
      refine OW.nil ?_
      refine CW.regionL ?_
      refine OW.cons (OP.val (v := (.int .i64 s_l1.2.2)) rfl (x_mv f54) ?_)
      refine OW.cons (OP.val (v := (.int .i64 (w64 (s_l1.2.2 + 1)))) rfl (x_add rfl rfl) ?_)
      refine OW.cons (OP.val (v := (.int .i64 (w64 (s_l1.2.2 + 1)))) rfl (x_assign) ?_)
      refine OW.nil ?_
      obtain rfl := Option.some.inj hm
      exact ⟨_, rfl, ⟨S40, f52, rfl, rfl, hL⟩⟩
    · refine CW.exit ?_
      refine XJ.hit ?_
      obtain rfl := Option.some.inj hm
      exact ⟨_, rfl, ⟨S40, f52, f53, f54, hL⟩⟩

theorem M.laws_markCurvePointSS_ok (w0 : World) {E4 : TypeId} {S2 : Nat → Prop} {v1 : Value} (a0 : List (List CurvePoint)) (he3 : (Ent.own E4 S2 v1 a0).H w0) (a1 : Int) {r : (Int) × (List (List CurvePoint))} (hm : M.laws_markCurvePointSS a0 a1 = some r) :
    Calls Try.prog 18 #[v1, (.int .i64 a1)] w0 fun e w' => ∃ (ioS : Nat → Prop), e = .returned (.int .i64 r.1) ∧ Mut w0 w' (Ent.own E4 S2 v1 a0).S [Ent.own E4 ioS v1 r.2] := by
  unfold M.laws_markCurvePointSS at hm
  refine calls_CW (args := [v1, (.int .i64 a1)]) Try.func18 rfl rfl rfl ?_
  have hL := Hp.startIO he3
  refine CW.seq ?_
  refine CW.regionL ?_
  refine OW.cons (OP.val (v := (.int .i64 0)) rfl (x_assign) ?_)
  refine OW.nil ?_
  refine CW.seq ?_
  refine CW.seq ?_
  refine CW.regionL ?_
  refine OW.cons (OP.val (v := (.int .i64 0)) rfl (x_assign) ?_)
  refine OW.nil ?_
  obtain ⟨o61, ho62, hm⟩ := bndE hm
  refine CW.loopB (fun (s_l1 : (List (List CurvePoint)) × Int × Int) (F : Fr) (w : World) => ∃ (S58 : Nat → Prop), F 0 = v1 ∧ F 1 = (.int .i64 s_l1.2.1) ∧ F 5 = (.int .i64 s_l1.2.2) ∧ Hp w0 [Ent.own E4 S58 v1 s_l1.1, Ent.frz w0 (Ent.own E4 S2 v1 a0).S] w) (fun o => outc o (fun x => some x) (fun s => M.laws_markCurvePointSS_a1 s) = some r) ho62 hm ⟨S2, rfl, rfl, rfl, hL⟩ ?_ ?_
  · intro s_l1 F63 wd64 hJ hm
    have hm := outcE hm
    have hm : M.laws_markCurvePointSS_a1 s_l1 = some r := hm
    unfold M.laws_markCurvePointSS_a1 at hm
    obtain ⟨S58, f65, f66, f67, hL⟩ := hJ
    refine CW.seq ?_
    refine CW.regionL ?_
    refine OW.cons (OP.val (v := (.int .i64 s_l1.2.1)) rfl (x_mv f66) ?_)
    refine OW.cons (OP.val (v := (.int .i64 s_l1.2.1)) rfl (x_assign) ?_)
    refine OW.nil ?_
    refine CW.ret ?_
    obtain rfl := Option.some.inj hm
    exact RR1 rfl rfl ⟨S58, rfl, hL.mutOut 1 rfl [0] (by decide) (by decide) rfl⟩
  · intro s_l1 F68 wd69 t59 hJ hm hr60
    unfold M.laws_markCurvePointSS_l1 at hm
    obtain ⟨S58, f70, f71, f72, hL⟩ := hJ
    refine CW.seq ?_
    refine CW.seq ?_
    refine CW.regionL ?_
    refine OW.cons (OP.val (v := (.int .i64 s_l1.2.2)) rfl (x_mv f72) ?_)
    refine OW.cons (OP.val (v := v1) rfl (x_mv f70) ?_)
    refine OW.cons (OP.val (v := (.int .i64 (s_l1.1.length : Int))) rfl (x_lenR Try.underlying25 rfl (hL.rdO 0 rfl)) ?_)
    refine OW.cons (OP.val (v := (.bool (decide (s_l1.2.2 < (s_l1.1.length : Int))))) rfl (x_lss rfl rfl) ?_)
    refine OW.nil ?_
    refine CW.condM (t := decide (s_l1.2.2 < (s_l1.1.length : Int))) rfl hm (fun hb73 hm => ?_) (fun hb73 hm => ?_)
    · refine CW.skip ?_
      refine CW.seq ?_
      refine CW.block ?_
      refine CW.regionL ?_
      refine OW.cons (OP.val (v := v1) rfl (x_mv f70) ?_)
      refine OW.cons (OP.val (v := (.int .i64 s_l1.2.2)) rfl (x_mv f72) ?_)
      obtain ⟨wz74, hL, ho75⟩ := hL.freeze 0 rfl
      simp only [lC, lD] at hL
      obtain ⟨x76, ha77, hm⟩ := bndE hm
      obtain ⟨hz78, ha86⟩ := idxE ha77
      obtain ⟨b79, q80, v81, hix82, hs83, hc84, hr85⟩ := rdN_at ho75.1.rdL hz78 ha86
      refine OW.cons (OP.val (v := (.pointer (some ⟨b79, q80, none⟩))) rfl (x_ix Try.underlying25 Try_T34 rfl rfl hix82) ?_)
      refine OW.cons (OP.val (v := v81) rfl (x_load1 Try.underlying34 rfl rfl (hL.cellF 0 rfl hs83 hc84)) ?_)
      refine OW.cons (OP.val (v := (.int .i64 s_l1.2.1)) rfl (x_mv f71) ?_)
      have hc87 := hL.cellF 0 rfl hs83 hc84
      have hL := hL.thaw 0 rfl ho75
      simp only [lC, lD] at hL
      obtain ⟨E88, S89, hp90, hb91⟩ := hL.partR (α := CurvePoint) 0 rfl hix82 ha86 hc87
      obtain ⟨x92, hx93, hm⟩ := bndE hm
      refine OW.cons (OP.call rfl (x_call (vs := [v81, (.int .i64 s_l1.2.1)]) Try_C25 ⟨rfl, rfl, trivial⟩) (M.laws_markCurvePointS_ok _ x76 hp90 s_l1.2.1 hx93) ?_)
      rintro e94 wd95 ⟨S97, rfl, hF96⟩
      refine ⟨_, rfl, ?_⟩
      obtain ⟨S98, hL⟩ := hb91 _ _ _ _ x92.2 hF96 rfl
      simp only [lB, lC, lD] at hL
      refine OW.cons (OP.val (v := (.int .i64 x92.1)) rfl (x_assign) ?_)
      refine OW.nil ?_
      refine CW.regionL ?_
      refine OW.cons (OP.val (v := (.int .i64 s_l1.2.2)) rfl (x_mv f72) ?_)
      refine OW.cons (OP.val (v := (.int .i64 (w64 (s_l1.2.2 + 1)))) rfl (x_add rfl rfl) ?_)
      refine OW.cons (OP.val (v := (.int .i64 (w64 (s_l1.2.2 + 1)))) rfl (x_assign) ?_)
      refine OW.nil ?_
      obtain rfl := Option.some.inj hm
      exact ⟨_, rfl, ⟨S98, f70, rfl, rfl, hL⟩⟩
    · refine CW.exit ?_
      refine XJ.hit ?_
      obtain rfl := Option.some.inj hm
      exact ⟨_, rfl, ⟨S58, f70, f71, f72, hL⟩⟩

theorem M.laws_heldFinishS_ok (w0 : World) (a0 : List Finish) {v1 : Value} (h2 : rdL (· < w0.heap.size) w0 v1 a0) (a1 : Int) {r : Int} (hm : M.laws_heldFinishS a0 a1 = some r) :
    Calls Try.prog 19 #[v1, (.int .i64 a1)] w0 fun e w' => e = .returned (.int .i64 r) ∧ Fresh w0 w' [] := by
  unfold M.laws_heldFinishS at hm
  refine calls_CW (args := [v1, (.int .i64 a1)]) Try.func19 rfl rfl rfl ?_
  have hL := Hp.start w0
  refine CW.seq ?_
  refine CW.regionL ?_
  refine OW.cons (OP.val (v := (.int .i64 0)) rfl (x_assign) ?_)
  refine OW.nil ?_
  refine CW.seq ?_
  refine CW.seq ?_
  refine CW.regionL ?_
  refine OW.cons (OP.val (v := (.int .i64 0)) rfl (x_assign) ?_)
  refine OW.nil ?_
  obtain ⟨o55, ho56, hm⟩ := bndE hm
  refine CW.loopB (fun (s_l1 : Int × Int) (F : Fr) (w : World) => F 0 = v1 ∧ F 1 = (.int .i64 s_l1.1) ∧ F 5 = (.int .i64 s_l1.2) ∧ Hp w0 [Ent.snap w0 w0.heap.size] w) (fun o => outc o (fun x => some x) (fun s => M.laws_heldFinishS_a1 s) = some r) ho56 hm ⟨rfl, rfl, rfl, hL⟩ ?_ ?_
  · intro s_l1 F57 wd58 hJ hm
    have hm := outcE hm
    have hm : M.laws_heldFinishS_a1 s_l1 = some r := hm
    unfold M.laws_heldFinishS_a1 at hm
    obtain ⟨f59, f60, f61, hL⟩ := hJ
    refine CW.seq ?_
    refine CW.regionL ?_
    refine OW.cons (OP.val (v := (.int .i64 s_l1.1)) rfl (x_mv f60) ?_)
    refine OW.cons (OP.val (v := (.int .i64 s_l1.1)) rfl (x_assign) ?_)
    refine OW.nil ?_
    refine CW.ret ?_
    obtain rfl := Option.some.inj hm
    exact RR1 rfl rfl ⟨rfl, hL.fresh 0 rfl [] (by decide) (by decide) rfl⟩
  · intro s_l1 F62 wd63 t53 hJ hm hr54
    unfold M.laws_heldFinishS_l1 at hm
    obtain ⟨f64, f65, f66, hL⟩ := hJ
    refine CW.seq ?_
    refine CW.seq ?_
    refine CW.regionL ?_
    refine OW.cons (OP.val (v := (.int .i64 s_l1.2)) rfl (x_mv f66) ?_)
    refine OW.cons (OP.val (v := v1) rfl (x_mv f64) ?_)
    refine OW.cons (OP.val (v := (.int .i64 (a0.length : Int))) rfl (x_lenR Try.underlying24 rfl (hL.rdS 0 rfl h2)) ?_)
    refine OW.cons (OP.val (v := (.bool (decide (s_l1.2 < (a0.length : Int))))) rfl (x_lss rfl rfl) ?_)
    refine OW.nil ?_
    refine CW.condM (t := decide (s_l1.2 < (a0.length : Int))) rfl hm (fun hb67 hm => ?_) (fun hb67 hm => ?_)
    · refine CW.skip ?_
      refine CW.seq ?_
      refine CW.block ?_
      refine CW.seq ?_
      refine CW.seq ?_
      refine CW.regionL ?_
      refine OW.cons (OP.val (v := v1) rfl (x_mv f64) ?_)
      refine OW.cons (OP.val (v := (.int .i64 s_l1.2)) rfl (x_mv f66) ?_)
      obtain ⟨x68, ha69, hm⟩ := bndE hm
      obtain ⟨hz70, ha74⟩ := idxE ha69
      obtain ⟨b71, q72, hix73⟩ := rdL_ix (hL.rdS 0 rfl h2) hz70 ha74
      refine OW.cons (OP.val (v := (.pointer (some ⟨b71, q72, none⟩))) rfl (x_ix Try.underlying24 Try_T31 rfl rfl hix73) ?_)
      refine OW.cons (OP.val (v := (.pointer (some ⟨b71, q72, none⟩))) rfl (x_fieldAddr (fsz := 1) q72 0 q72 Try.underlying31 rfl Try_T2 rfl rfl rfl) ?_)
      refine OW.cons (OP.val (v := (.int .i64 x68.Boat)) rfl (x_load1 Try.underlying2 rfl rfl (rdF_cells (hL.rdS 0 rfl h2) hix73 ha74 0 _ rfl)) ?_)
      refine OW.cons (OP.val (v := (.int .i64 s_l1.1)) rfl (x_mv f65) ?_)
      refine OW.cons (OP.val (v := (.bool (x68.Boat != s_l1.1))) rfl (x_neq rfl rfl) ?_)
      refine OW.nil ?_
      refine CW.condM (t := x68.Boat != s_l1.1) rfl hm (fun hb75 hm => ?_) (fun hb75 hm => ?_)
      · refine CW.seq ?_
        refine CW.regionL ?_
        refine OW.cons (OP.val (v := (.int .i64 (-1))) rfl (x_assign) ?_)
        refine OW.nil ?_
        refine CW.ret ?_
        obtain rfl := Option.some.inj hm
        have hm := hr54 _ rfl
        obtain rfl := Option.some.inj hm
        exact RR1 rfl rfl ⟨rfl, hL.fresh 0 rfl [] (by decide) (by decide) rfl⟩
      · refine CW.skip ?_
        refine CW.seq ?_
        refine CW.regionL ?_
        refine OW.cons (OP.val (v := (.int .i64 s_l1.1)) rfl (x_mv f65) ?_)
        refine OW.cons (OP.val (v := (.int .i64 (w64 (s_l1.1 + 1)))) rfl (x_add rfl rfl) ?_)
        refine OW.cons (OP.val (v := (.int .i64 (w64 (s_l1.1 + 1)))) rfl (x_assign) ?_)
        refine OW.nil ?_
        refine CW.seq ?_
        refine CW.seq ?_
        refine CW.regionL ?_
        refine OW.cons (OP.val (v := v1) rfl (x_mv f64) ?_)
        refine OW.cons (OP.val (v := (.int .i64 s_l1.2)) rfl (x_mv f66) ?_)
        obtain ⟨x76, ha77, hm⟩ := bndE hm
        obtain ⟨hz78, ha82⟩ := idxE ha77
        obtain ⟨b79, q80, hix81⟩ := rdL_ix (hL.rdS 0 rfl h2) hz78 ha82
        refine OW.cons (OP.val (v := (.pointer (some ⟨b79, q80, none⟩))) rfl (x_ix Try.underlying24 Try_T31 rfl rfl hix81) ?_)
        refine OW.cons (OP.val (v := (.pointer (some ⟨b79, q80 + 1, none⟩))) rfl (x_fieldAddr (fsz := 1) q80 1 (q80 + 1) Try.underlying31 rfl Try_T2 rfl rfl rfl) ?_)
        refine OW.cons (OP.val (v := (.int .i64 x76.Code)) rfl (x_load1 Try.underlying2 rfl rfl (rdF_cells (hL.rdS 0 rfl h2) hix81 ha82 1 _ rfl)) ?_)
        refine OW.cons (OP.val (v := (.int .i64 (w64 (s_l1.1 + 1)))) rfl (x_move) ?_)
        refine OW.cons (OP.val (v := (.bool (x76.Code != (w64 (s_l1.1 + 1))))) rfl (x_neq rfl rfl) ?_)
        refine OW.nil ?_
        refine CW.condM (t := x76.Code != (w64 (s_l1.1 + 1))) rfl hm (fun hb83 hm => ?_) (fun hb83 hm => ?_)
        · refine CW.seq ?_
          refine CW.regionL ?_
          refine OW.cons (OP.val (v := (.int .i64 (-1))) rfl (x_assign) ?_)
          refine OW.nil ?_
          refine CW.ret ?_
          obtain rfl := Option.some.inj hm
          have hm := hr54 _ rfl
          obtain rfl := Option.some.inj hm
          exact RR1 rfl rfl ⟨rfl, hL.fresh 0 rfl [] (by decide) (by decide) rfl⟩
        · refine CW.skip ?_
          refine CW.seq ?_
          refine CW.regionL ?_
          refine OW.cons (OP.val (v := (.int .i64 (w64 (s_l1.1 + 1)))) rfl (x_move) ?_)
          refine OW.cons (OP.val (v := (.int .i64 (w64 ((w64 (s_l1.1 + 1)) + 1)))) rfl (x_add rfl rfl) ?_)
          refine OW.cons (OP.val (v := (.int .i64 (w64 ((w64 (s_l1.1 + 1)) + 1)))) rfl (x_assign) ?_)
          refine OW.nil ?_
          refine CW.seq ?_
          refine CW.seq ?_
          refine CW.regionL ?_
          refine OW.cons (OP.val (v := v1) rfl (x_mv f64) ?_)
          refine OW.cons (OP.val (v := (.int .i64 s_l1.2)) rfl (x_mv f66) ?_)
          obtain ⟨x84, ha85, hm⟩ := bndE hm
          obtain ⟨hz86, ha90⟩ := idxE ha85
          obtain ⟨b87, q88, hix89⟩ := rdL_ix (hL.rdS 0 rfl h2) hz86 ha90
          refine OW.cons (OP.val (v := (.pointer (some ⟨b87, q88, none⟩))) rfl (x_ix Try.underlying24 Try_T31 rfl rfl hix89) ?_)
          refine OW.cons (OP.val (v := (.pointer (some ⟨b87, q88 + 2, none⟩))) rfl (x_fieldAddr (fsz := 1) q88 2 (q88 + 2) Try.underlying31 rfl Try_T2 rfl rfl rfl) ?_)
          refine OW.cons (OP.val (v := (.int .i64 x84.Time)) rfl (x_load1 Try.underlying2 rfl rfl (rdF_cells (hL.rdS 0 rfl h2) hix89 ha90 2 _ rfl)) ?_)
          refine OW.cons (OP.val (v := (.int .i64 (w64 ((w64 (s_l1.1 + 1)) + 1)))) rfl (x_move) ?_)
          refine OW.cons (OP.val (v := (.bool (x84.Time != (w64 ((w64 (s_l1.1 + 1)) + 1))))) rfl (x_neq rfl rfl) ?_)
          refine OW.nil ?_
          refine CW.condM (t := x84.Time != (w64 ((w64 (s_l1.1 + 1)) + 1))) rfl hm (fun hb91 hm => ?_) (fun hb91 hm => ?_)
          · refine CW.seq ?_
            refine CW.regionL ?_
            refine OW.cons (OP.val (v := (.int .i64 (-1))) rfl (x_assign) ?_)
            refine OW.nil ?_
            refine CW.ret ?_
            obtain rfl := Option.some.inj hm
            have hm := hr54 _ rfl
            obtain rfl := Option.some.inj hm
            exact RR1 rfl rfl ⟨rfl, hL.fresh 0 rfl [] (by decide) (by decide) rfl⟩
          · refine CW.skip ?_
            refine CW.regionL ?_
            refine OW.cons (OP.val (v := (.int .i64 (w64 ((w64 (s_l1.1 + 1)) + 1)))) rfl (x_move) ?_)
            refine OW.cons (OP.val (v := (.int .i64 (w64 ((w64 ((w64 (s_l1.1 + 1)) + 1)) + 1)))) rfl (x_add rfl rfl) ?_)
            refine OW.cons (OP.val (v := (.int .i64 (w64 ((w64 ((w64 (s_l1.1 + 1)) + 1)) + 1)))) rfl (x_assign) ?_)
            refine OW.nil ?_
            refine CW.regionL ?_
            refine OW.cons (OP.val (v := (.int .i64 s_l1.2)) rfl (x_mv f66) ?_)
            refine OW.cons (OP.val (v := (.int .i64 (w64 (s_l1.2 + 1)))) rfl (x_add rfl rfl) ?_)
            refine OW.cons (OP.val (v := (.int .i64 (w64 (s_l1.2 + 1)))) rfl (x_assign) ?_)
            refine OW.nil ?_
            obtain rfl := Option.some.inj hm
            exact ⟨_, rfl, ⟨f64, rfl, rfl, hL⟩⟩
    · refine CW.exit ?_
      refine XJ.hit ?_
      obtain rfl := Option.some.inj hm
      exact ⟨_, rfl, ⟨f64, f65, f66, hL⟩⟩

theorem M.laws_FnExactCorrectByCurves_ok (w0 : World) (a0 : Int) (a1 : List Finish) {v1 : Value} (h2 : rdL (· < w0.heap.size) w0 v1 a1) (a2 : List (List CurvePoint)) {v3 : Value} (h4 : rdL (· < w0.heap.size) w0 v3 a2) (a3 : Int) (a4 : Int) {r : Bool} (hm : M.laws_FnExactCorrectByCurves a0 a1 a2 a3 a4 = some r) :
    Calls Try.prog 4 #[(.int .i64 a0), v1, v3, (.int .i64 a3), (.int .i64 a4)] w0 fun e w' => e = .returned (.bool r) ∧ Fresh w0 w' [] := by
  unfold M.laws_FnExactCorrectByCurves at hm
  refine calls_CW (args := [(.int .i64 a0), v1, v3, (.int .i64 a3), (.int .i64 a4)]) Try.func4 rfl rfl rfl ?_
  have hL := Hp.start w0
  refine CW.seq ?_
  refine CW.regionL ?_
  refine OW.cons (OP.val (v := (.bool false)) rfl (x_assign) ?_)
  refine OW.nil ?_
  refine CW.seq ?_
  refine CW.regionL ?_
  refine OW.cons (OP.val (v := (.int .i64 1048576)) rfl (x_assign) ?_)
  refine OW.nil ?_
  refine CW.seq ?_
  refine CW.regionL ?_
  refine OW.cons (OP.val (v := v1) rfl (x_move) ?_)
  refine OW.cons (OP.val (v := (.int .i64 1048576)) rfl (x_move) ?_)
  obtain ⟨x5, hx6, hm⟩ := bndE hm
  refine OW.cons (OP.call rfl (x_call (vs := [v1, (.int .i64 1048576)]) Try_C11 ⟨rfl, rfl, trivial⟩) (M.laws_szFinishS_ok _ a1 (hL.rdS 0 rfl h2) 1048576 hx6) ?_)
  rintro e7 wd8 ⟨rfl, hF9⟩
  refine ⟨_, rfl, ?_⟩
  have hL := hL.pushAll hF9
  simp only [lA, lB, lC, lD] at hL
  refine OW.cons (OP.val (v := (.int .i64 x5)) rfl (x_assign) ?_)
  refine OW.nil ?_
  refine CW.seq ?_
  refine CW.seq ?_
  refine CW.regionL ?_
  refine OW.cons (OP.val (v := (.int .i64 x5)) rfl (x_move) ?_)
  refine OW.cons (OP.val (v := (.bool (decide (x5 < 0)))) rfl (x_lss rfl rfl) ?_)
  refine OW.nil ?_
  refine CW.condM (t := decide (x5 < 0)) rfl hm (fun hb10 hm => ?_) (fun hb10 hm => ?_)
  · refine CW.seq ?_
    refine CW.regionL ?_
    refine OW.cons (OP.val (v := (.bool true)) rfl (x_assign) ?_)
    refine OW.nil ?_
    refine CW.ret ?_
    obtain rfl := Option.some.inj hm
    exact RR1 rfl rfl ⟨rfl, hL.fresh 0 rfl [] (by decide) (by decide) rfl⟩
  · refine CW.skip ?_
    refine CW.seq ?_
    refine CW.regionL ?_
    refine OW.cons (OP.val (v := v3) rfl (x_move) ?_)
    refine OW.cons (OP.val (v := (.int .i64 x5)) rfl (x_move) ?_)
    obtain ⟨x11, hx12, hm⟩ := bndE hm
    refine OW.cons (OP.call rfl (x_call (vs := [v3, (.int .i64 x5)]) Try_C12 ⟨rfl, rfl, trivial⟩) (M.laws_szCurvePointSS_ok _ a2 (hL.rdS 0 rfl h4) x5 hx12) ?_)
    rintro e13 wd14 ⟨rfl, hF15⟩
    refine ⟨_, rfl, ?_⟩
    have hL := hL.pushAll hF15
    simp only [lA, lB, lC, lD] at hL
    refine OW.cons (OP.val (v := (.int .i64 x11)) rfl (x_assign) ?_)
    refine OW.nil ?_
    refine CW.seq ?_
    refine CW.seq ?_
    refine CW.regionL ?_
    refine OW.cons (OP.val (v := (.int .i64 x11)) rfl (x_move) ?_)
    refine OW.cons (OP.val (v := (.bool (decide (x11 < 0)))) rfl (x_lss rfl rfl) ?_)
    refine OW.nil ?_
    refine CW.condM (t := decide (x11 < 0)) rfl hm (fun hb16 hm => ?_) (fun hb16 hm => ?_)
    · refine CW.seq ?_
      refine CW.regionL ?_
      refine OW.cons (OP.val (v := (.bool true)) rfl (x_assign) ?_)
      refine OW.nil ?_
      refine CW.ret ?_
      obtain rfl := Option.some.inj hm
      exact RR1 rfl rfl ⟨rfl, hL.fresh 0 rfl [] (by decide) (by decide) rfl⟩
    · refine CW.skip ?_
      refine CW.seq ?_
      refine CW.regionL ?_
      refine OW.cons (OP.val (v := (.int .i64 a0)) rfl (x_move) ?_)
      refine OW.cons (OP.val (v := v1) rfl (x_move) ?_)
      obtain ⟨x17, hx18, hm⟩ := bndE hm
      refine OW.cons (OP.call rfl (x_call (vs := [v1]) Try_C13 ⟨rfl, trivial⟩) (M.laws_toFinishS_ok _ a1 (hL.rdS 0 rfl h2) hx18) ?_)
      rintro e21 wd22 ⟨v20, S19, rfl, hF23⟩
      refine ⟨_, rfl, ?_⟩
      have hL := hL.pushAll hF23
      simp only [lA, lB, lC, lD] at hL
      refine OW.cons (OP.val (v := v3) rfl (x_move) ?_)
      obtain ⟨x24, hx25, hm⟩ := bndE hm
      refine OW.cons (OP.call rfl (x_call (vs := [v3]) Try_C14 ⟨rfl, trivial⟩) (M.laws_toCurvePointSS_ok _ a2 (hL.rdS 1 rfl h4) hx25) ?_)
      rintro e28 wd29 ⟨v27, S26, rfl, hF30⟩
      refine ⟨_, rfl, ?_⟩
      have hL := hL.pushAll hF30
      simp only [lA, lB, lC, lD] at hL
      refine OW.cons (OP.val (v := (.int .i64 a3)) rfl (x_move) ?_)
      refine OW.cons (OP.val (v := (.int .i64 a4)) rfl (x_move) ?_)
      obtain ⟨x31, hx32, hm⟩ := bndE hm
      refine OW.cons (OP.call rfl (x_call (vs := [(.int .i64 a0), v20, v27, (.int .i64 a3), (.int .i64 a4)]) Try_C9 ⟨rfl, rfl, rfl, rfl, rfl, trivial⟩) (M.spec_CorrectByCurves_ok _ a0 x17 (hL.rdO 1 rfl) x24 (hL.rdO 0 rfl) a3 a4 hx32) ?_)
      rintro e35 wd36 ⟨v34, S33, rfl, hF37⟩
      refine ⟨_, rfl, ?_⟩
      have hL := hL.pushAll hF37
      simp only [lA, lB, lC, lD] at hL
      refine OW.cons (OP.val (v := (.tuple #[v34, (.int .i64 x31.2)])) rfl (x_move) ?_)
      refine OW.cons (OP.val (v := v34) rfl (x_extract rfl rfl) ?_)
      refine OW.cons (OP.val (v := (.int .i64 x31.2)) rfl (x_extract rfl rfl) ?_)
      refine OW.cons (OP.val (v := v34) rfl (x_assign) ?_)
      refine OW.cons (OP.val (v := (.int .i64 x31.2)) rfl (x_assign) ?_)
      refine OW.nil ?_
      refine CW.seq ?_
      refine CW.regionL ?_
      refine OW.cons (OP.val (v := v1) rfl (x_move) ?_)
      obtain ⟨x38, hx39, hm⟩ := bndE hm
      refine OW.cons (OP.call rfl (x_call (vs := [v1]) Try_C13 ⟨rfl, trivial⟩) (M.laws_toFinishS_ok _ a1 (hL.rdS 3 rfl h2) hx39) ?_)
      rintro e42 wd43 ⟨v41, S40, rfl, hF44⟩
      refine ⟨_, rfl, ?_⟩
      have hL := hL.pushAll hF44
      simp only [lA, lB, lC, lD] at hL
      refine OW.cons (OP.val (v := v41) rfl (x_assign) ?_)
      refine OW.nil ?_
      refine CW.seq ?_
      refine CW.regionL ?_
      refine OW.cons (OP.val (v := v3) rfl (x_move) ?_)
      obtain ⟨x45, hx46, hm⟩ := bndE hm
      refine OW.cons (OP.call rfl (x_call (vs := [v3]) Try_C14 ⟨rfl, trivial⟩) (M.laws_toCurvePointSS_ok _ a2 (hL.rdS 4 rfl h4) hx46) ?_)
      rintro e49 wd50 ⟨v48, S47, rfl, hF51⟩
      refine ⟨_, rfl, ?_⟩
      have hL := hL.pushAll hF51
      simp only [lA, lB, lC, lD] at hL
      refine OW.cons (OP.val (v := v48) rfl (x_assign) ?_)
      refine OW.nil ?_
      refine CW.seq ?_
      refine CW.regionL ?_
      refine OW.cons (OP.val (v := (.int .i64 a0)) rfl (x_move) ?_)
      refine OW.cons (OP.val (v := v41) rfl (x_move) ?_)
      refine OW.cons (OP.val (v := v48) rfl (x_move) ?_)
      refine OW.cons (OP.val (v := (.int .i64 a3)) rfl (x_move) ?_)
      refine OW.cons (OP.val (v := (.int .i64 a4)) rfl (x_move) ?_)
      obtain ⟨x52, hx53, hm⟩ := bndE hm
      refine OW.cons (OP.call rfl (x_call (vs := [(.int .i64 a0), v41, v48, (.int .i64 a3), (.int .i64 a4)]) Try_C8 ⟨rfl, rfl, rfl, rfl, rfl, trivial⟩) (M.impl_CorrectByCurves_ok _ a0 x38 (hL.rdO 1 rfl) x45 (hL.rdO 0 rfl) a3 a4 hx53) ?_)
      rintro e56 wd57 ⟨v55, S54, rfl, hF58⟩
      refine ⟨_, rfl, ?_⟩
      have hL := hL.pushAll hF58
      simp only [lA, lB, lC, lD] at hL
      refine OW.cons (OP.val (v := (.tuple #[v55, (.int .i64 x52.2)])) rfl (x_move) ?_)
      refine OW.cons (OP.val (v := v55) rfl (x_extract rfl rfl) ?_)
      refine OW.cons (OP.val (v := (.int .i64 x52.2)) rfl (x_extract rfl rfl) ?_)
      refine OW.cons (OP.val (v := v55) rfl (x_assign) ?_)
      refine OW.cons (OP.val (v := (.int .i64 x52.2)) rfl (x_assign) ?_)
      refine OW.nil ?_
      refine CW.seq ?_
      refine CW.seqJ (fun (s_j1 : Bool) (F : Fr) (w : World) => F 0 = (.int .i64 a0) ∧ F 1 = v1 ∧ F 2 = v3 ∧ F 3 = (.int .i64 a3) ∧ F 4 = (.int .i64 a4) ∧ F 12 = v34 ∧ F 13 = (.int .i64 x31.2) ∧ F 14 = v41 ∧ F 15 = v48 ∧ F 16 = v55 ∧ F 17 = (.int .i64 x52.2) ∧ F 65 = (.bool s_j1) ∧ Hp w0 [Ent.own 31 S54 v55 x52.1, Ent.own 34 S47 v48 x45, Ent.own 31 S40 v41 x38, Ent.own 31 S33 v34 x31.1, Ent.snap w0 w0.heap.size] w) (fun s_j1 => M.laws_FnExactCorrectByCurves_j1 a0 a1 a2 a3 a4 x31 x38 x45 x52 s_j1 = some r) ?_ ?_
      · refine CW.regionL ?_
        refine OW.cons (OP.val (v := v55) rfl (x_move) ?_)
        refine OW.cons (OP.val (v := v34) rfl (x_move) ?_)
        obtain ⟨x203, hx204, hm⟩ := bndE hm
        refine OW.cons (OP.call rfl (x_call (vs := [v55, v34]) Try_C15 ⟨rfl, rfl, trivial⟩) (M.laws_eqFinishS_ok _ x52.1 (hL.rdO 0 rfl) x31.1 (hL.rdO 3 rfl) hx204) ?_)
        rintro e205 wd206 ⟨rfl, hF207⟩
        refine ⟨_, rfl, ?_⟩
        have hL := hL.pushAll hF207
        simp only [lA, lB, lC, lD] at hL
        refine OW.cons (OP.val (v := (.bool (!x203))) rfl (x_not rfl) ?_)
        refine OW.cons (OP.val (v := (.bool (!x203))) rfl (x_move) ?_)
        refine ifB_elim hm (fun hb208 hm => ?_) (fun hb208 hm => ?_)
        · refine OW.cons (OP.no' rfl rfl hb208 rfl ?_)
          refine OW.cons (OP.no' rfl rfl hb208 rfl ?_)
          refine OW.cons (OP.no' rfl rfl hb208 rfl ?_)
          refine OW.cons (OP.val (v := (.bool true)) rfl (x_pickT' rfl hb208 rfl) ?_)
          refine OW.nil ?_
          have hL := hL.sel [0, 1, 2, 3, 6] (by decide) rfl
          exact ⟨true, hm, ⟨rfl, rfl, rfl, rfl, rfl, rfl, rfl, rfl, rfl, rfl, rfl, rfl, hL⟩⟩
        · refine OW.cons (OP.yes' rfl rfl hb208 (OP.val (v := (.int .i64 x52.2)) rfl (x_move) ?_))
          refine OW.cons (OP.yes' rfl rfl hb208 (OP.val (v := (.int .i64 x31.2)) rfl (x_move) ?_))
          refine OW.cons (OP.yes' rfl rfl hb208 (OP.val (v := (.bool (x52.2 != x31.2))) rfl (x_neq rfl rfl) ?_))
          refine OW.cons (OP.val (v := (.bool (x52.2 != x31.2))) rfl (x_pickF' rfl hb208 rfl) ?_)
          refine OW.nil ?_
          have hL := hL.sel [0, 1, 2, 3, 6] (by decide) rfl
          exact ⟨x52.2 != x31.2, hm, ⟨rfl, rfl, rfl, rfl, rfl, rfl, rfl, rfl, rfl, rfl, rfl, rfl, hL⟩⟩
      · intro s_j1 F65 wd66 hJ hm
        unfold M.laws_FnExactCorrectByCurves_j1 at hm
        obtain ⟨f67, f68, f69, f70, f71, f72, f73, f74, f75, f76, f77, f78, hL⟩ := hJ
        refine CW.condM (t := s_j1) f78 hm (fun hb79 hm => ?_) (fun hb79 hm => ?_)
        · refine CW.seq ?_
          refine CW.regionL ?_
          refine OW.cons (OP.val (v := (.bool false)) rfl (x_assign) ?_)
          refine OW.nil ?_
          refine CW.ret ?_
          obtain rfl := Option.some.inj hm
          exact RR1 rfl rfl ⟨rfl, hL.fresh 4 rfl [] (by decide) (by decide) rfl⟩
        · refine CW.skip ?_
          refine CW.seq ?_
          refine CW.seq ?_
          refine CW.regionL ?_
          refine OW.cons (OP.val (v := v41) rfl (x_mv f74) ?_)
          refine OW.cons (OP.val (v := v1) rfl (x_mv f68) ?_)
          obtain ⟨x80, hx81, hm⟩ := bndE hm
          refine OW.cons (OP.call rfl (x_call (vs := [v1]) Try_C13 ⟨rfl, trivial⟩) (M.laws_toFinishS_ok _ a1 (hL.rdS 4 rfl h2) hx81) ?_)
          rintro e84 wd85 ⟨v83, S82, rfl, hF86⟩
          refine ⟨_, rfl, ?_⟩
          have hL := hL.pushAll hF86
          simp only [lA, lB, lC, lD] at hL
          obtain ⟨x87, hx88, hm⟩ := bndE hm
          refine OW.cons (OP.call rfl (x_call (vs := [v41, v83]) Try_C15 ⟨rfl, rfl, trivial⟩) (M.laws_eqFinishS_ok _ x38 (hL.rdO 3 rfl) x80 (hL.rdO 0 rfl) hx88) ?_)
          rintro e89 wd90 ⟨rfl, hF91⟩
          refine ⟨_, rfl, ?_⟩
          have hL := hL.pushAll hF91
          simp only [lA, lB, lC, lD] at hL
          refine OW.cons (OP.val (v := (.bool (!x87))) rfl (x_not rfl) ?_)
          refine OW.nil ?_
          refine CW.condM (t := !x87) rfl hm (fun hb92 hm => ?_) (fun hb92 hm => ?_)
          · refine CW.seq ?_
            refine CW.regionL ?_
            refine OW.cons (OP.val (v := (.bool false)) rfl (x_assign) ?_)
            refine OW.nil ?_
            refine CW.ret ?_
            obtain rfl := Option.some.inj hm
            exact RR1 rfl rfl ⟨rfl, hL.fresh 5 rfl [] (by decide) (by decide) rfl⟩
          · refine CW.skip ?_
            refine CW.seq ?_
            refine CW.seq ?_
            refine CW.regionL ?_
            refine OW.cons (OP.val (v := v48) rfl (x_mv f75) ?_)
            refine OW.cons (OP.val (v := v3) rfl (x_mv f69) ?_)
            obtain ⟨x93, hx94, hm⟩ := bndE hm
            refine OW.cons (OP.call rfl (x_call (vs := [v3]) Try_C14 ⟨rfl, trivial⟩) (M.laws_toCurvePointSS_ok _ a2 (hL.rdS 5 rfl h4) hx94) ?_)
            rintro e97 wd98 ⟨v96, S95, rfl, hF99⟩
            refine ⟨_, rfl, ?_⟩
            have hL := hL.pushAll hF99
            simp only [lA, lB, lC, lD] at hL
            obtain ⟨x100, hx101, hm⟩ := bndE hm
            refine OW.cons (OP.call rfl (x_call (vs := [v48, v96]) Try_C16 ⟨rfl, rfl, trivial⟩) (M.laws_eqCurvePointSS_ok _ x45 (hL.rdO 3 rfl) x93 (hL.rdO 0 rfl) hx101) ?_)
            rintro e102 wd103 ⟨rfl, hF104⟩
            refine ⟨_, rfl, ?_⟩
            have hL := hL.pushAll hF104
            simp only [lA, lB, lC, lD] at hL
            refine OW.cons (OP.val (v := (.bool (!x100))) rfl (x_not rfl) ?_)
            refine OW.nil ?_
            refine CW.condM (t := !x100) rfl hm (fun hb105 hm => ?_) (fun hb105 hm => ?_)
            · refine CW.seq ?_
              refine CW.regionL ?_
              refine OW.cons (OP.val (v := (.bool false)) rfl (x_assign) ?_)
              refine OW.nil ?_
              refine CW.ret ?_
              obtain rfl := Option.some.inj hm
              exact RR1 rfl rfl ⟨rfl, hL.fresh 6 rfl [] (by decide) (by decide) rfl⟩
            · refine CW.skip ?_
              refine CW.seq ?_
              refine CW.regionL ?_
              refine OW.cons (OP.val (v := (.int .i64 1)) rfl (x_assign) ?_)
              refine OW.nil ?_
              refine CW.seq ?_
              refine CW.regionL ?_
              refine OW.cons (OP.val (v := v41) rfl (x_mv f74) ?_)
              refine OW.cons (OP.val (v := (.int .i64 1)) rfl (x_move) ?_)
              obtain ⟨x106, hx107, hm⟩ := bndE hm
              refine OW.cons (OP.call rfl (x_call (vs := [v41, (.int .i64 1)]) Try_C17 ⟨rfl, rfl, trivial⟩) (M.laws_markFinishS_ok _ x38 (hL.get 4 rfl) 1 hx107) ?_)
              rintro e108 wd109 ⟨S111, rfl, hF110⟩
              refine ⟨_, rfl, ?_⟩
              have hL := hL.mut 4 rfl hF110
              simp only [lA, lB, lC, lD] at hL
              refine OW.cons (OP.val (v := (.int .i64 x106.1)) rfl (x_assign) ?_)
              refine OW.nil ?_
              refine CW.seq ?_
              refine CW.regionL ?_
              refine OW.cons (OP.val (v := v48) rfl (x_mv f75) ?_)
              refine OW.cons (OP.val (v := (.int .i64 x106.1)) rfl (x_move) ?_)
              obtain ⟨x112, hx113, hm⟩ := bndE hm
              refine OW.cons (OP.call rfl (x_call (vs := [v48, (.int .i64 x106.1)]) Try_C18 ⟨rfl, rfl, trivial⟩) (M.laws_markCurvePointSS_ok _ x45 (hL.get 3 rfl) x106.1 hx113) ?_)
              rintro e114 wd115 ⟨S117, rfl, hF116⟩
              refine ⟨_, rfl, ?_⟩
              have hL := hL.mut 3 rfl hF116
              simp only [lA, lB, lC, lD] at hL
              refine OW.cons (OP.val (v := (.int .i64 x112.1)) rfl (x_assign) ?_)
              refine OW.nil ?_
              refine CW.seq ?_
              refine CW.seqJ (fun (s_j2 : Bool) (F : Fr) (w : World) => F 0 = (.int .i64 a0) ∧ F 1 = v1 ∧ F 2 = v3 ∧ F 3 = (.int .i64 a3) ∧ F 4 = (.int .i64 a4) ∧ F 12 = v34 ∧ F 13 = (.int .i64 x31.2) ∧ F 16 = v55 ∧ F 94 = (.bool s_j2) ∧ Hp w0 [Ent.own 31 S54 v55 x52.1, Ent.own 31 S33 v34 x31.1, Ent.snap w0 w0.heap.size] w) (fun s_j2 => M.laws_FnExactCorrectByCurves_j2 a0 a1 a2 a3 a4 x31 x52 s_j2 = some r) ?_ ?_
              · refine CW.regionL ?_
                refine OW.cons (OP.val (v := (.int .i64 x112.1)) rfl (x_move) ?_)
                refine OW.cons (OP.val (v := (.bool (decide (x112.1 < 0)))) rfl (x_lss rfl rfl) ?_)
                refine OW.cons (OP.val (v := (.bool (decide (x112.1 < 0)))) rfl (x_move) ?_)
                refine ifB_elim hm (fun hb196 hm => ?_) (fun hb196 hm => ?_)
                · refine OW.cons (OP.no' rfl rfl hb196 rfl ?_)
                  refine OW.cons (OP.no' rfl rfl hb196 rfl ?_)
                  refine OW.cons (OP.no' rfl rfl hb196 rfl ?_)
                  refine OW.cons (OP.no' rfl rfl hb196 rfl ?_)
                  refine OW.cons (OP.val (v := (.bool true)) rfl (x_pickT' rfl hb196 rfl) ?_)
                  refine OW.cons (OP.val (v := (.bool true)) rfl (x_move) ?_)
                  refine OW.cons (OP.no' rfl rfl rfl rfl ?_)
                  refine OW.cons (OP.no' rfl rfl rfl rfl ?_)
                  refine OW.cons (OP.no' rfl rfl rfl rfl ?_)
                  refine OW.cons (OP.val (v := (.bool true)) rfl (x_pickT' rfl rfl rfl) ?_)
                  refine OW.nil ?_
                  have hL := hL.sel [2, 5, 6] (by decide) rfl
                  exact ⟨true, hm, ⟨f67, f68, f69, f70, f71, f72, f73, f76, rfl, hL⟩⟩
                · refine OW.cons (OP.yes' rfl rfl hb196 (OP.val (v := v55) rfl (x_mv f76) ?_))
                  refine OW.cons (OP.yes' rfl rfl hb196 (OP.val (v := v34) rfl (x_mv f72) ?_))
                  obtain ⟨x197, hx198, hm⟩ := bndE hm
                  refine OW.cons (OP.yes' rfl rfl hb196 (OP.call rfl (x_call (vs := [v55, v34]) Try_C15 ⟨rfl, rfl, trivial⟩) (M.laws_eqFinishS_ok _ x52.1 (hL.rdO 2 rfl) x31.1 (hL.rdO 5 rfl) hx198) ?_))
                  rintro e199 wd200 ⟨rfl, hF201⟩
                  refine ⟨_, rfl, ?_⟩
                  have hL := hL.pushAll hF201
                  simp only [lA, lB, lC, lD] at hL
                  refine OW.cons (OP.yes' rfl rfl hb196 (OP.val (v := (.bool (!x197))) rfl (x_not rfl) ?_))
                  refine OW.cons (OP.val (v := (.bool (!x197))) rfl (x_pickF' rfl hb196 rfl) ?_)
                  refine OW.cons (OP.val (v := (.bool (!x197))) rfl (x_move) ?_)
                  refine ifB_elim hm (fun hb202 hm => ?_) (fun hb202 hm => ?_)
                  · refine OW.cons (OP.no' rfl rfl hb202 rfl ?_)
                    refine OW.cons (OP.no' rfl rfl hb202 rfl ?_)
                    refine OW.cons (OP.no' rfl rfl hb202 rfl ?_)
                    refine OW.cons (OP.val (v := (.bool true)) rfl (x_pickT' rfl hb202 rfl) ?_)
                    refine OW.nil ?_
                    have hL := hL.sel [2, 5, 6] (by decide) rfl
                    exact ⟨true, hm, ⟨f67, f68, f69, f70, f71, f72, f73, f76, rfl, hL⟩⟩
                  · refine OW.cons (OP.yes' rfl rfl hb202 (OP.val (v := (.int .i64 x52.2)) rfl (x_mv f77) ?_))
                    refine OW.cons (OP.yes' rfl rfl hb202 (OP.val (v := (.int .i64 x31.2)) rfl (x_mv f73) ?_))
                    refine OW.cons (OP.yes' rfl rfl hb202 (OP.val (v := (.bool (x52.2 != x31.2))) rfl (x_neq rfl rfl) ?_))
                    refine OW.cons (OP.val (v := (.bool (x52.2 != x31.2))) rfl (x_pickF' rfl hb202 rfl) ?_)
                    refine OW.nil ?_
                    have hL := hL.sel [2, 5, 6] (by decide) rfl
                    exact ⟨x52.2 != x31.2, hm, ⟨f67, f68, f69, f70, f71, f72, f73, f76, rfl, hL⟩⟩
              · intro s_j2 F125 wd126 hJ hm
                unfold M.laws_FnExactCorrectByCurves_j2 at hm
                obtain ⟨f127, f128, f129, f130, f131, f132, f133, f134, f135, hL⟩ := hJ
                refine CW.condM (t := s_j2) f135 hm (fun hb136 hm => ?_) (fun hb136 hm => ?_)
                · refine CW.seq ?_
                  refine CW.regionL ?_
                  refine OW.cons (OP.val (v := (.bool false)) rfl (x_assign) ?_)
                  refine OW.nil ?_
                  refine CW.ret ?_
                  obtain rfl := Option.some.inj hm
                  exact RR1 rfl rfl ⟨rfl, hL.fresh 2 rfl [] (by decide) (by decide) rfl⟩
                · refine CW.skip ?_
                  refine CW.seq ?_
                  refine CW.regionL ?_
                  refine OW.cons (OP.val (v := (.int .i64 1)) rfl (x_assign) ?_)
                  refine OW.nil ?_
                  refine CW.seq ?_
                  refine CW.regionL ?_
                  refine OW.cons (OP.val (v := v55) rfl (x_mv f134) ?_)
                  refine OW.cons (OP.val (v := (.int .i64 1)) rfl (x_move) ?_)
                  obtain ⟨x137, hx138, hm⟩ := bndE hm
                  refine OW.cons (OP.call rfl (x_call (vs := [v55, (.int .i64 1)]) Try_C17 ⟨rfl, rfl, trivial⟩) (M.laws_markFinishS_ok _ x52.1 (hL.get 0 rfl) 1 hx138) ?_)
                  rintro e139 wd140 ⟨S142, rfl, hF141⟩
                  refine ⟨_, rfl, ?_⟩
                  have hL := hL.mut 0 rfl hF141
                  simp only [lA, lB, lC, lD] at hL
                  refine OW.cons (OP.val (v := (.int .i64 x137.1)) rfl (x_assign) ?_)
                  refine OW.nil ?_
                  refine CW.seq ?_
                  refine CW.regionL ?_
                  refine OW.cons (OP.val (v := (.int .i64 1)) rfl (x_assign) ?_)
                  refine OW.nil ?_
                  refine CW.seq ?_
                  refine CW.regionL ?_
                  refine OW.cons (OP.val (v := v55) rfl (x_mv f134) ?_)
                  refine OW.cons (OP.val (v := (.int .i64 1)) rfl (x_move) ?_)
                  obtain ⟨x143, hx144, hm⟩ := bndE hm
                  refine OW.cons (OP.call rfl (x_call (vs := [v55, (.int .i64 1)]) Try_C19 ⟨rfl, rfl, trivial⟩) (M.laws_heldFinishS_ok _ x137.2 (hL.rdO 0 rfl) 1 hx144) ?_)
                  rintro e145 wd146 ⟨rfl, hF147⟩
                  refine ⟨_, rfl, ?_⟩
                  have hL := hL.pushAll hF147
                  simp only [lA, lB, lC, lD] at hL
                  refine OW.cons (OP.val (v := (.int .i64 x143)) rfl (x_assign) ?_)
                  refine OW.nil ?_
                  refine CW.seq ?_
                  refine CW.seq ?_
                  refine CW.regionL ?_
                  refine OW.cons (OP.val (v := (.int .i64 x143)) rfl (x_move) ?_)
                  refine OW.cons (OP.val (v := (.bool (decide (x143 < 0)))) rfl (x_lss rfl rfl) ?_)
                  refine OW.nil ?_
                  refine CW.condM (t := decide (x143 < 0)) rfl hm (fun hb148 hm => ?_) (fun hb148 hm => ?_)
                  · refine CW.seq ?_
                    refine CW.regionL ?_
                    refine OW.cons (OP.val (v := (.bool false)) rfl (x_assign) ?_)
                    refine OW.nil ?_
                    refine CW.ret ?_
                    obtain rfl := Option.some.inj hm
                    exact RR1 rfl rfl ⟨rfl, hL.fresh 2 rfl [] (by decide) (by decide) rfl⟩
                  · refine CW.skip ?_
                    refine CW.seq ?_
                    refine CW.seq ?_
                    refine CW.regionL ?_
                    refine OW.cons (OP.val (v := (.int .i64 x143)) rfl (x_move) ?_)
                    refine OW.cons (OP.val (v := (.int .i64 x137.1)) rfl (x_move) ?_)
                    refine OW.cons (OP.val (v := (.bool (x143 != x137.1))) rfl (x_neq rfl rfl) ?_)
                    refine OW.nil ?_
                    refine CW.condM (t := x143 != x137.1) rfl hm (fun hb149 hm => ?_) (fun hb149 hm => ?_)
                    · refine CW.seq ?_
                      refine CW.regionL ?_
                      refine OW.cons (OP.val (v := (.bool false)) rfl (x_assign) ?_)
                      refine OW.nil ?_
                      refine CW.ret ?_
                      obtain rfl := Option.some.inj hm
                      exact RR1 rfl rfl ⟨rfl, hL.fresh 2 rfl [] (by decide) (by decide) rfl⟩
                    · refine CW.skip ?_
                      refine CW.seq ?_
                      refine CW.regionL ?_
                      refine OW.cons (OP.val (v := (.int .i64 a0)) rfl (x_mv f127) ?_)
                      refine OW.cons (OP.val (v := v1) rfl (x_mv f128) ?_)
                      obtain ⟨x150, hx151, hm⟩ := bndE hm
                      refine OW.cons (OP.call rfl (x_call (vs := [v1]) Try_C13 ⟨rfl, trivial⟩) (M.laws_toFinishS_ok _ a1 (hL.rdS 2 rfl h2) hx151) ?_)
                      rintro e154 wd155 ⟨v153, S152, rfl, hF156⟩
                      refine ⟨_, rfl, ?_⟩
                      have hL := hL.pushAll hF156
                      simp only [lA, lB, lC, lD] at hL
                      refine OW.cons (OP.val (v := v3) rfl (x_mv f129) ?_)
                      obtain ⟨x157, hx158, hm⟩ := bndE hm
                      refine OW.cons (OP.call rfl (x_call (vs := [v3]) Try_C14 ⟨rfl, trivial⟩) (M.laws_toCurvePointSS_ok _ a2 (hL.rdS 3 rfl h4) hx158) ?_)
                      rintro e161 wd162 ⟨v160, S159, rfl, hF163⟩
                      refine ⟨_, rfl, ?_⟩
                      have hL := hL.pushAll hF163
                      simp only [lA, lB, lC, lD] at hL
                      refine OW.cons (OP.val (v := (.int .i64 a3)) rfl (x_mv f130) ?_)
                      refine OW.cons (OP.val (v := (.int .i64 a4)) rfl (x_mv f131) ?_)
                      obtain ⟨x164, hx165, hm⟩ := bndE hm
                      refine OW.cons (OP.call rfl (x_call (vs := [(.int .i64 a0), v153, v160, (.int .i64 a3), (.int .i64 a4)]) Try_C8 ⟨rfl, rfl, rfl, rfl, rfl, trivial⟩) (M.impl_CorrectByCurves_ok _ a0 x150 (hL.rdO 1 rfl) x157 (hL.rdO 0 rfl) a3 a4 hx165) ?_)
                      rintro e168 wd169 ⟨v167, S166, rfl, hF170⟩
                      refine ⟨_, rfl, ?_⟩
                      have hL := hL.pushAll hF170
                      simp only [lA, lB, lC, lD] at hL
                      refine OW.cons (OP.val (v := (.tuple #[v167, (.int .i64 x164.2)])) rfl (x_move) ?_)
                      refine OW.cons (OP.val (v := v167) rfl (x_extract rfl rfl) ?_)
                      refine OW.cons (OP.val (v := (.int .i64 x164.2)) rfl (x_extract rfl rfl) ?_)
                      refine OW.cons (OP.val (v := v167) rfl (x_assign) ?_)
                      refine OW.cons (OP.val (v := (.int .i64 x164.2)) rfl (x_assign) ?_)
                      refine OW.nil ?_
                      refine CW.seq ?_
                      refine CW.seqJ (fun (s_j3 : Bool) (F : Fr) (w : World) => F 16 = v55 ∧ F 19 = (.int .i64 x137.1) ∧ F 125 = (.bool s_j3) ∧ Hp w0 [Ent.own 31 S142 v55 x137.2, Ent.snap w0 w0.heap.size] w) (fun s_j3 => M.laws_FnExactCorrectByCurves_j3 x137 s_j3 = some r) ?_ ?_
                      · refine CW.regionL ?_
                        refine OW.cons (OP.val (v := v167) rfl (x_move) ?_)
                        refine OW.cons (OP.val (v := v34) rfl (x_mv f132) ?_)
                        obtain ⟨x190, hx191, hm⟩ := bndE hm
                        refine OW.cons (OP.call rfl (x_call (vs := [v167, v34]) Try_C15 ⟨rfl, rfl, trivial⟩) (M.laws_eqFinishS_ok _ x164.1 (hL.rdO 0 rfl) x31.1 (hL.rdO 4 rfl) hx191) ?_)
                        rintro e192 wd193 ⟨rfl, hF194⟩
                        refine ⟨_, rfl, ?_⟩
                        have hL := hL.pushAll hF194
                        simp only [lA, lB, lC, lD] at hL
                        refine OW.cons (OP.val (v := (.bool (!x190))) rfl (x_not rfl) ?_)
                        refine OW.cons (OP.val (v := (.bool (!x190))) rfl (x_move) ?_)
                        refine ifB_elim hm (fun hb195 hm => ?_) (fun hb195 hm => ?_)
                        · refine OW.cons (OP.no' rfl rfl hb195 rfl ?_)
                          refine OW.cons (OP.no' rfl rfl hb195 rfl ?_)
                          refine OW.cons (OP.no' rfl rfl hb195 rfl ?_)
                          refine OW.cons (OP.val (v := (.bool true)) rfl (x_pickT' rfl hb195 rfl) ?_)
                          refine OW.nil ?_
                          have hL := hL.sel [3, 5] (by decide) rfl
                          exact ⟨true, hm, ⟨f134, rfl, rfl, hL⟩⟩
                        · refine OW.cons (OP.yes' rfl rfl hb195 (OP.val (v := (.int .i64 x164.2)) rfl (x_move) ?_))
                          refine OW.cons (OP.yes' rfl rfl hb195 (OP.val (v := (.int .i64 x31.2)) rfl (x_mv f133) ?_))
                          refine OW.cons (OP.yes' rfl rfl hb195 (OP.val (v := (.bool (x164.2 != x31.2))) rfl (x_neq rfl rfl) ?_))
                          refine OW.cons (OP.val (v := (.bool (x164.2 != x31.2))) rfl (x_pickF' rfl hb195 rfl) ?_)
                          refine OW.nil ?_
                          have hL := hL.sel [3, 5] (by decide) rfl
                          exact ⟨x164.2 != x31.2, hm, ⟨f134, rfl, rfl, hL⟩⟩
                      · intro s_j3 F177 wd178 hJ hm
                        unfold M.laws_FnExactCorrectByCurves_j3 at hm
                        obtain ⟨f179, f180, f181, hL⟩ := hJ
                        refine CW.condM (t := s_j3) f181 hm (fun hb182 hm => ?_) (fun hb182 hm => ?_)
                        · refine CW.seq ?_
                          refine CW.regionL ?_
                          refine OW.cons (OP.val (v := (.bool false)) rfl (x_assign) ?_)
                          refine OW.nil ?_
                          refine CW.ret ?_
                          obtain rfl := Option.some.inj hm
                          exact RR1 rfl rfl ⟨rfl, hL.fresh 1 rfl [] (by decide) (by decide) rfl⟩
                        · refine CW.skip ?_
                          refine CW.seq ?_
                          refine CW.regionL ?_
                          refine OW.cons (OP.val (v := (.int .i64 1)) rfl (x_assign) ?_)
                          refine OW.nil ?_
                          refine CW.seq ?_
                          refine CW.regionL ?_
                          refine OW.cons (OP.val (v := v55) rfl (x_mv f179) ?_)
                          refine OW.cons (OP.val (v := (.int .i64 1)) rfl (x_move) ?_)
                          obtain ⟨x183, hx184, hm⟩ := bndE hm
                          refine OW.cons (OP.call rfl (x_call (vs := [v55, (.int .i64 1)]) Try_C19 ⟨rfl, rfl, trivial⟩) (M.laws_heldFinishS_ok _ x137.2 (hL.rdO 0 rfl) 1 hx184) ?_)
                          rintro e185 wd186 ⟨rfl, hF187⟩
                          refine ⟨_, rfl, ?_⟩
                          have hL := hL.pushAll hF187
                          simp only [lA, lB, lC, lD] at hL
                          refine OW.cons (OP.val (v := (.int .i64 x183)) rfl (x_assign) ?_)
                          refine OW.nil ?_
                          refine CW.seq ?_
                          refine CW.seq ?_
                          refine CW.regionL ?_
                          refine OW.cons (OP.val (v := (.int .i64 x183)) rfl (x_move) ?_)
                          refine OW.cons (OP.val (v := (.bool (decide (x183 < 0)))) rfl (x_lss rfl rfl) ?_)
                          refine OW.nil ?_
                          refine CW.condM (t := decide (x183 < 0)) rfl hm (fun hb188 hm => ?_) (fun hb188 hm => ?_)
                          · refine CW.seq ?_
                            refine CW.regionL ?_
                            refine OW.cons (OP.val (v := (.bool false)) rfl (x_assign) ?_)
                            refine OW.nil ?_
                            refine CW.ret ?_
                            obtain rfl := Option.some.inj hm
                            exact RR1 rfl rfl ⟨rfl, hL.fresh 1 rfl [] (by decide) (by decide) rfl⟩
                          · refine CW.skip ?_
                            refine CW.seq ?_
                            refine CW.seq ?_
                            refine CW.regionL ?_
                            refine OW.cons (OP.val (v := (.int .i64 x183)) rfl (x_move) ?_)
                            refine OW.cons (OP.val (v := (.int .i64 x137.1)) rfl (x_mv f180) ?_)
                            refine OW.cons (OP.val (v := (.bool (x183 != x137.1))) rfl (x_neq rfl rfl) ?_)
                            refine OW.nil ?_
                            refine CW.condM (t := x183 != x137.1) rfl hm (fun hb189 hm => ?_) (fun hb189 hm => ?_)
                            · refine CW.seq ?_
                              refine CW.regionL ?_
                              refine OW.cons (OP.val (v := (.bool false)) rfl (x_assign) ?_)
                              refine OW.nil ?_
                              refine CW.ret ?_
                              obtain rfl := Option.some.inj hm
                              exact RR1 rfl rfl ⟨rfl, hL.fresh 1 rfl [] (by decide) (by decide) rfl⟩
                            · refine CW.skip ?_
                              refine CW.seq ?_
                              refine CW.regionL ?_
                              refine OW.cons (OP.val (v := (.bool true)) rfl (x_assign) ?_)
                              refine OW.nil ?_
                              refine CW.ret ?_
                              obtain rfl := Option.some.inj hm
                              exact RR1 rfl rfl ⟨rfl, hL.fresh 1 rfl [] (by decide) (by decide) rfl⟩

end Go.Proofs.Ytpnehnkhhibliaa
