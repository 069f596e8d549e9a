/- Links: each Go function returns what its model computes and leaves what was there. Printed by my generator. -/
import Derived.Test.YtpnehnkhhibliaaLnkFnByCurvesA
namespace Go.Proofs.Ytpnehnkhhibliaa
set_option maxRecDepth 10000
open Go Go.RowKit Go.ChangeShapes Go.WideShapes
set_option linter.unusedVariables false
set_option linter.unusedSimpArgs false

theorem M.spec_l24Pace_ok (w0 : World) (a0 : List CurvePoint) {v1 : Value} (h2 : rdL (· < w0.heap.size) w0 v1 a0) (a1 : Int) {r : Int} (hm : M.spec_l24Pace a0 a1 = some r) :
    Calls Try.prog 62 #[v1, (.int .i64 a1)] w0 fun e w' => e = .returned (.int .i64 r) ∧ Fresh w0 w' [] := by
  unfold M.spec_l24Pace at hm
  refine calls_CW (args := [v1, (.int .i64 a1)]) Try.func62 rfl rfl rfl ?_
  have hL := Hp.start w0
  refine CW.seq ?_
  refine CW.regionL ?_
  refine OW.cons (OP.val (v := (.int .i64 0)) rfl (x_assign) ?_)
  refine OW.nil ?_
  refine CW.seq ?_
  refine CW.seq ?_
  refine CW.regionL ?_
  refine OW.cons (OP.val (v := (.int .i64 a1)) rfl (x_move) ?_)
  refine OW.cons (OP.val (v := v1) rfl (x_move) ?_)
  obtain ⟨x3, ha4, hm⟩ := bndE hm
  obtain ⟨hz5, ha9⟩ := idxE ha4
  obtain ⟨b6, q7, hix8⟩ := rdL_ix (hL.rdS 0 rfl h2) hz5 ha9
  refine OW.cons (OP.val (v := (.pointer (some ⟨b6, q7, none⟩))) rfl (x_ix Try.underlying34 Try_T62 rfl rfl hix8) ?_)
  refine OW.cons (OP.val (v := (.pointer (some ⟨b6, q7, none⟩))) rfl (x_fieldAddr (fsz := 1) q7 0 q7 Try.underlying62 rfl Try_T2 rfl rfl rfl) ?_)
  refine OW.cons (OP.val (v := (.int .i64 x3.Wind)) rfl (x_load1 Try.underlying2 rfl rfl (rdF_cells (hL.rdS 0 rfl h2) hix8 ha9 0 _ rfl)) ?_)
  refine OW.cons (OP.val (v := (.bool (decide (a1 ≤ x3.Wind)))) rfl (x_leq rfl rfl) ?_)
  refine OW.nil ?_
  refine CW.condM (t := decide (a1 ≤ x3.Wind)) rfl hm (fun hb10 hm => ?_) (fun hb10 hm => ?_)
  · refine CW.seq ?_
    refine CW.regionL ?_
    refine OW.cons (OP.val (v := v1) rfl (x_move) ?_)
    obtain ⟨x11, ha12, hm⟩ := bndE hm
    obtain ⟨hz13, ha17⟩ := idxE ha12
    obtain ⟨b14, q15, hix16⟩ := rdL_ix (hL.rdS 0 rfl h2) hz13 ha17
    refine OW.cons (OP.val (v := (.pointer (some ⟨b14, q15, none⟩))) rfl (x_ix Try.underlying34 Try_T62 rfl rfl hix16) ?_)
    refine OW.cons (OP.val (v := (.pointer (some ⟨b14, q15 + 1, none⟩))) rfl (x_fieldAddr (fsz := 1) q15 1 (q15 + 1) Try.underlying62 rfl Try_T2 rfl rfl rfl) ?_)
    refine OW.cons (OP.val (v := (.int .i64 x11.Pace)) rfl (x_load1 Try.underlying2 rfl rfl (rdF_cells (hL.rdS 0 rfl h2) hix16 ha17 1 _ rfl)) ?_)
    refine OW.cons (OP.val (v := (.int .i64 x11.Pace)) rfl (x_assign) ?_)
    refine OW.nil ?_
    refine CW.ret ?_
    obtain rfl := Option.some.inj hm
    exact RR1 rfl rfl ⟨rfl, hL.fresh 0 rfl [] (by decide) (by decide) rfl⟩
  · refine CW.skip ?_
    refine CW.seq ?_
    refine CW.seq ?_
    refine CW.regionL ?_
    refine OW.cons (OP.val (v := (.int .i64 1)) rfl (x_assign) ?_)
    refine OW.nil ?_
    obtain ⟨o134, ho135, hm⟩ := bndE hm
    refine CW.loopB (fun (s_l1 : Int) (F : Fr) (w : World) => F 0 = v1 ∧ F 1 = (.int .i64 a1) ∧ F 5 = (.int .i64 s_l1) ∧ Hp w0 [Ent.snap w0 w0.heap.size] w) (fun o => outc o (fun x => some x) (fun s => M.spec_l24Pace_a1 a0 s) = some r) ho135 hm ⟨rfl, rfl, rfl, hL⟩ ?_ ?_
    · intro s_l1 F136 wd137 hJ hm
      have hm := outcE hm
      have hm : M.spec_l24Pace_a1 a0 s_l1 = some r := hm
      unfold M.spec_l24Pace_a1 at hm
      obtain ⟨f138, f139, f140, hL⟩ := hJ
      refine CW.seq ?_
      refine CW.regionL ?_
      refine OW.cons (OP.val (v := v1) rfl (x_mv f138) ?_)
      refine OW.cons (OP.val (v := v1) rfl (x_mv f138) ?_)
      refine OW.cons (OP.val (v := (.int .i64 (a0.length : Int))) rfl (x_lenR Try.underlying34 rfl (hL.rdS 0 rfl h2)) ?_)
      refine OW.cons (OP.val (v := (.int .i64 (w64 ((a0.length : Int) - 1)))) rfl (x_sub rfl rfl) ?_)
      obtain ⟨x141, ha142, hm⟩ := bndE hm
      obtain ⟨hz143, ha147⟩ := idxE ha142
      obtain ⟨b144, q145, hix146⟩ := rdL_ix (hL.rdS 0 rfl h2) hz143 ha147
      refine OW.cons (OP.val (v := (.pointer (some ⟨b144, q145, none⟩))) rfl (x_ix Try.underlying34 Try_T62 rfl rfl hix146) ?_)
      refine OW.cons (OP.val (v := (.pointer (some ⟨b144, q145 + 1, none⟩))) rfl (x_fieldAddr (fsz := 1) q145 1 (q145 + 1) Try.underlying62 rfl Try_T2 rfl rfl rfl) ?_)
      refine OW.cons (OP.val (v := (.int .i64 x141.Pace)) rfl (x_load1 Try.underlying2 rfl rfl (rdF_cells (hL.rdS 0 rfl h2) hix146 ha147 1 _ rfl)) ?_)
      refine OW.cons (OP.val (v := (.int .i64 x141.Pace)) rfl (x_assign) ?_)
      refine OW.nil ?_
      refine CW.ret ?_
      obtain rfl := Option.some.inj hm
      exact RR1 rfl rfl ⟨rfl, hL.fresh 0 rfl [] (by decide) (by decide) rfl⟩
    · intro s_l1 F148 wd149 t132 hJ hm hr133
      unfold M.spec_l24Pace_l1 at hm
      obtain ⟨f150, f151, f152, hL⟩ := hJ
      refine CW.seq ?_
      refine CW.seq ?_
      refine CW.regionL ?_
      refine OW.cons (OP.val (v := (.int .i64 s_l1)) rfl (x_mv f152) ?_)
      refine OW.cons (OP.val (v := v1) rfl (x_mv f150) ?_)
      refine OW.cons (OP.val (v := (.int .i64 (a0.length : Int))) rfl (x_lenR Try.underlying34 rfl (hL.rdS 0 rfl h2)) ?_)
      refine OW.cons (OP.val (v := (.bool (decide (s_l1 < (a0.length : Int))))) rfl (x_lss rfl rfl) ?_)
      refine OW.nil ?_
      refine CW.condM (t := decide (s_l1 < (a0.length : Int))) rfl hm (fun hb153 hm => ?_) (fun hb153 hm => ?_)
      · refine CW.skip ?_
        refine CW.seq ?_
        refine CW.block ?_
        refine CW.seq ?_
        refine CW.drawH (fun w' => Hp w0 [Ent.snap w0 w0.heap.size] w') Try_mixed ?_
        have hL := hL.call (Mod.drew _)
        have hS := (hL.sel [0] (by decide) rfl)
        refine DH.take 0 rfl (by kernel_rfl) (by kernel_rfl) (by kernel_rfl) rfl rfl hS (YH.val (v := v1) (fun w' hS' => x_mv f150)) ?_
        have hS := (hL.sel [0] (by decide) rfl)
        refine DH.take 1 rfl (by kernel_rfl) (by kernel_rfl) (by kernel_rfl) rfl rfl hS (YH.val (v := (.int .i64 s_l1)) (fun w' hS' => x_mv f152)) ?_
        have hS := (hL.sel [0] (by decide) rfl)
        refine DH.take 2 rfl (by kernel_rfl) (by kernel_rfl) (by kernel_rfl) rfl rfl hS (YH.val (v := (.int .i64 (w64 (s_l1 - 1)))) (fun w' hS' => x_sub rfl rfl)) ?_
        have hS := (hL.sel [0] (by decide) rfl)
        obtain ⟨x174, ha175, hm⟩ := bndE hm
        obtain ⟨hz176, ha180⟩ := idxE ha175
        obtain ⟨b177, q178, hix179⟩ := rdL_ix (hL.rdS 0 rfl h2) hz176 ha180
        refine DH.take 3 rfl (by kernel_rfl) (by kernel_rfl) (by kernel_rfl) rfl rfl hS (YH.val (v := (.pointer (some ⟨b177, q178, none⟩))) (fun w' hS' => x_ix Try.underlying34 Try_T62 rfl rfl hix179)) ?_
        have hS := (hL.sel [0] (by decide) rfl)
        refine DH.take 4 rfl (by kernel_rfl) (by kernel_rfl) (by kernel_rfl) rfl rfl hS (YH.val (v := (.agg #[(.int .i64 x174.Wind), (.int .i64 x174.Pace)])) (fun w' hS' => x_loadN (cs := [(.int .i64 x174.Wind), (.int .i64 x174.Pace)]) Try.underlying62 Try_T62 rfl rfl (rdF_cells (hS'.rdS 0 rfl h2) hix179 ha180))) ?_
        have hS := (hL.sel [0] (by decide) rfl)
        refine DH.take 5 rfl (by kernel_rfl) (by kernel_rfl) (by kernel_rfl) rfl rfl hS (YH.val (v := v1) (fun w' hS' => x_mv f150)) ?_
        have hS := (hL.sel [0] (by decide) rfl)
        refine DH.take 6 rfl (by kernel_rfl) (by kernel_rfl) (by kernel_rfl) rfl rfl hS (YH.val (v := (.int .i64 s_l1)) (fun w' hS' => x_mv f152)) ?_
        have hS := (hL.sel [0] (by decide) rfl)
        obtain ⟨x181, ha182, hm⟩ := bndE hm
        obtain ⟨hz183, ha187⟩ := idxE ha182
        obtain ⟨b184, q185, hix186⟩ := rdL_ix (hL.rdS 0 rfl h2) hz183 ha187
        refine DH.take 7 rfl (by kernel_rfl) (by kernel_rfl) (by kernel_rfl) rfl rfl hS (YH.val (v := (.pointer (some ⟨b184, q185, none⟩))) (fun w' hS' => x_ix Try.underlying34 Try_T62 rfl rfl hix186)) ?_
        have hS := (hL.sel [0] (by decide) rfl)
        refine DH.take 8 rfl (by kernel_rfl) (by kernel_rfl) (by kernel_rfl) rfl rfl hS (YH.val (v := (.agg #[(.int .i64 x181.Wind), (.int .i64 x181.Pace)])) (fun w' hS' => x_loadN (cs := [(.int .i64 x181.Wind), (.int .i64 x181.Pace)]) Try.underlying62 Try_T62 rfl rfl (rdF_cells (hS'.rdS 0 rfl h2) hix186 ha187))) ?_
        refine DH.all (rs := [9, 10]) (by kernel_rfl) (by simp) ?_
        intro i188 hi189
        simp only [List.mem_cons, List.not_mem_nil, or_false] at hi189
        rcases hi189 with rfl | rfl
        · refine ⟨_, rfl, ?_⟩
          refine S_alloc (cs := #[(.int .i64 0), (.int .i64 0)]) hL Try_T62 rfl rfl ?_
          intro wd190 b191 hL
          refine ⟨(hL.sel [1] (by decide) rfl), ?_⟩
          refine DH.only 10 rfl (by kernel_rfl) (S_alloc (cs := #[(.int .i64 0), (.int .i64 0)]) hL Try_T62 rfl rfl ?_)
          intro wd192 b193 hL
          refine ⟨(hL.sel [2] (by decide) rfl), ?_⟩
          refine DH.only 11 rfl (by kernel_rfl) (S_storeN (l := [(.int .i64 x174.Wind), (.int .i64 x174.Pace)]) (cs' := #[(.int .i64 x174.Wind), (.int .i64 x174.Pace)]) hL 1 rfl Try_T62 rfl rfl (List.forall_mem_cons.2 ⟨rfl, (List.forall_mem_cons.2 ⟨rfl, (fun _ h => by cases h)⟩)⟩) rfl (Nat.le_of_ble_eq_true rfl) rfl ?_)
          intro wd194 hL
          refine ⟨(hL.sel [2] (by decide) rfl), ?_⟩
          refine DH.only 12 rfl (by kernel_rfl) (S_storeN (l := [(.int .i64 x181.Wind), (.int .i64 x181.Pace)]) (cs' := #[(.int .i64 x181.Wind), (.int .i64 x181.Pace)]) hL 0 rfl Try_T62 rfl rfl (List.forall_mem_cons.2 ⟨rfl, (List.forall_mem_cons.2 ⟨rfl, (fun _ h => by cases h)⟩)⟩) rfl (Nat.le_of_ble_eq_true rfl) rfl ?_)
          intro wd195 hL
          refine ⟨(hL.sel [2] (by decide) rfl), ?_⟩
          refine DH.done (by kernel_rfl) ?_
          refine CW.seq ?_
          refine CW.regionL ?_
          refine OW.cons (OP.val (v := (.int .i64 a1)) rfl (x_mv f151) ?_)
          refine OW.cons (OP.val (v := (.pointer (some ⟨b193, 0, none⟩))) rfl (x_fieldAddr (fsz := 1) 0 0 0 Try.underlying62 rfl Try_T2 rfl rfl rfl) ?_)
          refine OW.cons (OP.val (v := (.int .i64 x181.Wind)) rfl (x_load1 Try.underlying2 rfl rfl (hL.cellB 0 rfl rfl)) ?_)
          refine OW.cons (OP.val (v := (.bool (decide (a1 ≤ x181.Wind)))) rfl (x_leq rfl rfl) ?_)
          refine OW.nil ?_
          refine CW.condM (t := decide (a1 ≤ x181.Wind)) rfl hm (fun hb196 hm => ?_) (fun hb196 hm => ?_)
          · refine CW.seq ?_
            refine CW.draw Try_mixed ?_
            have hL := hL.call (Mod.drew _)
            refine DW.pre (fuel := 0) (fin := (((((((((((((((((((((Array.replicate 20 false).setIfInBounds 0 true).setIfInBounds 1 true).setIfInBounds 2 true).setIfInBounds 3 true).setIfInBounds 4 true).setIfInBounds 5 true).setIfInBounds 6 true).setIfInBounds 7 true).setIfInBounds 8 true).setIfInBounds 9 true).setIfInBounds 10 true).setIfInBounds 11 true).setIfInBounds 12 true).setIfInBounds 13 true).setIfInBounds 14 true).setIfInBounds 15 true).setIfInBounds 16 true).setIfInBounds 17 true).setIfInBounds 18 true).setIfInBounds 19 true)) (C := fun w' => Mod None_ _ w') [0, 1, 2, 3, 4, 5, 6, 7, 8, 9, 10, 11, 12, 13, 14, 15, 16, 17, 18, 19] (Mod.refl _ _) (by kernel_rfl) (by kernel_rfl) ?_
            refine QW.cons rfl (QP.val (v := (.pointer (some ⟨b191, 1, none⟩))) rfl (fun w' hm' => x_fieldAddr (fsz := 1) 0 1 1 Try.underlying62 rfl Try_T2 rfl rfl rfl) ?_)
            refine QW.cons rfl (QP.val (v := (.int .i64 x174.Pace)) rfl (fun w' hm' => x_load1 Try.underlying2 rfl rfl ((hL.call hm').cellB 1 rfl rfl)) ?_)
            refine QW.cons rfl (QP.val (v := (.pointer (some ⟨b193, 1, none⟩))) rfl (fun w' hm' => x_fieldAddr (fsz := 1) 0 1 1 Try.underlying62 rfl Try_T2 rfl rfl rfl) ?_)
            refine QW.cons rfl (QP.val (v := (.int .i64 x181.Pace)) rfl (fun w' hm' => x_load1 Try.underlying2 rfl rfl ((hL.call hm').cellB 0 rfl rfl)) ?_)
            refine QW.cons rfl (QP.val (v := (.pointer (some ⟨b191, 1, none⟩))) rfl (fun w' hm' => x_fieldAddr (fsz := 1) 0 1 1 Try.underlying62 rfl Try_T2 rfl rfl rfl) ?_)
            refine QW.cons rfl (QP.val (v := (.int .i64 x174.Pace)) rfl (fun w' hm' => x_load1 Try.underlying2 rfl rfl ((hL.call hm').cellB 1 rfl rfl)) ?_)
            refine QW.cons rfl (QP.val (v := (.int .i64 (w64 (x181.Pace - x174.Pace)))) rfl (fun w' hm' => x_sub rfl rfl) ?_)
            refine QW.cons rfl (QP.val (v := (.int .i64 a1)) rfl (fun w' hm' => x_mv f151) ?_)
            refine QW.cons rfl (QP.val (v := (.pointer (some ⟨b191, 0, none⟩))) rfl (fun w' hm' => x_fieldAddr (fsz := 1) 0 0 0 Try.underlying62 rfl Try_T2 rfl rfl rfl) ?_)
            refine QW.cons rfl (QP.val (v := (.int .i64 x174.Wind)) rfl (fun w' hm' => x_load1 Try.underlying2 rfl rfl ((hL.call hm').cellB 1 rfl rfl)) ?_)
            refine QW.cons rfl (QP.val (v := (.int .i64 (w64 (a1 - x174.Wind)))) rfl (fun w' hm' => x_sub rfl rfl) ?_)
            refine QW.cons rfl (QP.val (v := (.int .i64 (w64 ((w64 (x181.Pace - x174.Pace)) * (w64 (a1 - x174.Wind)))))) rfl (fun w' hm' => x_mul rfl rfl) ?_)
            refine QW.cons rfl (QP.val (v := (.pointer (some ⟨b193, 0, none⟩))) rfl (fun w' hm' => x_fieldAddr (fsz := 1) 0 0 0 Try.underlying62 rfl Try_T2 rfl rfl rfl) ?_)
            refine QW.cons rfl (QP.val (v := (.int .i64 x181.Wind)) rfl (fun w' hm' => x_load1 Try.underlying2 rfl rfl ((hL.call hm').cellB 0 rfl rfl)) ?_)
            refine QW.cons rfl (QP.val (v := (.pointer (some ⟨b191, 0, none⟩))) rfl (fun w' hm' => x_fieldAddr (fsz := 1) 0 0 0 Try.underlying62 rfl Try_T2 rfl rfl rfl) ?_)
            refine QW.cons rfl (QP.val (v := (.int .i64 x174.Wind)) rfl (fun w' hm' => x_load1 Try.underlying2 rfl rfl ((hL.call hm').cellB 1 rfl rfl)) ?_)
            refine QW.cons rfl (QP.val (v := (.int .i64 (w64 (x181.Wind - x174.Wind)))) rfl (fun w' hm' => x_sub rfl rfl) ?_)
            obtain ⟨x197, hx198, hm⟩ := bndE hm
            refine QW.cons rfl (QP.call (v := (.int .i64 x197)) rfl (fun w' hm' => x_call (vs := [(.int .i64 (w64 ((w64 (x181.Pace - x174.Pace)) * (w64 (a1 - x174.Wind))))), (.int .i64 (w64 (x181.Wind - x174.Wind)))]) Try_C69 ⟨rfl, rfl, trivial⟩) (fun w' hm' => (M.spec_l01Floor_ok w' (w64 ((w64 (x181.Pace - x174.Pace)) * (w64 (a1 - x174.Wind)))) (w64 (x181.Wind - x174.Wind)) hx198).mono (fun e w'' h => ⟨h.1, hm'.trans h.2.mod⟩)) ?_)
            refine QW.cons rfl (QP.val (v := (.int .i64 (w64 (x174.Pace + x197)))) rfl (fun w' hm' => x_add rfl rfl) ?_)
            refine QW.cons rfl (QP.val (v := (.int .i64 (w64 (x174.Pace + x197)))) rfl (fun w' hm' => x_assign) ?_)
            refine QW.nil ?_
            intro wd199 hmod
            have hL := hL.call hmod
            refine DW.done (by kernel_rfl) ?_
            refine CW.ret ?_
            obtain rfl := Option.some.inj hm
            have hm := hr133 _ rfl
            obtain rfl := Option.some.inj hm
            exact RR1 rfl rfl ⟨rfl, hL.fresh 2 rfl [] (by decide) (by decide) rfl⟩
          · refine CW.skip ?_
            refine CW.regionL ?_
            refine OW.cons (OP.val (v := (.int .i64 s_l1)) rfl (x_mv f152) ?_)
            refine OW.cons (OP.val (v := (.int .i64 (w64 (s_l1 + 1)))) rfl (x_add rfl rfl) ?_)
            refine OW.cons (OP.val (v := (.int .i64 (w64 (s_l1 + 1)))) rfl (x_assign) ?_)
            refine OW.nil ?_
            have hL := hL.sel [2] (by decide) rfl
            obtain rfl := Option.some.inj hm
            exact ⟨_, rfl, ⟨f150, f151, rfl, hL⟩⟩
        · refine ⟨_, rfl, ?_⟩
          refine S_alloc (cs := #[(.int .i64 0), (.int .i64 0)]) hL Try_T62 rfl rfl ?_
          intro wd200 b201 hL
          refine ⟨(hL.sel [1] (by decide) rfl), ?_⟩
          refine DH.only 9 rfl (by kernel_rfl) (S_alloc (cs := #[(.int .i64 0), (.int .i64 0)]) hL Try_T62 rfl rfl ?_)
          intro wd202 b203 hL
          refine ⟨(hL.sel [2] (by decide) rfl), ?_⟩
          refine DH.only 11 rfl (by kernel_rfl) (S_storeN (l := [(.int .i64 x174.Wind), (.int .i64 x174.Pace)]) (cs' := #[(.int .i64 x174.Wind), (.int .i64 x174.Pace)]) hL 0 rfl Try_T62 rfl rfl (List.forall_mem_cons.2 ⟨rfl, (List.forall_mem_cons.2 ⟨rfl, (fun _ h => by cases h)⟩)⟩) rfl (Nat.le_of_ble_eq_true rfl) rfl ?_)
          intro wd204 hL
          refine ⟨(hL.sel [2] (by decide) rfl), ?_⟩
          refine DH.only 12 rfl (by kernel_rfl) (S_storeN (l := [(.int .i64 x181.Wind), (.int .i64 x181.Pace)]) (cs' := #[(.int .i64 x181.Wind), (.int .i64 x181.Pace)]) hL 1 rfl Try_T62 rfl rfl (List.forall_mem_cons.2 ⟨rfl, (List.forall_mem_cons.2 ⟨rfl, (fun _ h => by cases h)⟩)⟩) rfl (Nat.le_of_ble_eq_true rfl) rfl ?_)
          intro wd205 hL
          refine ⟨(hL.sel [2] (by decide) rfl), ?_⟩
          refine DH.done (by kernel_rfl) ?_
          refine CW.seq ?_
          refine CW.regionL ?_
          refine OW.cons (OP.val (v := (.int .i64 a1)) rfl (x_mv f151) ?_)
          refine OW.cons (OP.val (v := (.pointer (some ⟨b201, 0, none⟩))) rfl (x_fieldAddr (fsz := 1) 0 0 0 Try.underlying62 rfl Try_T2 rfl rfl rfl) ?_)
          refine OW.cons (OP.val (v := (.int .i64 x181.Wind)) rfl (x_load1 Try.underlying2 rfl rfl (hL.cellB 1 rfl rfl)) ?_)
          refine OW.cons (OP.val (v := (.bool (decide (a1 ≤ x181.Wind)))) rfl (x_leq rfl rfl) ?_)
          refine OW.nil ?_
          refine CW.condM (t := decide (a1 ≤ x181.Wind)) rfl hm (fun hb206 hm => ?_) (fun hb206 hm => ?_)
          · refine CW.seq ?_
            refine CW.draw Try_mixed ?_
            have hL := hL.call (Mod.drew _)
            refine DW.pre (fuel := 0) (fin := (((((((((((((((((((((Array.replicate 20 false).setIfInBounds 0 true).setIfInBounds 1 true).setIfInBounds 2 true).setIfInBounds 3 true).setIfInBounds 4 true).setIfInBounds 5 true).setIfInBounds 6 true).setIfInBounds 7 true).setIfInBounds 8 true).setIfInBounds 9 true).setIfInBounds 10 true).setIfInBounds 11 true).setIfInBounds 12 true).setIfInBounds 13 true).setIfInBounds 14 true).setIfInBounds 15 true).setIfInBounds 16 true).setIfInBounds 17 true).setIfInBounds 18 true).setIfInBounds 19 true)) (C := fun w' => Mod None_ _ w') [0, 1, 2, 3, 4, 5, 6, 7, 8, 9, 10, 11, 12, 13, 14, 15, 16, 17, 18, 19] (Mod.refl _ _) (by kernel_rfl) (by kernel_rfl) ?_
            refine QW.cons rfl (QP.val (v := (.pointer (some ⟨b203, 1, none⟩))) rfl (fun w' hm' => x_fieldAddr (fsz := 1) 0 1 1 Try.underlying62 rfl Try_T2 rfl rfl rfl) ?_)
            refine QW.cons rfl (QP.val (v := (.int .i64 x174.Pace)) rfl (fun w' hm' => x_load1 Try.underlying2 rfl rfl ((hL.call hm').cellB 0 rfl rfl)) ?_)
            refine QW.cons rfl (QP.val (v := (.pointer (some ⟨b201, 1, none⟩))) rfl (fun w' hm' => x_fieldAddr (fsz := 1) 0 1 1 Try.underlying62 rfl Try_T2 rfl rfl rfl) ?_)
            refine QW.cons rfl (QP.val (v := (.int .i64 x181.Pace)) rfl (fun w' hm' => x_load1 Try.underlying2 rfl rfl ((hL.call hm').cellB 1 rfl rfl)) ?_)
            refine QW.cons rfl (QP.val (v := (.pointer (some ⟨b203, 1, none⟩))) rfl (fun w' hm' => x_fieldAddr (fsz := 1) 0 1 1 Try.underlying62 rfl Try_T2 rfl rfl rfl) ?_)
            refine QW.cons rfl (QP.val (v := (.int .i64 x174.Pace)) rfl (fun w' hm' => x_load1 Try.underlying2 rfl rfl ((hL.call hm').cellB 0 rfl rfl)) ?_)
            refine QW.cons rfl (QP.val (v := (.int .i64 (w64 (x181.Pace - x174.Pace)))) rfl (fun w' hm' => x_sub rfl rfl) ?_)
            refine QW.cons rfl (QP.val (v := (.int .i64 a1)) rfl (fun w' hm' => x_mv f151) ?_)
            refine QW.cons rfl (QP.val (v := (.pointer (some ⟨b203, 0, none⟩))) rfl (fun w' hm' => x_fieldAddr (fsz := 1) 0 0 0 Try.underlying62 rfl Try_T2 rfl rfl rfl) ?_)
            refine QW.cons rfl (QP.val (v := (.int .i64 x174.Wind)) rfl (fun w' hm' => x_load1 Try.underlying2 rfl rfl ((hL.call hm').cellB 0 rfl rfl)) ?_)
            refine QW.cons rfl (QP.val (v := (.int .i64 (w64 (a1 - x174.Wind)))) rfl (fun w' hm' => x_sub rfl rfl) ?_)
            refine QW.cons rfl (QP.val (v := (.int .i64 (w64 ((w64 (x181.Pace - x174.Pace)) * (w64 (a1 - x174.Wind)))))) rfl (fun w' hm' => x_mul rfl rfl) ?_)
            refine QW.cons rfl (QP.val (v := (.pointer (some ⟨b201, 0, none⟩))) rfl (fun w' hm' => x_fieldAddr (fsz := 1) 0 0 0 Try.underlying62 rfl Try_T2 rfl rfl rfl) ?_)
            refine QW.cons rfl (QP.val (v := (.int .i64 x181.Wind)) rfl (fun w' hm' => x_load1 Try.underlying2 rfl rfl ((hL.call hm').cellB 1 rfl rfl)) ?_)
            refine QW.cons rfl (QP.val (v := (.pointer (some ⟨b203, 0, none⟩))) rfl (fun w' hm' => x_fieldAddr (fsz := 1) 0 0 0 Try.underlying62 rfl Try_T2 rfl rfl rfl) ?_)
            refine QW.cons rfl (QP.val (v := (.int .i64 x174.Wind)) rfl (fun w' hm' => x_load1 Try.underlying2 rfl rfl ((hL.call hm').cellB 0 rfl rfl)) ?_)
            refine QW.cons rfl (QP.val (v := (.int .i64 (w64 (x181.Wind - x174.Wind)))) rfl (fun w' hm' => x_sub rfl rfl) ?_)
            obtain ⟨x207, hx208, hm⟩ := bndE hm
            refine QW.cons rfl (QP.call (v := (.int .i64 x207)) rfl (fun w' hm' => x_call (vs := [(.int .i64 (w64 ((w64 (x181.Pace - x174.Pace)) * (w64 (a1 - x174.Wind))))), (.int .i64 (w64 (x181.Wind - x174.Wind)))]) Try_C69 ⟨rfl, rfl, trivial⟩) (fun w' hm' => (M.spec_l01Floor_ok w' (w64 ((w64 (x181.Pace - x174.Pace)) * (w64 (a1 - x174.Wind)))) (w64 (x181.Wind - x174.Wind)) hx208).mono (fun e w'' h => ⟨h.1, hm'.trans h.2.mod⟩)) ?_)
            refine QW.cons rfl (QP.val (v := (.int .i64 (w64 (x174.Pace + x207)))) rfl (fun w' hm' => x_add rfl rfl) ?_)
            refine QW.cons rfl (QP.val (v := (.int .i64 (w64 (x174.Pace + x207)))) rfl (fun w' hm' => x_assign) ?_)
            refine QW.nil ?_
            intro wd209 hmod
            have hL := hL.call hmod
            refine DW.done (by kernel_rfl) ?_
            refine CW.ret ?_
            obtain rfl := Option.some.inj hm
            have hm := hr133 _ rfl
            obtain rfl := Option.some.inj hm
            exact RR1 rfl rfl ⟨rfl, hL.fresh 2 rfl [] (by decide) (by decide) rfl⟩
          · refine CW.skip ?_
            refine CW.regionL ?_
            refine OW.cons (OP.val (v := (.int .i64 s_l1)) rfl (x_mv f152) ?_)
            refine OW.cons (OP.val (v := (.int .i64 (w64 (s_l1 + 1)))) rfl (x_add rfl rfl) ?_)
            refine OW.cons (OP.val (v := (.int .i64 (w64 (s_l1 + 1)))) rfl (x_assign) ?_)
            refine OW.nil ?_
            have hL := hL.sel [2] (by decide) rfl
            obtain rfl := Option.some.inj hm
            exact ⟨_, rfl, ⟨f150, f151, rfl, hL⟩⟩
      · refine CW.exit ?_
        refine XJ.hit ?_
        obtain rfl := Option.some.inj hm
        exact ⟨_, rfl, ⟨f150, f151, f152, hL⟩⟩

theorem M.spec_l24Time_ok (w0 : World) (a0 : List CurvePoint) {v1 : Value} (h2 : rdL (· < w0.heap.size) w0 v1 a0) (a1 : Int) (a2 : Int) {r : Int} (hm : M.spec_l24Time a0 a1 a2 = some r) :
    Calls Try.prog 60 #[v1, (.int .i64 a1), (.int .i64 a2)] w0 fun e w' => e = .returned (.int .i64 r) ∧ Fresh w0 w' [] := by
  unfold M.spec_l24Time at hm
  refine calls_CW (args := [v1, (.int .i64 a1), (.int .i64 a2)]) Try.func60 rfl rfl rfl ?_
  have hL := Hp.start w0
  refine CW.seq ?_
  refine CW.regionL ?_
  refine OW.cons (OP.val (v := (.int .i64 0)) rfl (x_assign) ?_)
  refine OW.nil ?_
  refine CW.seq ?_
  refine CW.regionL ?_
  refine OW.cons (OP.val (v := v1) rfl (x_move) ?_)
  refine OW.cons (OP.val (v := (.int .i64 a1)) rfl (x_move) ?_)
  obtain ⟨x3, hx4, hm⟩ := bndE hm
  refine OW.cons (OP.call rfl (x_call (vs := [v1, (.int .i64 a1)]) Try_C62 ⟨rfl, rfl, trivial⟩) (M.spec_l24Pace_ok _ a0 (hL.rdS 0 rfl h2) a1 hx4) ?_)
  rintro e5 wd6 ⟨rfl, hF7⟩
  refine ⟨_, rfl, ?_⟩
  have hL := hL.pushAll hF7
  simp only [lA, lB, lC, lD] at hL
  refine OW.cons (OP.val (v := (.int .i64 a2)) rfl (x_move) ?_)
  refine OW.cons (OP.val (v := (.int .i64 (w64 (x3 * a2)))) rfl (x_mul rfl rfl) ?_)
  refine OW.cons (OP.val (v := (.int .i64 (w64 ((w64 (x3 * a2)) + 10000)))) rfl (x_add rfl rfl) ?_)
  refine OW.cons (OP.val (v := (.int .i64 (w64 ((w64 ((w64 (x3 * a2)) + 10000)) - 1)))) rfl (x_sub rfl rfl) ?_)
  refine OW.cons (OP.val (v := (.int .i64 (w64 ((w64 ((w64 ((w64 (x3 * a2)) + 10000)) - 1)).tdiv 10000)))) rfl (x_quo rfl rfl (by decide)) ?_)
  refine OW.cons (OP.val (v := (.int .i64 (w64 ((w64 ((w64 ((w64 (x3 * a2)) + 10000)) - 1)).tdiv 10000)))) rfl (x_assign) ?_)
  refine OW.nil ?_
  refine CW.ret ?_
  obtain rfl := Option.some.inj hm
  exact RR1 rfl rfl ⟨rfl, hL.fresh 0 rfl [] (by decide) (by decide) rfl⟩

theorem M.spec_l24Wind_ok (w0 : World) (a0 : List CurvePoint) {v1 : Value} (h2 : rdL (· < w0.heap.size) w0 v1 a0) (a1 : Int) (a2 : Int) {r : Int} (hm : M.spec_l24Wind a0 a1 a2 = some r) :
    Calls Try.prog 59 #[v1, (.int .i64 a1), (.int .i64 a2)] w0 fun e w' => e = .returned (.int .i64 r) ∧ Fresh w0 w' [] := by
  unfold M.spec_l24Wind at hm
  refine calls_CW (args := [v1, (.int .i64 a1), (.int .i64 a2)]) Try.func59 rfl rfl rfl ?_
  have hL := Hp.start w0
  refine CW.seq ?_
  refine CW.regionL ?_
  refine OW.cons (OP.val (v := (.int .i64 0)) rfl (x_assign) ?_)
  refine OW.nil ?_
  refine CW.seq ?_
  refine CW.seq ?_
  refine CW.regionL ?_
  refine OW.cons (OP.val (v := (.int .i64 0)) rfl (x_assign) ?_)
  refine OW.nil ?_
  obtain ⟨o19, ho20, hm⟩ := bndE hm
  refine CW.loopB (fun (s_l1 : Int) (F : Fr) (w : World) => F 0 = v1 ∧ F 1 = (.int .i64 a1) ∧ F 2 = (.int .i64 a2) ∧ F 7 = (.int .i64 s_l1) ∧ Hp w0 [Ent.snap w0 w0.heap.size] w) (fun o => outc o (fun x => some x) (fun s => M.spec_l24Wind_a1 s) = some r) ho20 hm ⟨rfl, rfl, rfl, rfl, hL⟩ ?_ ?_
  · intro s_l1 F21 wd22 hJ hm
    have hm := outcE hm
    have hm : M.spec_l24Wind_a1 s_l1 = some r := hm
    unfold M.spec_l24Wind_a1 at hm
    obtain ⟨f23, f24, f25, f26, hL⟩ := hJ
    refine CW.seq ?_
    refine CW.regionL ?_
    refine OW.cons (OP.val (v := (.int .i64 (-1))) rfl (x_assign) ?_)
    refine OW.nil ?_
    refine CW.ret ?_
    obtain rfl := Option.some.inj hm
    exact RR1 rfl rfl ⟨rfl, hL.fresh 0 rfl [] (by decide) (by decide) rfl⟩
  · intro s_l1 F27 wd28 t17 hJ hm hr18
    unfold M.spec_l24Wind_l1 at hm
    obtain ⟨f29, f30, f31, f32, hL⟩ := hJ
    refine CW.seq ?_
    refine CW.seq ?_
    refine CW.regionL ?_
    refine OW.cons (OP.val (v := (.int .i64 s_l1)) rfl (x_mv f32) ?_)
    refine OW.cons (OP.val (v := (.bool (decide (s_l1 ≤ 1000)))) rfl (x_leq rfl rfl) ?_)
    refine OW.nil ?_
    refine CW.condM (t := decide (s_l1 ≤ 1000)) rfl hm (fun hb33 hm => ?_) (fun hb33 hm => ?_)
    · refine CW.skip ?_
      refine CW.seq ?_
      refine CW.block ?_
      refine CW.seq ?_
      refine CW.regionL ?_
      refine OW.cons (OP.val (v := v1) rfl (x_mv f29) ?_)
      refine OW.cons (OP.val (v := (.int .i64 s_l1)) rfl (x_mv f32) ?_)
      refine OW.cons (OP.val (v := (.int .i64 a2)) rfl (x_mv f31) ?_)
      obtain ⟨x34, hx35, hm⟩ := bndE hm
      refine OW.cons (OP.call rfl (x_call (vs := [v1, (.int .i64 s_l1), (.int .i64 a2)]) Try_C60 ⟨rfl, rfl, rfl, trivial⟩) (M.spec_l24Time_ok _ a0 (hL.rdS 0 rfl h2) s_l1 a2 hx35) ?_)
      rintro e36 wd37 ⟨rfl, hF38⟩
      refine ⟨_, rfl, ?_⟩
      have hL := hL.pushAll hF38
      simp only [lA, lB, lC, lD] at hL
      refine OW.cons (OP.val (v := (.int .i64 a1)) rfl (x_mv f30) ?_)
      refine OW.cons (OP.val (v := (.bool (decide (x34 ≤ a1)))) rfl (x_leq rfl rfl) ?_)
      refine OW.nil ?_
      refine CW.condM (t := decide (x34 ≤ a1)) rfl hm (fun hb39 hm => ?_) (fun hb39 hm => ?_)
      · refine CW.seq ?_
        refine CW.regionL ?_
        refine OW.cons (OP.val (v := (.int .i64 s_l1)) rfl (x_mv f32) ?_)
        refine OW.cons (OP.val (v := (.int .i64 s_l1)) rfl (x_assign) ?_)
        refine OW.nil ?_
        refine CW.ret ?_
        obtain rfl := Option.some.inj hm
        have hm := hr18 _ rfl
        obtain rfl := Option.some.inj hm
        exact RR1 rfl rfl ⟨rfl, hL.fresh 0 rfl [] (by decide) (by decide) rfl⟩
      · refine CW.skip ?_
        refine CW.regionL ?_
        refine OW.cons (OP.val (v := (.int .i64 s_l1)) rfl (x_mv f32) ?_)
        refine OW.cons (OP.val (v := (.int .i64 (w64 (s_l1 + 1)))) rfl (x_add rfl rfl) ?_)
        refine OW.cons (OP.val (v := (.int .i64 (w64 (s_l1 + 1)))) rfl (x_assign) ?_)
        refine OW.nil ?_
        obtain rfl := Option.some.inj hm
        exact ⟨_, rfl, ⟨f29, f30, f31, rfl, hL⟩⟩
    · refine CW.exit ?_
      refine XJ.hit ?_
      obtain rfl := Option.some.inj hm
      exact ⟨_, rfl, ⟨f29, f30, f31, f32, hL⟩⟩

theorem M.spec_l24Corrected_ok (w0 : World) (a0 : List CurvePoint) {v1 : Value} (h2 : rdL (· < w0.heap.size) w0 v1 a0) (a1 : List CurvePoint) {v3 : Value} (h4 : rdL (· < w0.heap.size) w0 v3 a1) (a2 : Int) (a3 : Int) {r : Int} (hm : M.spec_l24Corrected a0 a1 a2 a3 = some r) :
    Calls Try.prog 43 #[v1, v3, (.int .i64 a2), (.int .i64 a3)] w0 fun e w' => e = .returned (.int .i64 r) ∧ Fresh w0 w' [] := by
  unfold M.spec_l24Corrected at hm
  refine calls_CW (args := [v1, v3, (.int .i64 a2), (.int .i64 a3)]) Try.func43 rfl rfl rfl ?_
  have hL := Hp.start w0
  refine CW.seq ?_
  refine CW.regionL ?_
  refine OW.cons (OP.val (v := (.int .i64 0)) rfl (x_assign) ?_)
  refine OW.nil ?_
  refine CW.seq ?_
  refine CW.regionL ?_
  refine OW.cons (OP.val (v := v1) rfl (x_move) ?_)
  refine OW.cons (OP.val (v := (.int .i64 a2)) rfl (x_move) ?_)
  refine OW.cons (OP.val (v := (.int .i64 a3)) rfl (x_move) ?_)
  obtain ⟨x5, hx6, hm⟩ := bndE hm
  refine OW.cons (OP.call rfl (x_call (vs := [v1, (.int .i64 a2), (.int .i64 a3)]) Try_C59 ⟨rfl, rfl, rfl, trivial⟩) (M.spec_l24Wind_ok _ a0 (hL.rdS 0 rfl h2) a2 a3 hx6) ?_)
  rintro e7 wd8 ⟨rfl, hF9⟩
  refine ⟨_, rfl, ?_⟩
  have hL := hL.pushAll hF9
  simp only [lA, lB, lC, lD] at hL
  refine OW.cons (OP.val (v := (.int .i64 x5)) rfl (x_assign) ?_)
  refine OW.nil ?_
  refine CW.seq ?_
  refine CW.seq ?_
  refine CW.regionL ?_
  refine OW.cons (OP.val (v := (.int .i64 x5)) rfl (x_move) ?_)
  refine OW.cons (OP.val (v := (.bool (decide (x5 < 0)))) rfl (x_lss rfl rfl) ?_)
  refine OW.nil ?_
  refine CW.condM (t := decide (x5 < 0)) rfl hm (fun hb10 hm => ?_) (fun hb10 hm => ?_)
  · refine CW.seq ?_
    refine CW.regionL ?_
    refine OW.cons (OP.val (v := (.int .i64 a2)) rfl (x_move) ?_)
    refine OW.cons (OP.val (v := (.int .i64 a2)) rfl (x_assign) ?_)
    refine OW.nil ?_
    refine CW.ret ?_
    obtain rfl := Option.some.inj hm
    exact RR1 rfl rfl ⟨rfl, hL.fresh 0 rfl [] (by decide) (by decide) rfl⟩
  · refine CW.skip ?_
    refine CW.seq ?_
    refine CW.regionL ?_
    refine OW.cons (OP.val (v := v3) rfl (x_move) ?_)
    refine OW.cons (OP.val (v := (.int .i64 x5)) rfl (x_move) ?_)
    refine OW.cons (OP.val (v := (.int .i64 a3)) rfl (x_move) ?_)
    obtain ⟨x11, hx12, hm⟩ := bndE hm
    refine OW.cons (OP.call rfl (x_call (vs := [v3, (.int .i64 x5), (.int .i64 a3)]) Try_C60 ⟨rfl, rfl, rfl, trivial⟩) (M.spec_l24Time_ok _ a1 (hL.rdS 0 rfl h4) x5 a3 hx12) ?_)
    rintro e13 wd14 ⟨rfl, hF15⟩
    refine ⟨_, rfl, ?_⟩
    have hL := hL.pushAll hF15
    simp only [lA, lB, lC, lD] at hL
    refine OW.cons (OP.val (v := (.int .i64 x11)) rfl (x_assign) ?_)
    refine OW.nil ?_
    refine CW.ret ?_
    obtain rfl := Option.some.inj hm
    exact RR1 rfl rfl ⟨rfl, hL.fresh 0 rfl [] (by decide) (by decide) rfl⟩

theorem M.spec_CorrectByCurves_ok (w0 : World) (a0 : Int) (a1 : List Finish) {v1 : Value} (h2 : rdL (· < w0.heap.size) w0 v1 a1) (a2 : List (List CurvePoint)) {v3 : Value} (h4 : rdL (· < w0.heap.size) w0 v3 a2) (a3 : Int) (a4 : Int) {r : (List Finish) × Int} (hm : M.spec_CorrectByCurves a0 a1 a2 a3 a4 = some r) :
    Calls Try.prog 9 #[(.int .i64 a0), v1, v3, (.int .i64 a3), (.int .i64 a4)] w0 fun e w' => ∃ (rv0 : Value) (rS0 : Nat → Prop), e = .returned (.tuple #[rv0, (.int .i64 r.2)]) ∧ Fresh w0 w' [Ent.own 31 rS0 rv0 r.1] := by
  unfold M.spec_CorrectByCurves at hm
  refine calls_CW (args := [(.int .i64 a0), v1, v3, (.int .i64 a3), (.int .i64 a4)]) Try.func9 rfl rfl rfl ?_
  have hL := Hp.start w0
  refine CW.seq ?_
  refine CW.regionL ?_
  refine OW.cons (OP.val (v := (.slice none 0 0)) rfl (x_assign) ?_)
  refine OW.cons (OP.val (v := (.int .i64 0)) rfl (x_assign) ?_)
  refine OW.nil ?_
  refine CW.seq ?_
  refine CW.seqJ (fun (s_j1 : Bool) (F : Fr) (w : World) => F 0 = (.int .i64 a0) ∧ F 1 = v1 ∧ F 2 = v3 ∧ F 3 = (.int .i64 a3) ∧ F 4 = (.int .i64 a4) ∧ F 25 = (.bool s_j1) ∧ Hp w0 [Ent.snap w0 w0.heap.size] w) (fun s_j1 => M.spec_CorrectByCurves_j1 a0 a1 a2 a3 a4 s_j1 = some r) ?_ ?_
  · refine CW.regionL ?_
    refine OW.cons (OP.val (v := (.int .i64 a0)) rfl (x_move) ?_)
    refine OW.cons (OP.val (v := v1) rfl (x_move) ?_)
    obtain ⟨x400, hx401, hm⟩ := bndE hm
    refine OW.cons (OP.call rfl (x_call (vs := [(.int .i64 a0), v1]) Try_C40 ⟨rfl, rfl, trivial⟩) (M.spec_l22Race_ok _ a0 a1 (hL.rdS 0 rfl h2) hx401) ?_)
    rintro e402 wd403 ⟨rfl, hF404⟩
    refine ⟨_, rfl, ?_⟩
    have hL := hL.pushAll hF404
    simp only [lA, lB, lC, lD] at hL
    refine OW.cons (OP.val (v := (.bool (!x400))) rfl (x_not rfl) ?_)
    refine OW.cons (OP.val (v := (.bool (!x400))) rfl (x_move) ?_)
    refine ifB_elim hm (fun hb405 hm => ?_) (fun hb405 hm => ?_)
    · refine OW.cons (OP.no' rfl rfl hb405 rfl ?_)
      refine OW.cons (OP.no' rfl rfl hb405 rfl ?_)
      refine OW.cons (OP.no' rfl rfl hb405 rfl ?_)
      refine OW.cons (OP.no' rfl rfl hb405 rfl ?_)
      refine OW.cons (OP.val (v := (.bool true)) rfl (x_pickT' rfl hb405 rfl) ?_)
      refine OW.nil ?_
      exact ⟨true, hm, ⟨rfl, rfl, rfl, rfl, rfl, rfl, hL⟩⟩
    · refine OW.cons (OP.yes' rfl rfl hb405 (OP.val (v := v3) rfl (x_move) ?_))
      refine OW.cons (OP.yes' rfl rfl hb405 (OP.val (v := (.int .i64 (a2.length : Int))) rfl (x_lenR Try.underlying25 rfl (hL.rdS 0 rfl h4)) ?_))
      refine OW.cons (OP.yes' rfl rfl hb405 (OP.val (v := (.int .i64 a0)) rfl (x_move) ?_))
      refine OW.cons (OP.yes' rfl rfl hb405 (OP.val (v := (.bool ((a2.length : Int) != a0))) rfl (x_neq rfl rfl) ?_))
      refine OW.cons (OP.val (v := (.bool ((a2.length : Int) != a0))) rfl (x_pickF' rfl hb405 rfl) ?_)
      refine OW.nil ?_
      exact ⟨(a2.length : Int) != a0, hm, ⟨rfl, rfl, rfl, rfl, rfl, rfl, hL⟩⟩
  · intro s_j1 F11 wd12 hJ hm
    unfold M.spec_CorrectByCurves_j1 at hm
    obtain ⟨f13, f14, f15, f16, f17, f18, hL⟩ := hJ
    refine CW.condM (t := s_j1) f18 hm (fun hb19 hm => ?_) (fun hb19 hm => ?_)
    · refine CW.seq ?_
      refine CW.regionL ?_
      refine OW.cons (OP.val (v := (.slice none 0 0)) rfl (x_assign) ?_)
      refine OW.cons (OP.val (v := (.int .i64 1)) rfl (x_assign) ?_)
      refine OW.nil ?_
      refine CW.ret ?_
      have hL := hL.pushNil Finish 31
      obtain rfl := Option.some.inj hm
      exact RR2 rfl rfl rfl ⟨(.slice none 0 0), None_, rfl, hL.fresh 1 rfl [0] (by decide) (by decide) rfl⟩
    · refine CW.skip ?_
      refine CW.seq ?_
      refine CW.seq ?_
      refine CW.regionL ?_
      refine OW.cons (OP.val (v := (.int .i64 0)) rfl (x_assign) ?_)
      refine OW.nil ?_
      obtain ⟨o58, ho59, hm⟩ := bndE hm
      refine CW.loopB (fun (s_l1 : Int) (F : Fr) (w : World) => F 0 = (.int .i64 a0) ∧ F 1 = v1 ∧ F 2 = v3 ∧ F 3 = (.int .i64 a3) ∧ F 4 = (.int .i64 a4) ∧ F 12 = (.int .i64 s_l1) ∧ Hp w0 [Ent.snap w0 w0.heap.size] w) (fun o => outc o (fun x => some x) (fun s => M.spec_CorrectByCurves_a1 a0 a1 a2 a3 a4 s) = some r) ho59 hm ⟨f13, f14, f15, f16, f17, rfl, hL⟩ ?_ ?_
      · intro s_l1 F60 wd61 hJ hm
        have hm := outcE hm
        have hm : M.spec_CorrectByCurves_a1 a0 a1 a2 a3 a4 s_l1 = some r := hm
        unfold M.spec_CorrectByCurves_a1 at hm
        obtain ⟨f62, f63, f64, f65, f66, f67, hL⟩ := hJ
        refine CW.seq ?_
        refine CW.seqJ (fun (s_j2 : Bool) (F : Fr) (w : World) => F 1 = v1 ∧ F 2 = v3 ∧ F 3 = (.int .i64 a3) ∧ F 4 = (.int .i64 a4) ∧ F 47 = (.bool s_j2) ∧ Hp w0 [Ent.snap w0 w0.heap.size] w) (fun s_j2 => M.spec_CorrectByCurves_j2 a1 a2 a3 a4 s_j2 = some r) ?_ ?_
        · refine CW.regionL ?_
          refine OW.cons (OP.val (v := (.int .i64 a3)) rfl (x_mv f65) ?_)
          refine OW.cons (OP.val (v := (.int .i64 a0)) rfl (x_mv f62) ?_)
          refine OW.cons (OP.val (v := (.int .i64 (w64 (a0 - 1)))) rfl (x_sub rfl rfl) ?_)
          obtain ⟨x363, hx364, hm⟩ := bndE hm
          refine OW.cons (OP.call rfl (x_call (vs := [(.int .i64 a3), (.int .i64 0), (.int .i64 (w64 (a0 - 1)))]) Try_C41 ⟨rfl, rfl, rfl, trivial⟩) (M.spec_l01In_ok _ a3 0 (w64 (a0 - 1)) hx364) ?_)
          rintro e365 wd366 ⟨rfl, hF367⟩
          refine ⟨_, rfl, ?_⟩
          have hL := hL.pushAll hF367
          simp only [lA, lB, lC, lD] at hL
          refine OW.cons (OP.val (v := (.bool (!x363))) rfl (x_not rfl) ?_)
          refine OW.cons (OP.val (v := (.bool (!x363))) rfl (x_move) ?_)
          refine ifB_elim hm (fun hb368 hm => ?_) (fun hb368 hm => ?_)
          · refine OW.cons (OP.no' rfl rfl hb368 rfl ?_)
            refine OW.cons (OP.no' rfl rfl hb368 rfl ?_)
            refine OW.cons (OP.no' rfl rfl hb368 rfl ?_)
            refine OW.cons (OP.val (v := (.bool true)) rfl (x_pickT' rfl hb368 rfl) ?_)
            refine OW.nil ?_
            exact ⟨true, hm, ⟨f63, f64, f65, f66, rfl, hL⟩⟩
          · refine OW.cons (OP.yes' rfl rfl hb368 (OP.val (v := (.int .i64 a4)) rfl (x_mv f66) ?_))
            obtain ⟨x369, hx370, hm⟩ := bndE hm
            refine OW.cons (OP.yes' rfl rfl hb368 (OP.call rfl (x_call (vs := [(.int .i64 a4)]) Try_C42 ⟨rfl, trivial⟩) (M.spec_l23Distance_ok _ a4 hx370) ?_))
            rintro e371 wd372 ⟨rfl, hF373⟩
            refine ⟨_, rfl, ?_⟩
            have hL := hL.pushAll hF373
            simp only [lA, lB, lC, lD] at hL
            refine OW.cons (OP.yes' rfl rfl hb368 (OP.val (v := (.bool (!x369))) rfl (x_not rfl) ?_))
            refine OW.cons (OP.val (v := (.bool (!x369))) rfl (x_pickF' rfl hb368 rfl) ?_)
            refine OW.nil ?_
            exact ⟨!x369, hm, ⟨f63, f64, f65, f66, rfl, hL⟩⟩
        · intro s_j2 F79 wd80 hJ hm
          unfold M.spec_CorrectByCurves_j2 at hm
          obtain ⟨f81, f82, f83, f84, f85, hL⟩ := hJ
          refine CW.condM (t := s_j2) f85 hm (fun hb86 hm => ?_) (fun hb86 hm => ?_)
          · refine CW.seq ?_
            refine CW.regionL ?_
            refine OW.cons (OP.val (v := (.slice none 0 0)) rfl (x_assign) ?_)
            refine OW.cons (OP.val (v := (.int .i64 2)) rfl (x_assign) ?_)
            refine OW.nil ?_
            refine CW.ret ?_
            have hL := hL.pushNil Finish 31
            obtain rfl := Option.some.inj hm
            exact RR2 rfl rfl rfl ⟨(.slice none 0 0), None_, rfl, hL.fresh 1 rfl [0] (by decide) (by decide) rfl⟩
          · refine CW.skip ?_
            refine CW.seq ?_
            refine CW.regionL ?_
            refine OW.cons (S_lit ([] : List Finish) hL Try.underlying24 Try_T31 rfl (by decide) (by first | (simp [Instr.fill, madeCells, Value.cells, ev, upd, Flat.enc, Flat.sz]; done) | rfl | kernel_rfl) rfl rfl ?_)
            intro wd87 v88 S89 hL
            refine OW.cons (OP.val (v := v88) rfl (x_assign) ?_)
            refine OW.nil ?_
            refine CW.seq ?_
            refine CW.seq ?_
            refine CW.regionL ?_
            refine OW.cons (OP.val (v := (.int .i64 0)) rfl (x_assign) ?_)
            refine OW.nil ?_
            obtain ⟨o262, ho263, hm⟩ := bndE hm
            refine CW.loopB (fun (s_l2 : (List Finish) × Int) (F : Fr) (w : World) => ∃ (v258 : Value) (S259 : Nat → Prop), F 1 = v1 ∧ F 2 = v3 ∧ F 3 = (.int .i64 a3) ∧ F 4 = (.int .i64 a4) ∧ F 13 = v258 ∧ F 14 = (.int .i64 s_l2.2) ∧ Hp w0 [Ent.own 31 S259 v258 s_l2.1, Ent.snap w0 w0.heap.size] w) (fun o => outc o (fun x => some x) (fun s => M.spec_CorrectByCurves_a2 s) = some r) ho263 hm ⟨v88, S89, f81, f82, f83, f84, rfl, rfl, hL⟩ ?_ ?_
            · intro s_l2 F264 wd265 hJ hm
              have hm := outcE hm
              have hm : M.spec_CorrectByCurves_a2 s_l2 = some r := hm
              unfold M.spec_CorrectByCurves_a2 at hm
              obtain ⟨v258, S259, f266, f267, f268, f269, f270, f271, hL⟩ := hJ
              refine CW.seq ?_
              refine CW.regionL ?_
              refine OW.cons (OP.val (v := v258) rfl (x_mv f270) ?_)
              refine OW.cons (OP.val (v := v258) rfl (x_assign) ?_)
              refine OW.cons (OP.val (v := (.int .i64 0)) rfl (x_assign) ?_)
              refine OW.nil ?_
              refine CW.ret ?_
              obtain rfl := Option.some.inj hm
              exact RR2 rfl rfl rfl ⟨v258, S259, rfl, hL.fresh 1 rfl [0] (by decide) (by decide) rfl⟩
            · intro s_l2 F272 wd273 t260 hJ hm hr261
              unfold M.spec_CorrectByCurves_l2 at hm
              obtain ⟨v258, S259, f274, f275, f276, f277, f278, f279, hL⟩ := hJ
              refine CW.seq ?_
              refine CW.seq ?_
              refine CW.regionL ?_
              refine OW.cons (OP.val (v := (.int .i64 s_l2.2)) rfl (x_mv f279) ?_)
              refine OW.cons (OP.val (v := v1) rfl (x_mv f274) ?_)
              refine OW.cons (OP.val (v := (.int .i64 (a1.length : Int))) rfl (x_lenR Try.underlying24 rfl (hL.rdS 1 rfl h2)) ?_)
              refine OW.cons (OP.val (v := (.bool (decide (s_l2.2 < (a1.length : Int))))) rfl (x_lss rfl rfl) ?_)
              refine OW.nil ?_
              refine CW.condM (t := decide (s_l2.2 < (a1.length : Int))) rfl hm (fun hb280 hm => ?_) (fun hb280 hm => ?_)
              · refine CW.skip ?_
                refine CW.seq ?_
                refine CW.block ?_
                refine CW.seq ?_
                refine CW.regionL ?_
                refine OW.cons (OP.val (v := v1) rfl (x_mv f274) ?_)
                refine OW.cons (OP.val (v := (.int .i64 s_l2.2)) rfl (x_mv f279) ?_)
                obtain ⟨x281, ha282, hm⟩ := bndE hm
                obtain ⟨hz283, ha287⟩ := idxE ha282
                obtain ⟨b284, q285, hix286⟩ := rdL_ix (hL.rdS 1 rfl h2) hz283 ha287
                refine OW.cons (OP.val (v := (.pointer (some ⟨b284, q285, none⟩))) rfl (x_ix Try.underlying24 Try_T31 rfl rfl hix286) ?_)
                refine OW.cons (OP.val (v := (.agg #[(.int .i64 x281.Boat), (.int .i64 x281.Code), (.int .i64 x281.Time)])) rfl (x_loadN (cs := [(.int .i64 x281.Boat), (.int .i64 x281.Code), (.int .i64 x281.Time)]) Try.underlying31 Try_T31 rfl rfl (rdF_cells (hL.rdS 1 rfl h2) hix286 ha287)) ?_)
                refine OW.cons (S_alloc (cs := #[(.int .i64 0), (.int .i64 0), (.int .i64 0)]) hL Try_T31 rfl rfl ?_)
                intro wd288 b289 hL
                refine OW.cons (S_storeN (l := [(.int .i64 x281.Boat), (.int .i64 x281.Code), (.int .i64 x281.Time)]) (cs' := #[(.int .i64 x281.Boat), (.int .i64 x281.Code), (.int .i64 x281.Time)]) hL 0 rfl Try_T31 rfl rfl (List.forall_mem_cons.2 ⟨rfl, (List.forall_mem_cons.2 ⟨rfl, (List.forall_mem_cons.2 ⟨rfl, (fun _ h => by cases h)⟩)⟩)⟩) rfl (Nat.le_of_ble_eq_true rfl) rfl ?_)
                intro wd290 hL
                refine OW.nil ?_
                refine CW.seqJ (fun (s_j3 : Int) (F : Fr) (w : World) => F 1 = v1 ∧ F 2 = v3 ∧ F 3 = (.int .i64 a3) ∧ F 4 = (.int .i64 a4) ∧ F 13 = v258 ∧ F 14 = (.int .i64 s_l2.2) ∧ F 15 = (.pointer (some ⟨b289, 0, none⟩)) ∧ Hp w0 [Ent.blk b289 31 #[(.int .i64 x281.Boat), (.int .i64 x281.Code), (.int .i64 s_j3)], Ent.own 31 S259 v258 s_l2.1, Ent.snap w0 w0.heap.size] w) (fun s_j3 => M.spec_CorrectByCurves_j3 s_l2 x281 s_j3 = some t260) ?_ ?_
                · refine CW.seq ?_
                  refine CW.regionL ?_
                  refine OW.cons (OP.val (v := (.pointer (some ⟨b289, 1, none⟩))) rfl (x_fieldAddr (fsz := 1) 0 1 1 Try.underlying31 rfl Try_T2 rfl rfl rfl) ?_)
                  refine OW.cons (OP.val (v := (.int .i64 x281.Code)) rfl (x_load1 Try.underlying2 rfl rfl (hL.cellB 0 rfl rfl)) ?_)
                  refine OW.cons (OP.val (v := (.bool (x281.Code == 0))) rfl (x_eql rfl rfl) ?_)
                  refine OW.nil ?_
                  refine CW.condM (t := x281.Code == 0) rfl hm (fun hb335 hm => ?_) (fun hb335 hm => ?_)
                  · refine CW.seq ?_
                    refine CW.draw Try_mixed ?_
                    have hL := hL.call (Mod.drew _)
                    refine DW.pre (fuel := 1) (fin := ((((((((((((((Array.replicate 14 false).setIfInBounds 0 true).setIfInBounds 1 true).setIfInBounds 2 true).setIfInBounds 3 true).setIfInBounds 4 true).setIfInBounds 5 true).setIfInBounds 6 true).setIfInBounds 7 true).setIfInBounds 8 true).setIfInBounds 9 true).setIfInBounds 10 true).setIfInBounds 11 true).setIfInBounds 12 true)) (C := fun w' => Mod None_ _ w') [0, 1, 2, 3, 4, 5, 6, 7, 8, 9, 10, 11, 12] (Mod.refl _ _) (by kernel_rfl) (by kernel_rfl) ?_
                    refine QW.cons rfl (QP.val (v := v3) rfl (fun w' hm' => x_mv f275) ?_)
                    refine QW.cons rfl (QP.val (v := (.int .i64 s_l2.2)) rfl (fun w' hm' => x_mv f279) ?_)
                    obtain ⟨x336, ha337, hm⟩ := bndE hm
                    obtain ⟨hz338, ha346⟩ := idxE ha337
                    obtain ⟨b339, q340, v341, hix342, hs343, hc344, hr345⟩ := rdN_at h4 hz338 ha346
                    refine QW.cons rfl (QP.val (v := (.pointer (some ⟨b339, q340, none⟩))) rfl (fun w' hm' => x_ix Try.underlying25 Try_T34 rfl rfl hix342) ?_)
                    refine QW.cons rfl (QP.val (v := v341) rfl (fun w' hm' => x_load1 Try.underlying34 rfl rfl ((hL.call hm').cellS 2 rfl hs343 hc344)) ?_)
                    refine QW.cons rfl (QP.val (v := v3) rfl (fun w' hm' => x_mv f275) ?_)
                    refine QW.cons rfl (QP.val (v := (.int .i64 a3)) rfl (fun w' hm' => x_mv f276) ?_)
                    obtain ⟨x347, ha348, hm⟩ := bndE hm
                    obtain ⟨hz349, ha357⟩ := idxE ha348
                    obtain ⟨b350, q351, v352, hix353, hs354, hc355, hr356⟩ := rdN_at h4 hz349 ha357
                    refine QW.cons rfl (QP.val (v := (.pointer (some ⟨b350, q351, none⟩))) rfl (fun w' hm' => x_ix Try.underlying25 Try_T34 rfl rfl hix353) ?_)
                    refine QW.cons rfl (QP.val (v := v352) rfl (fun w' hm' => x_load1 Try.underlying34 rfl rfl ((hL.call hm').cellS 2 rfl hs354 hc355)) ?_)
                    refine QW.cons rfl (QP.val (v := (.pointer (some ⟨b289, 2, none⟩))) rfl (fun w' hm' => x_fieldAddr (fsz := 1) 0 2 2 Try.underlying31 rfl Try_T2 rfl rfl rfl) ?_)
                    refine QW.cons rfl (QP.val (v := (.int .i64 x281.Time)) rfl (fun w' hm' => x_load1 Try.underlying2 rfl rfl ((hL.call hm').cellB 0 rfl rfl)) ?_)
                    refine QW.cons rfl (QP.val (v := (.int .i64 a4)) rfl (fun w' hm' => x_mv f277) ?_)
                    obtain ⟨x358, hx359, hm⟩ := bndE hm
                    refine QW.cons rfl (QP.call (v := (.int .i64 x358)) rfl (fun w' hm' => x_call (vs := [v341, v352, (.int .i64 x281.Time), (.int .i64 a4)]) Try_C43 ⟨rfl, rfl, rfl, rfl, trivial⟩) (fun w' hm' => (M.spec_l24Corrected_ok w' x336 ((hL.call hm').rdS 2 rfl hr345) x347 ((hL.call hm').rdS 2 rfl hr356) x281.Time a4 hx359).mono (fun e w'' h => ⟨h.1, hm'.trans h.2.mod⟩)) ?_)
                    refine QW.cons rfl (QP.val (v := (.pointer (some ⟨b289, 2, none⟩))) rfl (fun w' hm' => x_fieldAddr (fsz := 1) 0 2 2 Try.underlying31 rfl Try_T2 rfl rfl rfl) ?_)
                    refine QW.nil ?_
                    intro wd360 hmod
                    have hL := hL.call hmod
                    refine DW.only 13 rfl (by kernel_rfl) (S_store (cs' := #[(.int .i64 x281.Boat), (.int .i64 x281.Code), (.int .i64 x358)]) hL 0 rfl Try_T2 rfl rfl rfl rfl rfl ?_)
                    intro wd361 hL
                    refine DW.done (by kernel_rfl) ?_
                    refine CW.seq ?_
                    refine CW.regionL ?_
                    refine OW.cons (OP.val (v := (.pointer (some ⟨b289, 2, none⟩))) rfl (x_fieldAddr (fsz := 1) 0 2 2 Try.underlying31 rfl Try_T2 rfl rfl rfl) ?_)
                    refine OW.cons (OP.val (v := (.int .i64 x358)) rfl (x_load1 Try.underlying2 rfl rfl (hL.cellB 0 rfl rfl)) ?_)
                    refine OW.cons (OP.val (v := (.bool (decide (1000000000 < x358)))) rfl (x_gtr rfl rfl) ?_)
                    refine OW.nil ?_
                    refine CW.condM (t := decide (1000000000 < x358)) rfl hm (fun hb362 hm => ?_) (fun hb362 hm => ?_)
                    · refine CW.seq ?_
                      refine CW.regionL ?_
                      refine OW.cons (OP.val (v := (.slice none 0 0)) rfl (x_assign) ?_)
                      refine OW.cons (OP.val (v := (.int .i64 3)) rfl (x_assign) ?_)
                      refine OW.nil ?_
                      refine CW.ret ?_
                      have hL := hL.pushNil Finish 31
                      obtain rfl := Option.some.inj hm
                      have hm := hr261 _ rfl
                      obtain rfl := Option.some.inj hm
                      exact RR2 rfl rfl rfl ⟨(.slice none 0 0), None_, rfl, hL.fresh 3 rfl [0] (by decide) (by decide) rfl⟩
                    · refine CW.skip ?_
                      exact ⟨x358, hm, ⟨f274, f275, f276, f277, f278, f279, rfl, hL⟩⟩
                  · refine CW.skip ?_
                    exact ⟨x281.Time, hm, ⟨f274, f275, f276, f277, f278, f279, rfl, hL⟩⟩
                · intro s_j3 F319 wd320 hJ hm
                  unfold M.spec_CorrectByCurves_j3 at hm
                  obtain ⟨f321, f322, f323, f324, f325, f326, f327, hL⟩ := hJ
                  refine CW.regionL ?_
                  refine OW.cons (OP.val (v := v258) rfl (x_mv f325) ?_)
                  refine OW.cons (OP.val (v := (.agg #[(.int .i64 x281.Boat), (.int .i64 x281.Code), (.int .i64 s_j3)])) rfl (x_loadN (cs := [(.int .i64 x281.Boat), (.int .i64 x281.Code), (.int .i64 s_j3)]) Try.underlying31 Try_T31 rfl f327 (hL.cellsB 0 rfl (o := 0) (l := [(.int .i64 x281.Boat), (.int .i64 x281.Code), (.int .i64 s_j3)]) (by intro j u hj; exact (by simpa using hj)))) ?_)
                  refine OW.cons (S_lit ([(Finish.mk x281.Boat x281.Code s_j3)] : List Finish) hL Try.underlying24 Try_T31 rfl (by decide) (by first | (simp [Instr.fill, madeCells, Value.cells, ev, upd, Flat.enc, Flat.sz]; done) | rfl | kernel_rfl) rfl rfl ?_)
                  intro wd328 v329 S330 hL
                  obtain ⟨hc334, hm⟩ := chkE hm
                  refine OW.cons (S_append (ys := ([(Finish.mk x281.Boat x281.Code s_j3)] : List Finish)) hL 2 rfl Try.underlying24 Try_T31 rfl rfl rfl (hL.rdO 0 rfl) hc334 (by decide) rfl ?_)
                  intro wd331 v332 S333 hL
                  refine OW.cons (OP.val (v := v332) rfl (x_assign) ?_)
                  refine OW.nil ?_
                  refine CW.regionL ?_
                  refine OW.cons (OP.val (v := (.int .i64 s_l2.2)) rfl (x_mv f326) ?_)
                  refine OW.cons (OP.val (v := (.int .i64 (w64 (s_l2.2 + 1)))) rfl (x_add rfl rfl) ?_)
                  refine OW.cons (OP.val (v := (.int .i64 (w64 (s_l2.2 + 1)))) rfl (x_assign) ?_)
                  refine OW.nil ?_
                  have hL := hL.sel [2, 3] (by decide) rfl
                  obtain rfl := Option.some.inj hm
                  exact ⟨_, rfl, ⟨v332, S333, f321, f322, f323, f324, rfl, rfl, hL⟩⟩
              · refine CW.exit ?_
                refine XJ.hit ?_
                obtain rfl := Option.some.inj hm
                exact ⟨_, rfl, ⟨v258, S259, f274, f275, f276, f277, f278, f279, hL⟩⟩
      · intro s_l1 F374 wd375 t56 hJ hm hr57
        unfold M.spec_CorrectByCurves_l1 at hm
        obtain ⟨f376, f377, f378, f379, f380, f381, hL⟩ := hJ
        refine CW.seq ?_
        refine CW.seq ?_
        refine CW.regionL ?_
        refine OW.cons (OP.val (v := (.int .i64 s_l1)) rfl (x_mv f381) ?_)
        refine OW.cons (OP.val (v := v3) rfl (x_mv f378) ?_)
        refine OW.cons (OP.val (v := (.int .i64 (a2.length : Int))) rfl (x_lenR Try.underlying25 rfl (hL.rdS 0 rfl h4)) ?_)
        refine OW.cons (OP.val (v := (.bool (decide (s_l1 < (a2.length : Int))))) rfl (x_lss rfl rfl) ?_)
        refine OW.nil ?_
        refine CW.condM (t := decide (s_l1 < (a2.length : Int))) rfl hm (fun hb382 hm => ?_) (fun hb382 hm => ?_)
        · refine CW.skip ?_
          refine CW.seq ?_
          refine CW.block ?_
          refine CW.seq ?_
          refine CW.regionL ?_
          refine OW.cons (OP.val (v := v3) rfl (x_mv f378) ?_)
          refine OW.cons (OP.val (v := (.int .i64 s_l1)) rfl (x_mv f381) ?_)
          obtain ⟨x383, ha384, hm⟩ := bndE hm
          obtain ⟨hz385, ha393⟩ := idxE ha384
          obtain ⟨b386, q387, v388, hix389, hs390, hc391, hr392⟩ := rdN_at h4 hz385 ha393
          refine OW.cons (OP.val (v := (.pointer (some ⟨b386, q387, none⟩))) rfl (x_ix Try.underlying25 Try_T34 rfl rfl hix389) ?_)
          refine OW.cons (OP.val (v := v388) rfl (x_load1 Try.underlying34 rfl rfl (hL.cellS 0 rfl hs390 hc391)) ?_)
          obtain ⟨x394, hx395, hm⟩ := bndE hm
          refine OW.cons (OP.call rfl (x_call (vs := [v388]) Try_C31 ⟨rfl, trivial⟩) (M.spec_IsCurve_ok _ x383 (hL.rdS 0 rfl hr392) hx395) ?_)
          rintro e396 wd397 ⟨rfl, hF398⟩
          refine ⟨_, rfl, ?_⟩
          have hL := hL.pushAll hF398
          simp only [lA, lB, lC, lD] at hL
          refine OW.cons (OP.val (v := (.bool (!x394))) rfl (x_not rfl) ?_)
          refine OW.nil ?_
          refine CW.condM (t := !x394) rfl hm (fun hb399 hm => ?_) (fun hb399 hm => ?_)
          · refine CW.seq ?_
            refine CW.regionL ?_
            refine OW.cons (OP.val (v := (.slice none 0 0)) rfl (x_assign) ?_)
            refine OW.cons (OP.val (v := (.int .i64 1)) rfl (x_assign) ?_)
            refine OW.nil ?_
            refine CW.ret ?_
            have hL := hL.pushNil Finish 31
            obtain rfl := Option.some.inj hm
            have hm := hr57 _ rfl
            obtain rfl := Option.some.inj hm
            exact RR2 rfl rfl rfl ⟨(.slice none 0 0), None_, rfl, hL.fresh 1 rfl [0] (by decide) (by decide) rfl⟩
          · refine CW.skip ?_
            refine CW.regionL ?_
            refine OW.cons (OP.val (v := (.int .i64 s_l1)) rfl (x_mv f381) ?_)
            refine OW.cons (OP.val (v := (.int .i64 (w64 (s_l1 + 1)))) rfl (x_add rfl rfl) ?_)
            refine OW.cons (OP.val (v := (.int .i64 (w64 (s_l1 + 1)))) rfl (x_assign) ?_)
            refine OW.nil ?_
            obtain rfl := Option.some.inj hm
            exact ⟨_, rfl, ⟨f376, f377, f378, f379, f380, rfl, hL⟩⟩
        · refine CW.exit ?_
          refine XJ.hit ?_
          obtain rfl := Option.some.inj hm
          exact ⟨_, rfl, ⟨f376, f377, f378, f379, f380, f381, hL⟩⟩

theorem M.impl_isElapsed_ok (w0 : World) (a0 : Int) {r : Bool} (hm : M.impl_isElapsed a0 = some r) :
    Calls Try.prog 44 #[(.int .i64 a0)] w0 fun e w' => e = .returned (.bool r) ∧ Fresh w0 w' [] := by
  unfold M.impl_isElapsed at hm
  refine calls_CW (args := [(.int .i64 a0)]) Try.func44 rfl rfl rfl ?_
  have hL := Hp.start w0
  refine CW.seq ?_
  refine CW.regionL ?_
  refine OW.cons (OP.val (v := (.bool false)) rfl (x_assign) ?_)
  refine OW.nil ?_
  refine CW.seq ?_
  refine CW.regionL ?_
  refine OW.cons (OP.val (v := (.int .i64 a0)) rfl (x_move) ?_)
  obtain ⟨x1, hx2, hm⟩ := bndE hm
  refine OW.cons (OP.call rfl (x_call (vs := [(.int .i64 a0), (.int .i64 1), (.int .i64 1000000000)]) Try_C37 ⟨rfl, rfl, rfl, trivial⟩) (M.impl_within_ok _ a0 1 1000000000 hx2) ?_)
  rintro e3 wd4 ⟨rfl, hF5⟩
  refine ⟨_, rfl, ?_⟩
  have hL := hL.pushAll hF5
  simp only [lA, lB, lC, lD] at hL
  refine OW.cons (OP.val (v := (.bool x1)) rfl (x_assign) ?_)
  refine OW.nil ?_
  refine CW.ret ?_
  obtain rfl := Option.some.inj hm
  exact RR1 rfl rfl ⟨rfl, hL.fresh 0 rfl [] (by decide) (by decide) rfl⟩

theorem M.impl_CurveCorrected_ok (w0 : World) (a0 : List CurvePoint) {v1 : Value} (h2 : rdL (· < w0.heap.size) w0 v1 a0) (a1 : List CurvePoint) {v3 : Value} (h4 : rdL (· < w0.heap.size) w0 v3 a1) (a2 : Int) (a3 : Int) {r : Int × Int} (hm : M.impl_CurveCorrected a0 a1 a2 a3 = some r) :
    Calls Try.prog 10 #[v1, v3, (.int .i64 a2), (.int .i64 a3)] w0 fun e w' => e = .returned (.tuple #[(.int .i64 r.1), (.int .i64 r.2)]) ∧ Fresh w0 w' [] := by
  unfold M.impl_CurveCorrected at hm
  refine calls_CW (args := [v1, v3, (.int .i64 a2), (.int .i64 a3)]) Try.func10 rfl rfl rfl ?_
  have hL := Hp.start w0
  refine CW.seq ?_
  refine CW.regionL ?_
  refine OW.cons (OP.val (v := (.int .i64 0)) rfl (x_assign) ?_)
  refine OW.cons (OP.val (v := (.int .i64 0)) rfl (x_assign) ?_)
  refine OW.nil ?_
  refine CW.seq ?_
  refine CW.seqJ (fun (s_j1 : Bool) (F : Fr) (w : World) => F 0 = v1 ∧ F 1 = v3 ∧ F 2 = (.int .i64 a2) ∧ F 3 = (.int .i64 a3) ∧ F 17 = (.bool s_j1) ∧ Hp w0 [Ent.snap w0 w0.heap.size] w) (fun s_j1 => M.impl_CurveCorrected_j1 a0 a1 a2 a3 s_j1 = some r) ?_ ?_
  · refine CW.regionL ?_
    refine OW.cons (OP.val (v := v1) rfl (x_move) ?_)
    obtain ⟨x59, hx60, hm⟩ := bndE hm
    refine OW.cons (OP.call rfl (x_call (vs := [v1]) Try_C36 ⟨rfl, trivial⟩) (M.impl_IsCurve_ok _ a0 (hL.rdS 0 rfl h2) hx60) ?_)
    rintro e61 wd62 ⟨rfl, hF63⟩
    refine ⟨_, rfl, ?_⟩
    have hL := hL.pushAll hF63
    simp only [lA, lB, lC, lD] at hL
    refine OW.cons (OP.val (v := (.bool (!x59))) rfl (x_not rfl) ?_)
    refine OW.cons (OP.val (v := (.bool (!x59))) rfl (x_move) ?_)
    refine ifB_elim hm (fun hb64 hm => ?_) (fun hb64 hm => ?_)
    · refine OW.cons (OP.no' rfl rfl hb64 rfl ?_)
      refine OW.cons (OP.no' rfl rfl hb64 rfl ?_)
      refine OW.cons (OP.no' rfl rfl hb64 rfl ?_)
      refine OW.cons (OP.val (v := (.bool true)) rfl (x_pickT' rfl hb64 rfl) ?_)
      refine OW.nil ?_
      exact ⟨true, hm, ⟨rfl, rfl, rfl, rfl, rfl, hL⟩⟩
    · refine OW.cons (OP.yes' rfl rfl hb64 (OP.val (v := v3) rfl (x_move) ?_))
      obtain ⟨x65, hx66, hm⟩ := bndE hm
      refine OW.cons (OP.yes' rfl rfl hb64 (OP.call rfl (x_call (vs := [v3]) Try_C36 ⟨rfl, trivial⟩) (M.impl_IsCurve_ok _ a1 (hL.rdS 0 rfl h4) hx66) ?_))
      rintro e67 wd68 ⟨rfl, hF69⟩
      refine ⟨_, rfl, ?_⟩
      have hL := hL.pushAll hF69
      simp only [lA, lB, lC, lD] at hL
      refine OW.cons (OP.yes' rfl rfl hb64 (OP.val (v := (.bool (!x65))) rfl (x_not rfl) ?_))
      refine OW.cons (OP.val (v := (.bool (!x65))) rfl (x_pickF' rfl hb64 rfl) ?_)
      refine OW.nil ?_
      exact ⟨!x65, hm, ⟨rfl, rfl, rfl, rfl, rfl, hL⟩⟩
  · intro s_j1 F16 wd17 hJ hm
    unfold M.impl_CurveCorrected_j1 at hm
    obtain ⟨f18, f19, f20, f21, f22, hL⟩ := hJ
    refine CW.condM (t := s_j1) f22 hm (fun hb23 hm => ?_) (fun hb23 hm => ?_)
    · refine CW.seq ?_
      refine CW.regionL ?_
      refine OW.cons (OP.val (v := (.int .i64 0)) rfl (x_assign) ?_)
      refine OW.cons (OP.val (v := (.int .i64 1)) rfl (x_assign) ?_)
      refine OW.nil ?_
      refine CW.ret ?_
      obtain rfl := Option.some.inj hm
      exact RR2 rfl rfl rfl ⟨rfl, hL.fresh 0 rfl [] (by decide) (by decide) rfl⟩
    · refine CW.skip ?_
      refine CW.seq ?_
      refine CW.seqJ (fun (s_j2 : Bool) (F : Fr) (w : World) => F 0 = v1 ∧ F 1 = v3 ∧ F 2 = (.int .i64 a2) ∧ F 3 = (.int .i64 a3) ∧ F 25 = (.bool s_j2) ∧ Hp w0 [Ent.snap w0 w0.heap.size] w) (fun s_j2 => M.impl_CurveCorrected_j2 a0 a1 a2 a3 s_j2 = some r) ?_ ?_
      · refine CW.regionL ?_
        refine OW.cons (OP.val (v := (.int .i64 a2)) rfl (x_mv f20) ?_)
        obtain ⟨x48, hx49, hm⟩ := bndE hm
        refine OW.cons (OP.call rfl (x_call (vs := [(.int .i64 a2)]) Try_C44 ⟨rfl, trivial⟩) (M.impl_isElapsed_ok _ a2 hx49) ?_)
        rintro e50 wd51 ⟨rfl, hF52⟩
        refine ⟨_, rfl, ?_⟩
        have hL := hL.pushAll hF52
        simp only [lA, lB, lC, lD] at hL
        refine OW.cons (OP.val (v := (.bool (!x48))) rfl (x_not rfl) ?_)
        refine OW.cons (OP.val (v := (.bool (!x48))) rfl (x_move) ?_)
        refine ifB_elim hm (fun hb53 hm => ?_) (fun hb53 hm => ?_)
        · refine OW.cons (OP.no' rfl rfl hb53 rfl ?_)
          refine OW.cons (OP.no' rfl rfl hb53 rfl ?_)
          refine OW.cons (OP.no' rfl rfl hb53 rfl ?_)
          refine OW.cons (OP.val (v := (.bool true)) rfl (x_pickT' rfl hb53 rfl) ?_)
          refine OW.nil ?_
          exact ⟨true, hm, ⟨f18, f19, f20, f21, rfl, hL⟩⟩
        · refine OW.cons (OP.yes' rfl rfl hb53 (OP.val (v := (.int .i64 a3)) rfl (x_mv f21) ?_))
          obtain ⟨x54, hx55, hm⟩ := bndE hm
          refine OW.cons (OP.yes' rfl rfl hb53 (OP.call rfl (x_call (vs := [(.int .i64 a3)]) Try_C38 ⟨rfl, trivial⟩) (M.impl_isDistance_ok _ a3 hx55) ?_))
          rintro e56 wd57 ⟨rfl, hF58⟩
          refine ⟨_, rfl, ?_⟩
          have hL := hL.pushAll hF58
          simp only [lA, lB, lC, lD] at hL
          refine OW.cons (OP.yes' rfl rfl hb53 (OP.val (v := (.bool (!x54))) rfl (x_not rfl) ?_))
          refine OW.cons (OP.val (v := (.bool (!x54))) rfl (x_pickF' rfl hb53 rfl) ?_)
          refine OW.nil ?_
          exact ⟨!x54, hm, ⟨f18, f19, f20, f21, rfl, hL⟩⟩
      · intro s_j2 F35 wd36 hJ hm
        unfold M.impl_CurveCorrected_j2 at hm
        obtain ⟨f37, f38, f39, f40, f41, hL⟩ := hJ
        refine CW.condM (t := s_j2) f41 hm (fun hb42 hm => ?_) (fun hb42 hm => ?_)
        · refine CW.seq ?_
          refine CW.regionL ?_
          refine OW.cons (OP.val (v := (.int .i64 0)) rfl (x_assign) ?_)
          refine OW.cons (OP.val (v := (.int .i64 2)) rfl (x_assign) ?_)
          refine OW.nil ?_
          refine CW.ret ?_
          obtain rfl := Option.some.inj hm
          exact RR2 rfl rfl rfl ⟨rfl, hL.fresh 0 rfl [] (by decide) (by decide) rfl⟩
        · refine CW.skip ?_
          refine CW.seq ?_
          refine CW.regionL ?_
          refine OW.cons (OP.val (v := v1) rfl (x_mv f37) ?_)
          refine OW.cons (OP.val (v := v3) rfl (x_mv f38) ?_)
          refine OW.cons (OP.val (v := (.int .i64 a2)) rfl (x_mv f39) ?_)
          refine OW.cons (OP.val (v := (.int .i64 a3)) rfl (x_mv f40) ?_)
          obtain ⟨x43, hx44, hm⟩ := bndE hm
          refine OW.cons (OP.call rfl (x_call (vs := [v1, v3, (.int .i64 a2), (.int .i64 a3)]) Try_C39 ⟨rfl, rfl, rfl, rfl, trivial⟩) (M.impl_curveCorrected_ok _ a0 (hL.rdS 0 rfl h2) a1 (hL.rdS 0 rfl h4) a2 a3 hx44) ?_)
          rintro e45 wd46 ⟨rfl, hF47⟩
          refine ⟨_, rfl, ?_⟩
          have hL := hL.pushAll hF47
          simp only [lA, lB, lC, lD] at hL
          refine OW.cons (OP.val (v := (.int .i64 x43)) rfl (x_assign) ?_)
          refine OW.cons (OP.val (v := (.int .i64 0)) rfl (x_assign) ?_)
          refine OW.nil ?_
          refine CW.ret ?_
          obtain rfl := Option.some.inj hm
          exact RR2 rfl rfl rfl ⟨rfl, hL.fresh 0 rfl [] (by decide) (by decide) rfl⟩

theorem M.laws_FnByCurves_ok (w0 : World) (a0 : List UInt8) {v1 : Value} (h2 : rdL (· < w0.heap.size) w0 v1 a0) {r : Bool} (hm : M.laws_FnByCurves a0 = some r) :
    Calls Try.prog 3 #[v1] w0 fun e w' => e = .returned (.bool r) ∧ Fresh w0 w' [] := by
  unfold M.laws_FnByCurves at hm
  refine calls_CW (args := [v1]) Try.func3 rfl rfl rfl ?_
  have hL := Hp.start w0
  refine CW.seq ?_
  refine CW.regionL ?_
  refine OW.cons (OP.val (v := (.bool false)) rfl (x_assign) ?_)
  refine OW.nil ?_
  refine CW.seq ?_
  refine CW.seq ?_
  refine CW.regionL ?_
  refine OW.cons (OP.val (v := v1) rfl (x_move) ?_)
  obtain ⟨x3, hx4, hm⟩ := bndE hm
  refine OW.cons (OP.call rfl (x_call (vs := [v1]) Try_C6 ⟨rfl, trivial⟩) (M.laws_big_ok _ a0 (hL.rdS 0 rfl h2) hx4) ?_)
  rintro e5 wd6 ⟨rfl, hF7⟩
  refine ⟨_, rfl, ?_⟩
  have hL := hL.pushAll hF7
  simp only [lA, lB, lC, lD] at hL
  refine OW.nil ?_
  refine CW.condM (t := x3) rfl hm (fun hb8 hm => ?_) (fun hb8 hm => ?_)
  · refine CW.seq ?_
    refine CW.regionL ?_
    refine OW.cons (OP.val (v := (.bool true)) rfl (x_assign) ?_)
    refine OW.nil ?_
    refine CW.ret ?_
    obtain rfl := Option.some.inj hm
    exact RR1 rfl rfl ⟨rfl, hL.fresh 0 rfl [] (by decide) (by decide) rfl⟩
  · refine CW.skip ?_
    refine CW.seq ?_
    refine CW.regionL ?_
    refine OW.cons (OP.val (v := v1) rfl (x_move) ?_)
    obtain ⟨x9, hx10, hm⟩ := bndE hm
    refine OW.cons (OP.call rfl (x_call (vs := [v1]) Try_C7 ⟨rfl, trivial⟩) (M.spec_DrawCorrectByCurves_ok _ a0 (hL.rdS 0 rfl h2) hx10) ?_)
    rintro e15 wd16 ⟨v12, S11, v14, S13, rfl, hF17⟩
    refine ⟨_, rfl, ?_⟩
    have hL := hL.pushAll hF17
    simp only [lA, lB, lC, lD] at hL
    refine OW.cons (OP.val (v := (.tuple #[(.int .i64 x9.1), v12, v14, (.int .i64 x9.2.2.2.1), (.int .i64 x9.2.2.2.2)])) rfl (x_move) ?_)
    refine OW.cons (OP.val (v := (.int .i64 x9.1)) rfl (x_extract rfl rfl) ?_)
    refine OW.cons (OP.val (v := v12) rfl (x_extract rfl rfl) ?_)
    refine OW.cons (OP.val (v := v14) rfl (x_extract rfl rfl) ?_)
    refine OW.cons (OP.val (v := (.int .i64 x9.2.2.2.1)) rfl (x_extract rfl rfl) ?_)
    refine OW.cons (OP.val (v := (.int .i64 x9.2.2.2.2)) rfl (x_extract rfl rfl) ?_)
    refine OW.cons (OP.val (v := (.int .i64 x9.1)) rfl (x_assign) ?_)
    refine OW.cons (OP.val (v := v12) rfl (x_assign) ?_)
    refine OW.cons (OP.val (v := v14) rfl (x_assign) ?_)
    refine OW.cons (OP.val (v := (.int .i64 x9.2.2.2.1)) rfl (x_assign) ?_)
    refine OW.cons (OP.val (v := (.int .i64 x9.2.2.2.2)) rfl (x_assign) ?_)
    refine OW.nil ?_
    refine CW.seq ?_
    refine CW.regionL ?_
    refine OW.cons (OP.val (v := (.int .i64 x9.1)) rfl (x_move) ?_)
    refine OW.cons (OP.val (v := v12) rfl (x_move) ?_)
    refine OW.cons (OP.val (v := v14) rfl (x_move) ?_)
    refine OW.cons (OP.val (v := (.int .i64 x9.2.2.2.1)) rfl (x_move) ?_)
    refine OW.cons (OP.val (v := (.int .i64 x9.2.2.2.2)) rfl (x_move) ?_)
    obtain ⟨x18, hx19, hm⟩ := bndE hm
    refine OW.cons (OP.call rfl (x_call (vs := [(.int .i64 x9.1), v12, v14, (.int .i64 x9.2.2.2.1), (.int .i64 x9.2.2.2.2)]) Try_C8 ⟨rfl, rfl, rfl, rfl, rfl, trivial⟩) (M.impl_CorrectByCurves_ok _ x9.1 x9.2.1 (hL.rdO 0 rfl) x9.2.2.1 (hL.rdO 1 rfl) x9.2.2.2.1 x9.2.2.2.2 hx19) ?_)
    rintro e22 wd23 ⟨v21, S20, rfl, hF24⟩
    refine ⟨_, rfl, ?_⟩
    have hL := hL.pushAll hF24
    simp only [lA, lB, lC, lD] at hL
    refine OW.cons (OP.val (v := (.tuple #[v21, (.int .i64 x18.2)])) rfl (x_move) ?_)
    refine OW.cons (OP.val (v := v21) rfl (x_extract rfl rfl) ?_)
    refine OW.cons (OP.val (v := (.int .i64 x18.2)) rfl (x_extract rfl rfl) ?_)
    refine OW.cons (OP.val (v := v21) rfl (x_assign) ?_)
    refine OW.cons (OP.val (v := (.int .i64 x18.2)) rfl (x_assign) ?_)
    refine OW.nil ?_
    refine CW.seq ?_
    refine CW.regionL ?_
    refine OW.cons (OP.val (v := (.int .i64 x9.1)) rfl (x_move) ?_)
    refine OW.cons (OP.val (v := v12) rfl (x_move) ?_)
    refine OW.cons (OP.val (v := v14) rfl (x_move) ?_)
    refine OW.cons (OP.val (v := (.int .i64 x9.2.2.2.1)) rfl (x_move) ?_)
    refine OW.cons (OP.val (v := (.int .i64 x9.2.2.2.2)) rfl (x_move) ?_)
    obtain ⟨x25, hx26, hm⟩ := bndE hm
    refine OW.cons (OP.call rfl (x_call (vs := [(.int .i64 x9.1), v12, v14, (.int .i64 x9.2.2.2.1), (.int .i64 x9.2.2.2.2)]) Try_C9 ⟨rfl, rfl, rfl, rfl, rfl, trivial⟩) (M.spec_CorrectByCurves_ok _ x9.1 x9.2.1 (hL.rdO 1 rfl) x9.2.2.1 (hL.rdO 2 rfl) x9.2.2.2.1 x9.2.2.2.2 hx26) ?_)
    rintro e29 wd30 ⟨v28, S27, rfl, hF31⟩
    refine ⟨_, rfl, ?_⟩
    have hL := hL.pushAll hF31
    simp only [lA, lB, lC, lD] at hL
    refine OW.cons (OP.val (v := (.tuple #[v28, (.int .i64 x25.2)])) rfl (x_move) ?_)
    refine OW.cons (OP.val (v := v28) rfl (x_extract rfl rfl) ?_)
    refine OW.cons (OP.val (v := (.int .i64 x25.2)) rfl (x_extract rfl rfl) ?_)
    refine OW.cons (OP.val (v := v28) rfl (x_assign) ?_)
    refine OW.cons (OP.val (v := (.int .i64 x25.2)) rfl (x_assign) ?_)
    refine OW.nil ?_
    refine CW.seq ?_
    refine CW.seq ?_
    refine CW.regionL ?_
    refine OW.cons (OP.val (v := (.int .i64 x18.2)) rfl (x_move) ?_)
    refine OW.cons (OP.val (v := (.int .i64 x25.2)) rfl (x_move) ?_)
    refine OW.cons (OP.val (v := (.bool (x18.2 != x25.2))) rfl (x_neq rfl rfl) ?_)
    refine OW.nil ?_
    refine CW.condM (t := x18.2 != x25.2) rfl hm (fun hb32 hm => ?_) (fun hb32 hm => ?_)
    · refine CW.seq ?_
      refine CW.regionL ?_
      refine OW.cons (OP.val (v := (.bool false)) rfl (x_assign) ?_)
      refine OW.nil ?_
      refine CW.ret ?_
      obtain rfl := Option.some.inj hm
      exact RR1 rfl rfl ⟨rfl, hL.fresh 4 rfl [] (by decide) (by decide) rfl⟩
    · refine CW.skip ?_
      refine CW.seq ?_
      refine CW.seq ?_
      refine CW.regionL ?_
      refine OW.cons (OP.val (v := (.int .i64 x18.2)) rfl (x_move) ?_)
      refine OW.cons (OP.val (v := (.bool (x18.2 != 0))) rfl (x_neq rfl rfl) ?_)
      refine OW.nil ?_
      refine CW.condM (t := x18.2 != 0) rfl hm (fun hb33 hm => ?_) (fun hb33 hm => ?_)
      · refine CW.seq ?_
        refine CW.regionL ?_
        refine OW.cons (OP.val (v := v21) rfl (x_move) ?_)
        refine OW.cons (OP.val (v := (.int .i64 (x18.1.length : Int))) rfl (x_lenR Try.underlying24 rfl (hL.rdO 1 rfl)) ?_)
        refine OW.cons (OP.val (v := (.bool ((x18.1.length : Int) == 0))) rfl (x_eql rfl rfl) ?_)
        refine OW.cons (OP.val (v := (.bool ((x18.1.length : Int) == 0))) rfl (x_assign) ?_)
        refine OW.nil ?_
        refine CW.ret ?_
        obtain rfl := Option.some.inj hm
        exact RR1 rfl rfl ⟨rfl, hL.fresh 4 rfl [] (by decide) (by decide) rfl⟩
      · refine CW.skip ?_
        refine CW.seq ?_
        refine CW.seq ?_
        refine CW.regionL ?_
        refine OW.cons (OP.val (v := v21) rfl (x_move) ?_)
        refine OW.cons (OP.val (v := (.int .i64 (x18.1.length : Int))) rfl (x_lenR Try.underlying24 rfl (hL.rdO 1 rfl)) ?_)
        refine OW.cons (OP.val (v := v12) rfl (x_move) ?_)
        refine OW.cons (OP.val (v := (.int .i64 (x9.2.1.length : Int))) rfl (x_lenR Try.underlying24 rfl (hL.rdO 2 rfl)) ?_)
        refine OW.cons (OP.val (v := (.bool ((x18.1.length : Int) != (x9.2.1.length : Int)))) rfl (x_neq rfl rfl) ?_)
        refine OW.nil ?_
        refine CW.condM (t := (x18.1.length : Int) != (x9.2.1.length : Int)) rfl hm (fun hb34 hm => ?_) (fun hb34 hm => ?_)
        · refine CW.seq ?_
          refine CW.regionL ?_
          refine OW.cons (OP.val (v := (.bool false)) rfl (x_assign) ?_)
          refine OW.nil ?_
          refine CW.ret ?_
          obtain rfl := Option.some.inj hm
          exact RR1 rfl rfl ⟨rfl, hL.fresh 4 rfl [] (by decide) (by decide) rfl⟩
        · refine CW.skip ?_
          refine CW.seq ?_
          refine CW.seq ?_
          refine CW.regionL ?_
          refine OW.cons (OP.val (v := (.int .i64 0)) rfl (x_assign) ?_)
          refine OW.nil ?_
          obtain ⟨o1047, ho1048, hm⟩ := bndE hm
          have hL := hL.sel [1, 2, 3, 4] (by decide) rfl
          refine CW.loopB (fun (s_l1 : Int) (F : Fr) (w : World) => F 4 = v12 ∧ F 5 = v14 ∧ F 6 = (.int .i64 x9.2.2.2.1) ∧ F 7 = (.int .i64 x9.2.2.2.2) ∧ F 8 = v21 ∧ F 12 = (.int .i64 s_l1) ∧ Hp w0 [Ent.own 31 S20 v21 x18.1, Ent.own 31 S11 v12 x9.2.1, Ent.own 34 S13 v14 x9.2.2.1, Ent.snap w0 w0.heap.size] w) (fun o => outc o (fun x => some x) (fun s => M.laws_FnByCurves_a1 s) = some r) ho1048 hm ⟨rfl, rfl, rfl, rfl, rfl, rfl, hL⟩ ?_ ?_
          · intro s_l1 F1049 wd1050 hJ hm
            have hm := outcE hm
            have hm : M.laws_FnByCurves_a1 s_l1 = some r := hm
            unfold M.laws_FnByCurves_a1 at hm
            obtain ⟨f1051, f1052, f1053, f1054, f1055, f1056, hL⟩ := hJ
            refine CW.seq ?_
            refine CW.regionL ?_
            refine OW.cons (OP.val (v := (.bool true)) rfl (x_assign) ?_)
            refine OW.nil ?_
            refine CW.ret ?_
            obtain rfl := Option.some.inj hm
            exact RR1 rfl rfl ⟨rfl, hL.fresh 3 rfl [] (by decide) (by decide) rfl⟩
          · intro s_l1 F1057 wd1058 t1045 hJ hm hr1046
            unfold M.laws_FnByCurves_l1 at hm
            obtain ⟨f1059, f1060, f1061, f1062, f1063, f1064, hL⟩ := hJ
            refine CW.seq ?_
            refine CW.seq ?_
            refine CW.regionL ?_
            refine OW.cons (OP.val (v := (.int .i64 s_l1)) rfl (x_mv f1064) ?_)
            refine OW.cons (OP.val (v := v21) rfl (x_mv f1063) ?_)
            refine OW.cons (OP.val (v := (.int .i64 (x18.1.length : Int))) rfl (x_lenR Try.underlying24 rfl (hL.rdO 0 rfl)) ?_)
            refine OW.cons (OP.val (v := (.bool (decide (s_l1 < (x18.1.length : Int))))) rfl (x_lss rfl rfl) ?_)
            refine OW.nil ?_
            refine CW.condM (t := decide (s_l1 < (x18.1.length : Int))) rfl hm (fun hb1065 hm => ?_) (fun hb1065 hm => ?_)
            · refine CW.skip ?_
              refine CW.seqJ (fun (s_j1 : Unit) (F : Fr) (w : World) => F 4 = v12 ∧ F 5 = v14 ∧ F 6 = (.int .i64 x9.2.2.2.1) ∧ F 7 = (.int .i64 x9.2.2.2.2) ∧ F 8 = v21 ∧ F 12 = (.int .i64 s_l1) ∧ Hp w0 [Ent.own 31 S20 v21 x18.1, Ent.own 31 S11 v12 x9.2.1, Ent.own 34 S13 v14 x9.2.2.1, Ent.snap w0 w0.heap.size] w) (fun s_j1 => M.laws_FnByCurves_j1 s_l1 s_j1 = some t1045) ?_ ?_
              · refine CW.blockJ (fun (s_j2 : Unit) (F : Fr) (w : World) => F 4 = v12 ∧ F 5 = v14 ∧ F 6 = (.int .i64 x9.2.2.2.1) ∧ F 7 = (.int .i64 x9.2.2.2.2) ∧ F 8 = v21 ∧ F 12 = (.int .i64 s_l1) ∧ Hp w0 [Ent.own 31 S20 v21 x18.1, Ent.own 31 S11 v12 x9.2.1, Ent.own 34 S13 v14 x9.2.2.1, Ent.snap w0 w0.heap.size] w) (fun s_j2 => M.laws_FnByCurves_j2 s_l1 s_j2 = some t1045) ?_ ?_
                · refine CW.seq ?_
                  refine CW.seq ?_
                  refine CW.regionL ?_
                  refine OW.cons (OP.val (v := v12) rfl (x_mv f1059) ?_)
                  refine OW.cons (OP.val (v := (.int .i64 s_l1)) rfl (x_mv f1064) ?_)
                  obtain ⟨x1450, ha1451, hm⟩ := bndE hm
                  obtain ⟨hz1452, ha1456⟩ := idxE ha1451
                  obtain ⟨b1453, q1454, hix1455⟩ := rdL_ix (hL.rdO 1 rfl) hz1452 ha1456
                  refine OW.cons (OP.val (v := (.pointer (some ⟨b1453, q1454, none⟩))) rfl (x_ix Try.underlying24 Try_T31 rfl rfl hix1455) ?_)
                  refine OW.cons (OP.val (v := (.pointer (some ⟨b1453, q1454 + 1, none⟩))) rfl (x_fieldAddr (fsz := 1) q1454 1 (q1454 + 1) Try.underlying31 rfl Try_T2 rfl rfl rfl) ?_)
                  refine OW.cons (OP.val (v := (.int .i64 x1450.Code)) rfl (x_load1 Try.underlying2 rfl rfl (rdF_cells (hL.rdO 1 rfl) hix1455 ha1456 1 _ rfl)) ?_)
                  refine OW.cons (OP.val (v := (.bool (x1450.Code != 0))) rfl (x_neq rfl rfl) ?_)
                  refine OW.nil ?_
                  refine CW.condM (t := x1450.Code != 0) rfl hm (fun hb1457 hm => ?_) (fun hb1457 hm => ?_)
                  · refine CW.seq ?_
                    refine CW.seq ?_
                    refine CW.draw Try_mixed ?_
                    have hL := hL.call (Mod.drew _)
                    refine DW.pre (fuel := 0) (fin := ((((((((((Array.replicate 9 false).setIfInBounds 0 true).setIfInBounds 1 true).setIfInBounds 2 true).setIfInBounds 3 true).setIfInBounds 4 true).setIfInBounds 5 true).setIfInBounds 6 true).setIfInBounds 7 true).setIfInBounds 8 true)) (C := fun w' => Mod None_ _ w') [0, 1, 2, 3, 4, 5, 6, 7, 8] (Mod.refl _ _) (by kernel_rfl) (by kernel_rfl) ?_
                    refine QW.cons rfl (QP.val (v := v21) rfl (fun w' hm' => x_mv f1063) ?_)
                    refine QW.cons rfl (QP.val (v := (.int .i64 s_l1)) rfl (fun w' hm' => x_mv f1064) ?_)
                    obtain ⟨x1458, ha1459, hm⟩ := bndE hm
                    obtain ⟨hz1460, ha1464⟩ := idxE ha1459
                    obtain ⟨b1461, q1462, hix1463⟩ := rdL_ix (hL.rdO 0 rfl) hz1460 ha1464
                    refine QW.cons rfl (QP.val (v := (.pointer (some ⟨b1461, q1462, none⟩))) rfl (fun w' hm' => x_ix Try.underlying24 Try_T31 rfl rfl hix1463) ?_)
                    refine QW.cons rfl (QP.val (v := (.agg #[(.int .i64 x1458.Boat), (.int .i64 x1458.Code), (.int .i64 x1458.Time)])) rfl (fun w' hm' => x_loadN (cs := [(.int .i64 x1458.Boat), (.int .i64 x1458.Code), (.int .i64 x1458.Time)]) Try.underlying31 Try_T31 rfl rfl (rdF_cells ((hL.call hm').rdO 0 rfl) hix1463 ha1464)) ?_)
                    refine QW.cons rfl (QP.val (v := v12) rfl (fun w' hm' => x_mv f1059) ?_)
                    refine QW.cons rfl (QP.val (v := (.int .i64 s_l1)) rfl (fun w' hm' => x_mv f1064) ?_)
                    obtain ⟨x1465, ha1466, hm⟩ := bndE hm
                    obtain ⟨hz1467, ha1471⟩ := idxE ha1466
                    obtain ⟨b1468, q1469, hix1470⟩ := rdL_ix (hL.rdO 1 rfl) hz1467 ha1471
                    refine QW.cons rfl (QP.val (v := (.pointer (some ⟨b1468, q1469, none⟩))) rfl (fun w' hm' => x_ix Try.underlying24 Try_T31 rfl rfl hix1470) ?_)
                    refine QW.cons rfl (QP.val (v := (.agg #[(.int .i64 x1465.Boat), (.int .i64 x1465.Code), (.int .i64 x1465.Time)])) rfl (fun w' hm' => x_loadN (cs := [(.int .i64 x1465.Boat), (.int .i64 x1465.Code), (.int .i64 x1465.Time)]) Try.underlying31 Try_T31 rfl rfl (rdF_cells ((hL.call hm').rdO 1 rfl) hix1470 ha1471)) ?_)
                    refine QW.cons rfl (QP.val (v := (.bool (!(eqL [x1458.Boat, x1458.Code, x1458.Time] [x1465.Boat, x1465.Code, x1465.Time])))) rfl (fun w' hm' => (x_eqS (xs := [x1458.Boat, x1458.Code, x1458.Time]) (ys := [x1465.Boat, x1465.Code, x1465.Time]) (by kernel_rfl) rfl (by kernel_rfl) rfl rfl).2) ?_)
                    refine QW.nil ?_
                    intro wd1472 hmod
                    have hL := hL.call hmod
                    refine DW.done (by kernel_rfl) ?_
                    refine CW.condM (t := !(eqL [x1458.Boat, x1458.Code, x1458.Time] [x1465.Boat, x1465.Code, x1465.Time])) rfl hm (fun hb1473 hm => ?_) (fun hb1473 hm => ?_)
                    · refine CW.seq ?_
                      refine CW.regionL ?_
                      refine OW.cons (OP.val (v := (.bool false)) rfl (x_assign) ?_)
                      refine OW.nil ?_
                      refine CW.ret ?_
                      obtain rfl := Option.some.inj hm
                      have hm := hr1046 _ rfl
                      obtain rfl := Option.some.inj hm
                      exact RR1 rfl rfl ⟨rfl, hL.fresh 3 rfl [] (by decide) (by decide) rfl⟩
                    · refine CW.skip ?_
                      refine CW.exit ?_
                      refine XJ.hit ?_
                      exact ⟨(), hm, ⟨f1059, f1060, f1061, f1062, f1063, f1064, hL⟩⟩
                  · refine CW.skip ?_
                    refine CW.seq ?_
                    obtain ⟨wz1474, hL, ho1475⟩ := hL.freeze 2 rfl
                    simp only [lC, lD] at hL
                    refine CW.draw Try_mixed ?_
                    have hL := hL.call (Mod.drew _)
                    refine DW.pre (fuel := 0) (fin := (((((((((((((((((((((Array.replicate 20 false).setIfInBounds 0 true).setIfInBounds 1 true).setIfInBounds 2 true).setIfInBounds 3 true).setIfInBounds 4 true).setIfInBounds 5 true).setIfInBounds 6 true).setIfInBounds 7 true).setIfInBounds 8 true).setIfInBounds 9 true).setIfInBounds 10 true).setIfInBounds 11 true).setIfInBounds 12 true).setIfInBounds 13 true).setIfInBounds 14 true).setIfInBounds 15 true).setIfInBounds 16 true).setIfInBounds 17 true).setIfInBounds 18 true).setIfInBounds 19 true)) (C := fun w' => Mod None_ _ w') [0, 1, 2, 3, 4, 5, 6, 7, 8, 9, 10, 11, 12, 13, 14, 15, 16, 17, 18, 19] (Mod.refl _ _) (by kernel_rfl) (by kernel_rfl) ?_
                    refine QW.cons rfl (QP.val (v := v14) rfl (fun w' hm' => x_mv f1060) ?_)
                    refine QW.cons rfl (QP.val (v := (.int .i64 s_l1)) rfl (fun w' hm' => x_mv f1064) ?_)
                    obtain ⟨x1476, ha1477, hm⟩ := bndE hm
                    obtain ⟨hz1478, ha1486⟩ := idxE ha1477
                    obtain ⟨b1479, q1480, v1481, hix1482, hs1483, hc1484, hr1485⟩ := rdN_at ho1475.1.rdL hz1478 ha1486
                    refine QW.cons rfl (QP.val (v := (.pointer (some ⟨b1479, q1480, none⟩))) rfl (fun w' hm' => x_ix Try.underlying25 Try_T34 rfl rfl hix1482) ?_)
                    refine QW.cons rfl (QP.val (v := v1481) rfl (fun w' hm' => x_load1 Try.underlying34 rfl rfl ((hL.call hm').cellF 2 rfl hs1483 hc1484)) ?_)
                    refine QW.cons rfl (QP.val (v := v14) rfl (fun w' hm' => x_mv f1060) ?_)
                    refine QW.cons rfl (QP.val (v := (.int .i64 x9.2.2.2.1)) rfl (fun w' hm' => x_mv f1061) ?_)
                    obtain ⟨x1487, ha1488, hm⟩ := bndE hm
                    obtain ⟨hz1489, ha1497⟩ := idxE ha1488
                    obtain ⟨b1490, q1491, v1492, hix1493, hs1494, hc1495, hr1496⟩ := rdN_at ho1475.1.rdL hz1489 ha1497
                    refine QW.cons rfl (QP.val (v := (.pointer (some ⟨b1490, q1491, none⟩))) rfl (fun w' hm' => x_ix Try.underlying25 Try_T34 rfl rfl hix1493) ?_)
                    refine QW.cons rfl (QP.val (v := v1492) rfl (fun w' hm' => x_load1 Try.underlying34 rfl rfl ((hL.call hm').cellF 2 rfl hs1494 hc1495)) ?_)
                    refine QW.cons rfl (QP.val (v := v12) rfl (fun w' hm' => x_mv f1059) ?_)
                    refine QW.cons rfl (QP.val (v := (.int .i64 s_l1)) rfl (fun w' hm' => x_mv f1064) ?_)
                    obtain ⟨x1498, ha1499, hm⟩ := bndE hm
                    obtain ⟨hz1500, ha1504⟩ := idxE ha1499
                    obtain ⟨b1501, q1502, hix1503⟩ := rdL_ix (hL.rdO 1 rfl) hz1500 ha1504
                    refine QW.cons rfl (QP.val (v := (.pointer (some ⟨b1501, q1502, none⟩))) rfl (fun w' hm' => x_ix Try.underlying24 Try_T31 rfl rfl hix1503) ?_)
                    refine QW.cons rfl (QP.val (v := (.pointer (some ⟨b1501, q1502 + 2, none⟩))) rfl (fun w' hm' => x_fieldAddr (fsz := 1) q1502 2 (q1502 + 2) Try.underlying31 rfl Try_T2 rfl rfl rfl) ?_)
                    refine QW.cons rfl (QP.val (v := (.int .i64 x1498.Time)) rfl (fun w' hm' => x_load1 Try.underlying2 rfl rfl (rdF_cells ((hL.call hm').rdO 1 rfl) hix1503 ha1504 2 _ rfl)) ?_)
                    refine QW.cons rfl (QP.val (v := (.int .i64 x9.2.2.2.2)) rfl (fun w' hm' => x_mv f1062) ?_)
                    obtain ⟨x1505, hx1506, hm⟩ := bndE hm
                    refine QW.cons rfl (QP.call (v := (.tuple #[(.int .i64 x1505.1), (.int .i64 x1505.2)])) rfl (fun w' hm' => x_call (vs := [v1481, v1492, (.int .i64 x1498.Time), (.int .i64 x9.2.2.2.2)]) Try_C10 ⟨rfl, rfl, rfl, rfl, trivial⟩) (fun w' hm' => (M.impl_CurveCorrected_ok w' x1476 ((hL.call hm').rdF 2 rfl hr1485) x1487 ((hL.call hm').rdF 2 rfl hr1496) x1498.Time x9.2.2.2.2 hx1506).mono (fun e w'' h => ⟨h.1, hm'.trans h.2.mod⟩)) ?_)
                    refine QW.cons rfl (QP.val (v := (.tuple #[(.int .i64 x1505.1), (.int .i64 x1505.2)])) rfl (fun w' hm' => x_move) ?_)
                    refine QW.cons rfl (QP.val (v := (.int .i64 x1505.1)) rfl (fun w' hm' => x_extract rfl rfl) ?_)
                    refine QW.cons rfl (QP.val (v := (.int .i64 x1505.2)) rfl (fun w' hm' => x_extract rfl rfl) ?_)
                    refine QW.cons rfl (QP.val (v := (.int .i64 x1505.1)) rfl (fun w' hm' => x_assign) ?_)
                    refine QW.cons rfl (QP.val (v := (.int .i64 x1505.2)) rfl (fun w' hm' => x_assign) ?_)
                    refine QW.nil ?_
                    intro wd1507 hmod
                    have hL := hL.call hmod
                    refine DW.done (by kernel_rfl) ?_
                    have hL := hL.thaw 2 rfl ho1475
                    refine CW.seqJ (fun (s_j3 : Bool) (F : Fr) (w : World) => F 4 = v12 ∧ F 5 = v14 ∧ F 6 = (.int .i64 x9.2.2.2.1) ∧ F 7 = (.int .i64 x9.2.2.2.2) ∧ F 8 = v21 ∧ F 12 = (.int .i64 s_l1) ∧ F 118 = (.bool s_j3) ∧ Hp w0 [Ent.own 31 S20 v21 x18.1, Ent.own 31 S11 v12 x9.2.1, Ent.own 34 S13 v14 x9.2.2.1, Ent.snap w0 w0.heap.size] w) (fun s_j3 => M.laws_FnByCurves_j3 s_l1 s_j3 = some t1045) ?_ ?_
                    · refine CW.draw Try_mixed ?_
                      have hL := hL.call (Mod.drew _)
                      refine DW.pre (fuel := 0) (fin := (((((((((((((((((((((((((Array.replicate 24 false).setIfInBounds 0 true).setIfInBounds 1 true).setIfInBounds 2 true).setIfInBounds 3 true).setIfInBounds 4 true).setIfInBounds 5 true).setIfInBounds 6 true).setIfInBounds 7 true).setIfInBounds 8 true).setIfInBounds 9 true).setIfInBounds 10 true).setIfInBounds 11 true).setIfInBounds 12 true).setIfInBounds 13 true).setIfInBounds 14 true).setIfInBounds 15 true).setIfInBounds 16 true).setIfInBounds 17 true).setIfInBounds 18 true).setIfInBounds 19 true).setIfInBounds 20 true).setIfInBounds 21 true).setIfInBounds 22 true).setIfInBounds 23 true)) (C := fun w' => Mod None_ _ w') [0, 1, 2, 3, 4, 5, 6, 7, 8, 9, 10, 11, 12, 13, 14, 15, 16, 17, 18, 19, 20, 21, 22, 23] (Mod.refl _ _) (by kernel_rfl) (by kernel_rfl) ?_
                      refine QW.cons rfl (QP.val (v := (.int .i64 x1505.2)) rfl (fun w' hm' => x_move) ?_)
                      refine QW.cons rfl (QP.val (v := (.bool (x1505.2 != 0))) rfl (fun w' hm' => x_neq rfl rfl) ?_)
                      refine QW.cons rfl (QP.val (v := (.bool (x1505.2 != 0))) rfl (fun w' hm' => x_move) ?_)
                      refine ifB_elim hm (fun hb1544 hm => ?_) (fun hb1544 hm => ?_)
                      · refine QW.cons rfl (QP.no' rfl rfl hb1544 rfl ?_)
                        refine QW.cons rfl (QP.no' rfl rfl hb1544 rfl ?_)
                        refine QW.cons rfl (QP.no' rfl rfl hb1544 rfl ?_)
                        refine QW.cons rfl (QP.no' rfl rfl hb1544 rfl ?_)
                        refine QW.cons rfl (QP.no' rfl rfl hb1544 rfl ?_)
                        refine QW.cons rfl (QP.no' rfl rfl hb1544 rfl ?_)
                        refine QW.cons rfl (QP.no' rfl rfl hb1544 rfl ?_)
                        refine QW.cons rfl (QP.val (v := (.bool true)) rfl (fun w' hm' => x_pickT' rfl hb1544 rfl) ?_)
                        refine QW.cons rfl (QP.val (v := (.bool true)) rfl (fun w' hm' => x_move) ?_)
                        refine QW.cons rfl (QP.no' rfl rfl rfl rfl ?_)
                        refine QW.cons rfl (QP.no' rfl rfl rfl rfl ?_)
                        refine QW.cons rfl (QP.no' rfl rfl rfl rfl ?_)
                        refine QW.cons rfl (QP.no' rfl rfl rfl rfl ?_)
                        refine QW.cons rfl (QP.no' rfl rfl rfl rfl ?_)
                        refine QW.cons rfl (QP.no' rfl rfl rfl rfl ?_)
                        refine QW.cons rfl (QP.no' rfl rfl rfl rfl ?_)
                        refine QW.cons rfl (QP.no' rfl rfl rfl rfl ?_)
                        refine QW.cons rfl (QP.no' rfl rfl rfl rfl ?_)
                        refine QW.cons rfl (QP.no' rfl rfl rfl rfl ?_)
                        refine QW.cons rfl (QP.no' rfl rfl rfl rfl ?_)
                        refine QW.cons rfl (QP.val (v := (.bool true)) rfl (fun w' hm' => x_pickT' rfl rfl rfl) ?_)
                        refine QW.nil ?_
                        intro wd1545 hmod
                        have hL := hL.call hmod
                        refine DW.done (by kernel_rfl) ?_
                        exact ⟨true, hm, ⟨f1059, f1060, f1061, f1062, f1063, f1064, rfl, hL⟩⟩
                      · refine QW.cons rfl (QP.yes' rfl rfl hb1544 (QP.val (v := v21) rfl (fun w' hm' => x_mv f1063) ?_))
                        refine QW.cons rfl (QP.yes' rfl rfl hb1544 (QP.val (v := (.int .i64 s_l1)) rfl (fun w' hm' => x_mv f1064) ?_))
                        obtain ⟨x1546, ha1547, hm⟩ := bndE hm
                        obtain ⟨hz1548, ha1552⟩ := idxE ha1547
                        obtain ⟨b1549, q1550, hix1551⟩ := rdL_ix (hL.rdO 0 rfl) hz1548 ha1552
                        refine QW.cons rfl (QP.yes' rfl rfl hb1544 (QP.val (v := (.pointer (some ⟨b1549, q1550, none⟩))) rfl (fun w' hm' => x_ix Try.underlying24 Try_T31 rfl rfl hix1551) ?_))
                        refine QW.cons rfl (QP.yes' rfl rfl hb1544 (QP.val (v := (.pointer (some ⟨b1549, q1550 + 2, none⟩))) rfl (fun w' hm' => x_fieldAddr (fsz := 1) q1550 2 (q1550 + 2) Try.underlying31 rfl Try_T2 rfl rfl rfl) ?_))
                        refine QW.cons rfl (QP.yes' rfl rfl hb1544 (QP.val (v := (.int .i64 x1546.Time)) rfl (fun w' hm' => x_load1 Try.underlying2 rfl rfl (rdF_cells ((hL.call hm').rdO 0 rfl) hix1551 ha1552 2 _ rfl)) ?_))
                        refine QW.cons rfl (QP.yes' rfl rfl hb1544 (QP.val (v := (.int .i64 x1505.1)) rfl (fun w' hm' => x_move) ?_))
                        refine QW.cons rfl (QP.yes' rfl rfl hb1544 (QP.val (v := (.bool (x1546.Time != x1505.1))) rfl (fun w' hm' => x_neq rfl rfl) ?_))
                        refine QW.cons rfl (QP.val (v := (.bool (x1546.Time != x1505.1))) rfl (fun w' hm' => x_pickF' rfl hb1544 rfl) ?_)
                        refine QW.cons rfl (QP.val (v := (.bool (x1546.Time != x1505.1))) rfl (fun w' hm' => x_move) ?_)
                        refine ifB_elim hm (fun hb1553 hm => ?_) (fun hb1553 hm => ?_)
                        · refine QW.cons rfl (QP.no' rfl rfl hb1553 rfl ?_)
                          refine QW.cons rfl (QP.no' rfl rfl hb1553 rfl ?_)
                          refine QW.cons rfl (QP.no' rfl rfl hb1553 rfl ?_)
                          refine QW.cons rfl (QP.no' rfl rfl hb1553 rfl ?_)
                          refine QW.cons rfl (QP.no' rfl rfl hb1553 rfl ?_)
                          refine QW.cons rfl (QP.no' rfl rfl hb1553 rfl ?_)
                          refine QW.cons rfl (QP.no' rfl rfl hb1553 rfl ?_)
                          refine QW.cons rfl (QP.no' rfl rfl hb1553 rfl ?_)
                          refine QW.cons rfl (QP.no' rfl rfl hb1553 rfl ?_)
                          refine QW.cons rfl (QP.no' rfl rfl hb1553 rfl ?_)
                          refine QW.cons rfl (QP.no' rfl rfl hb1553 rfl ?_)
                          refine QW.cons rfl (QP.val (v := (.bool true)) rfl (fun w' hm' => x_pickT' rfl hb1553 rfl) ?_)
                          refine QW.nil ?_
                          intro wd1554 hmod
                          have hL := hL.call hmod
                          refine DW.done (by kernel_rfl) ?_
                          exact ⟨true, hm, ⟨f1059, f1060, f1061, f1062, f1063, f1064, rfl, hL⟩⟩
                        · refine QW.cons rfl (QP.yes' rfl rfl hb1553 (QP.val (v := v21) rfl (fun w' hm' => x_mv f1063) ?_))
                          refine QW.cons rfl (QP.yes' rfl rfl hb1553 (QP.val (v := (.int .i64 s_l1)) rfl (fun w' hm' => x_mv f1064) ?_))
                          obtain ⟨x1555, ha1556, hm⟩ := bndE hm
                          obtain ⟨hz1557, ha1561⟩ := idxE ha1556
                          obtain ⟨b1558, q1559, hix1560⟩ := rdL_ix (hL.rdO 0 rfl) hz1557 ha1561
                          refine QW.cons rfl (QP.yes' rfl rfl hb1553 (QP.val (v := (.pointer (some ⟨b1558, q1559, none⟩))) rfl (fun w' hm' => x_ix Try.underlying24 Try_T31 rfl rfl hix1560) ?_))
                          refine QW.cons rfl (QP.yes' rfl rfl hb1553 (QP.val (v := (.pointer (some ⟨b1558, q1559, none⟩))) rfl (fun w' hm' => x_fieldAddr (fsz := 1) q1559 0 q1559 Try.underlying31 rfl Try_T2 rfl rfl rfl) ?_))
                          refine QW.cons rfl (QP.yes' rfl rfl hb1553 (QP.val (v := (.int .i64 x1555.Boat)) rfl (fun w' hm' => x_load1 Try.underlying2 rfl rfl (rdF_cells ((hL.call hm').rdO 0 rfl) hix1560 ha1561 0 _ rfl)) ?_))
                          refine QW.cons rfl (QP.yes' rfl rfl hb1553 (QP.val (v := v12) rfl (fun w' hm' => x_mv f1059) ?_))
                          refine QW.cons rfl (QP.yes' rfl rfl hb1553 (QP.val (v := (.int .i64 s_l1)) rfl (fun w' hm' => x_mv f1064) ?_))
                          obtain ⟨x1562, ha1563, hm⟩ := bndE hm
                          obtain ⟨hz1564, ha1568⟩ := idxE ha1563
                          obtain ⟨b1565, q1566, hix1567⟩ := rdL_ix (hL.rdO 1 rfl) hz1564 ha1568
                          refine QW.cons rfl (QP.yes' rfl rfl hb1553 (QP.val (v := (.pointer (some ⟨b1565, q1566, none⟩))) rfl (fun w' hm' => x_ix Try.underlying24 Try_T31 rfl rfl hix1567) ?_))
                          refine QW.cons rfl (QP.yes' rfl rfl hb1553 (QP.val (v := (.pointer (some ⟨b1565, q1566, none⟩))) rfl (fun w' hm' => x_fieldAddr (fsz := 1) q1566 0 q1566 Try.underlying31 rfl Try_T2 rfl rfl rfl) ?_))
                          refine QW.cons rfl (QP.yes' rfl rfl hb1553 (QP.val (v := (.int .i64 x1562.Boat)) rfl (fun w' hm' => x_load1 Try.underlying2 rfl rfl (rdF_cells ((hL.call hm').rdO 1 rfl) hix1567 ha1568 0 _ rfl)) ?_))
                          refine QW.cons rfl (QP.yes' rfl rfl hb1553 (QP.val (v := (.bool (x1555.Boat != x1562.Boat))) rfl (fun w' hm' => x_neq rfl rfl) ?_))
                          refine QW.cons rfl (QP.val (v := (.bool (x1555.Boat != x1562.Boat))) rfl (fun w' hm' => x_pickF' rfl hb1553 rfl) ?_)
                          refine QW.nil ?_
                          intro wd1569 hmod
                          have hL := hL.call hmod
                          refine DW.done (by kernel_rfl) ?_
                          exact ⟨x1555.Boat != x1562.Boat, hm, ⟨f1059, f1060, f1061, f1062, f1063, f1064, rfl, hL⟩⟩
                    · intro s_j3 F1534 wd1535 hJ hm
                      unfold M.laws_FnByCurves_j3 at hm
                      obtain ⟨f1536, f1537, f1538, f1539, f1540, f1541, f1542, hL⟩ := hJ
                      refine CW.condM (t := s_j3) f1542 hm (fun hb1543 hm => ?_) (fun hb1543 hm => ?_)
                      · refine CW.seq ?_
                        refine CW.regionL ?_
                        refine OW.cons (OP.val (v := (.bool false)) rfl (x_assign) ?_)
                        refine OW.nil ?_
                        refine CW.ret ?_
                        obtain rfl := Option.some.inj hm
                        have hm := hr1046 _ rfl
                        obtain rfl := Option.some.inj hm
                        exact RR1 rfl rfl ⟨rfl, hL.fresh 3 rfl [] (by decide) (by decide) rfl⟩
                      · refine CW.skip ?_
                        exact ⟨(), hm, ⟨f1536, f1537, f1538, f1539, f1540, f1541, hL⟩⟩
                · intro s_j2 F1442 wd1443 hJ hm
                  unfold M.laws_FnByCurves_j2 at hm
                  obtain ⟨f1444, f1445, f1446, f1447, f1448, f1449, hL⟩ := hJ
                  exact ⟨(), hm, ⟨f1444, f1445, f1446, f1447, f1448, f1449, hL⟩⟩
              · intro s_j1 F1314 wd1315 hJ hm
                unfold M.laws_FnByCurves_j1 at hm
                obtain ⟨f1316, f1317, f1318, f1319, f1320, f1321, hL⟩ := hJ
                refine CW.regionL ?_
                refine OW.cons (OP.val (v := (.int .i64 s_l1)) rfl (x_mv f1321) ?_)
                refine OW.cons (OP.val (v := (.int .i64 (w64 (s_l1 + 1)))) rfl (x_add rfl rfl) ?_)
                refine OW.cons (OP.val (v := (.int .i64 (w64 (s_l1 + 1)))) rfl (x_assign) ?_)
                refine OW.nil ?_
                obtain rfl := Option.some.inj hm
                exact ⟨_, rfl, ⟨f1316, f1317, f1318, f1319, f1320, rfl, hL⟩⟩
            · refine CW.exit ?_
              refine XJ.hit ?_
              obtain rfl := Option.some.inj hm
              exact ⟨_, rfl, ⟨f1059, f1060, f1061, f1062, f1063, f1064, hL⟩⟩

end Go.Proofs.Ytpnehnkhhibliaa
