/- Links: each Go function returns what its model computes and leaves what was there. Printed by my generator. -/
import Derived.Test.YtkpabfpddkmlnaaMod
import Derived.Test.YtkpabfpddkmlnaaProg
import Derived.KernelRfl
namespace Go.Proofs.Ytkpabfpddkmlnaa
set_option maxRecDepth 10000
open Go Go.RowKit Go.ChangeShapes Go.WideShapes
set_option linter.unusedVariables false
set_option linter.unusedSimpArgs false

theorem Try_mixed : Try.prog.follows .mixedOrders = true := by kernel_rfl
theorem Try_T2 : TyI Try.prog 2 1 8 (.int .i64 0) := by unfold TyI; kernel_rfl
theorem Try_T3 : TyI Try.prog 3 1 8 (.int .i64 0) := by unfold TyI; kernel_rfl
theorem Try_T5 : TyI Try.prog 5 1 1 (.int .u8 0) := by unfold TyI; kernel_rfl
theorem Try_T32 : TyI Try.prog 32 1 24 (.slice none 0 0) := by unfold TyI; kernel_rfl
theorem Try_T47 : TyI Try.prog 47 3 24 (.agg #[.int .i64 0, .int .i64 0, .int .i64 0]) := by unfold TyI; kernel_rfl
theorem Try_T63 : TyI Try.prog 63 2 16 (.agg #[.int .i64 0, .int .i64 0]) := by unfold TyI; kernel_rfl
theorem Try_T65 : TyI Try.prog 65 2 16 (.agg #[.int .i64 0, .int .i64 0]) := by unfold TyI; kernel_rfl
theorem Try_T87 : TyI Try.prog 87 3 24 (.agg #[.int .i64 0, .int .i64 0, .int .i64 0]) := by unfold TyI; kernel_rfl
theorem Try_B47 : BuildI Try.prog 47 [(0, 1), (1, 1), (2, 1)] #[.int .i64 0, .int .i64 0, .int .i64 0] := by unfold BuildI; kernel_rfl
theorem Try_B63 : BuildI Try.prog 63 [(0, 1), (1, 1)] #[.int .i64 0, .int .i64 0] := by unfold BuildI; kernel_rfl
theorem Try_B90 : BuildI Try.prog 90 [(0, 1), (1, 1), (2, 1)] #[.slice none 0 0, .int .i64 0, .int .i64 0] := by unfold BuildI; kernel_rfl
theorem Try_C9 : CallOK Try.prog 9 := ⟨_, _, Try.func9, rfl, by kernel_rfl⟩
theorem Try_C10 : CallOK Try.prog 10 := ⟨_, _, Try.func10, rfl, by kernel_rfl⟩
theorem Try_C11 : CallOK Try.prog 11 := ⟨_, _, Try.func11, rfl, by kernel_rfl⟩
theorem Try_C12 : CallOK Try.prog 12 := ⟨_, _, Try.func12, rfl, by kernel_rfl⟩
theorem Try_C13 : CallOK Try.prog 13 := ⟨_, _, Try.func13, rfl, by kernel_rfl⟩
theorem Try_C14 : CallOK Try.prog 14 := ⟨_, _, Try.func14, rfl, by kernel_rfl⟩
theorem Try_C15 : CallOK Try.prog 15 := ⟨_, _, Try.func15, rfl, by kernel_rfl⟩
theorem Try_C16 : CallOK Try.prog 16 := ⟨_, _, Try.func16, rfl, by kernel_rfl⟩
theorem Try_C17 : CallOK Try.prog 17 := ⟨_, _, Try.func17, rfl, by kernel_rfl⟩
theorem Try_C18 : CallOK Try.prog 18 := ⟨_, _, Try.func18, rfl, by kernel_rfl⟩
theorem Try_C19 : CallOK Try.prog 19 := ⟨_, _, Try.func19, rfl, by kernel_rfl⟩
theorem Try_C26 : CallOK Try.prog 26 := ⟨_, _, Try.func26, rfl, by kernel_rfl⟩
theorem Try_C35 : CallOK Try.prog 35 := ⟨_, _, Try.func35, rfl, by kernel_rfl⟩
theorem Try_C36 : CallOK Try.prog 36 := ⟨_, _, Try.func36, rfl, by kernel_rfl⟩
theorem Try_C37 : CallOK Try.prog 37 := ⟨_, _, Try.func37, rfl, by kernel_rfl⟩
theorem Try_C38 : CallOK Try.prog 38 := ⟨_, _, Try.func38, rfl, by kernel_rfl⟩
theorem Try_C39 : CallOK Try.prog 39 := ⟨_, _, Try.func39, rfl, by kernel_rfl⟩
theorem Try_C40 : CallOK Try.prog 40 := ⟨_, _, Try.func40, rfl, by kernel_rfl⟩
theorem Try_C41 : CallOK Try.prog 41 := ⟨_, _, Try.func41, rfl, by kernel_rfl⟩
theorem Try_C42 : CallOK Try.prog 42 := ⟨_, _, Try.func42, rfl, by kernel_rfl⟩
theorem Try_C43 : CallOK Try.prog 43 := ⟨_, _, Try.func43, rfl, by kernel_rfl⟩
theorem Try_C44 : CallOK Try.prog 44 := ⟨_, _, Try.func44, rfl, by kernel_rfl⟩
theorem Try_C45 : CallOK Try.prog 45 := ⟨_, _, Try.func45, rfl, by kernel_rfl⟩
theorem Try_C46 : CallOK Try.prog 46 := ⟨_, _, Try.func46, rfl, by kernel_rfl⟩
theorem Try_C47 : CallOK Try.prog 47 := ⟨_, _, Try.func47, rfl, by kernel_rfl⟩
theorem Try_C48 : CallOK Try.prog 48 := ⟨_, _, Try.func48, rfl, by kernel_rfl⟩
theorem Try_C49 : CallOK Try.prog 49 := ⟨_, _, Try.func49, rfl, by kernel_rfl⟩
theorem Try_C50 : CallOK Try.prog 50 := ⟨_, _, Try.func50, rfl, by kernel_rfl⟩
theorem Try_C51 : CallOK Try.prog 51 := ⟨_, _, Try.func51, rfl, by kernel_rfl⟩
theorem Try_C52 : CallOK Try.prog 52 := ⟨_, _, Try.func52, rfl, by kernel_rfl⟩
theorem Try_C53 : CallOK Try.prog 53 := ⟨_, _, Try.func53, rfl, by kernel_rfl⟩
theorem Try_C54 : CallOK Try.prog 54 := ⟨_, _, Try.func54, rfl, by kernel_rfl⟩
theorem Try_C57 : CallOK Try.prog 57 := ⟨_, _, Try.func57, rfl, by kernel_rfl⟩
theorem Try_C59 : CallOK Try.prog 59 := ⟨_, _, Try.func59, rfl, by kernel_rfl⟩
theorem Try_C60 : CallOK Try.prog 60 := ⟨_, _, Try.func60, rfl, by kernel_rfl⟩
theorem Try_C61 : CallOK Try.prog 61 := ⟨_, _, Try.func61, rfl, by kernel_rfl⟩
theorem Try_C62 : CallOK Try.prog 62 := ⟨_, _, Try.func62, rfl, by kernel_rfl⟩
theorem Try_C65 : CallOK Try.prog 65 := ⟨_, _, Try.func65, rfl, by kernel_rfl⟩
theorem Try_C66 : CallOK Try.prog 66 := ⟨_, _, Try.func66, rfl, by kernel_rfl⟩
theorem Try_C67 : CallOK Try.prog 67 := ⟨_, _, Try.func67, rfl, by kernel_rfl⟩
theorem Try_C68 : CallOK Try.prog 68 := ⟨_, _, Try.func68, rfl, by kernel_rfl⟩
theorem Try_C69 : CallOK Try.prog 69 := ⟨_, _, Try.func69, rfl, by kernel_rfl⟩
theorem Try_C70 : CallOK Try.prog 70 := ⟨_, _, Try.func70, rfl, by kernel_rfl⟩
theorem Try_C71 : CallOK Try.prog 71 := ⟨_, _, Try.func71, rfl, by kernel_rfl⟩
theorem Try_C72 : CallOK Try.prog 72 := ⟨_, _, Try.func72, rfl, by kernel_rfl⟩
theorem Try_C75 : CallOK Try.prog 75 := ⟨_, _, Try.func75, rfl, by kernel_rfl⟩
theorem Try_C77 : CallOK Try.prog 77 := ⟨_, _, Try.func77, rfl, by kernel_rfl⟩
theorem Try_C79 : CallOK Try.prog 79 := ⟨_, _, Try.func79, rfl, by kernel_rfl⟩
theorem Try_C80 : CallOK Try.prog 80 := ⟨_, _, Try.func80, rfl, by kernel_rfl⟩
theorem Try_C81 : CallOK Try.prog 81 := ⟨_, _, Try.func81, rfl, by kernel_rfl⟩

theorem M.spec_l01In_ok (w0 : World) (a0 : Int) (a1 : Int) (a2 : Int) {r : Bool} (hm : M.spec_l01In a0 a1 a2 = some r) :
    Calls Try.prog 52 #[(.int .i64 a0), (.int .i64 a1), (.int .i64 a2)] w0 fun e w' => e = .returned (.bool r) ∧ Fresh w0 w' [] := by
  unfold M.spec_l01In at hm
  refine calls_CW (args := [(.int .i64 a0), (.int .i64 a1), (.int .i64 a2)]) Try.func52 rfl rfl rfl ?_
  have hL := Hp.start w0
  refine CW.seq ?_
  refine CW.regionL ?_
  refine OW.cons (OP.val (v := (.bool false)) rfl (x_assign) ?_)
  refine OW.nil ?_
  refine CW.seqJ (fun (s_j1 : Bool) (F : Fr) (w : World) => F 6 = (.bool s_j1) ∧ Hp w0 [Ent.snap w0 w0.heap.size] w) (fun s_j1 => M.spec_l01In_j1 s_j1 = some r) ?_ ?_
  · refine CW.regionL ?_
    refine OW.cons (OP.val (v := (.int .i64 a0)) rfl (x_move) ?_)
    refine OW.cons (OP.val (v := (.int .i64 a1)) rfl (x_move) ?_)
    refine OW.cons (OP.val (v := (.bool (decide (a1 ≤ a0)))) rfl (x_geq rfl rfl) ?_)
    refine OW.cons (OP.val (v := (.bool (decide (a1 ≤ a0)))) rfl (x_move) ?_)
    refine ifB_elim hm (fun hb5 hm => ?_) (fun hb5 hm => ?_)
    · refine OW.cons (OP.yes' rfl rfl hb5 (OP.val (v := (.int .i64 a0)) rfl (x_move) ?_))
      refine OW.cons (OP.yes' rfl rfl hb5 (OP.val (v := (.int .i64 a2)) rfl (x_move) ?_))
      refine OW.cons (OP.yes' rfl rfl hb5 (OP.val (v := (.bool (decide (a0 ≤ a2)))) rfl (x_leq rfl rfl) ?_))
      refine OW.cons (OP.val (v := (.bool (decide (a0 ≤ a2)))) rfl (x_pickT' rfl hb5 rfl) ?_)
      refine OW.cons (OP.val (v := (.bool (decide (a0 ≤ a2)))) rfl (x_assign) ?_)
      refine OW.nil ?_
      exact ⟨decide (a0 ≤ a2), hm, ⟨rfl, hL⟩⟩
    · refine OW.cons (OP.no' rfl rfl hb5 rfl ?_)
      refine OW.cons (OP.no' rfl rfl hb5 rfl ?_)
      refine OW.cons (OP.no' rfl rfl hb5 rfl ?_)
      refine OW.cons (OP.val (v := (.bool false)) rfl (x_pickF' rfl hb5 rfl) ?_)
      refine OW.cons (OP.val (v := (.bool false)) rfl (x_assign) ?_)
      refine OW.nil ?_
      exact ⟨false, hm, ⟨rfl, hL⟩⟩
  · intro s_j1 F2 wd3 hJ hm
    unfold M.spec_l01In_j1 at hm
    obtain ⟨f4, hL⟩ := hJ
    refine CW.ret ?_
    obtain rfl := Option.some.inj hm
    exact RR1 rfl f4 ⟨rfl, hL.fresh 0 rfl [] (by decide) (by decide) rfl⟩

theorem M.spec_IsCurve_ok (w0 : World) (a0 : List CurvePoint) {v1 : Value} (h2 : rdL (· < w0.heap.size) w0 v1 a0) {r : Bool} (hm : M.spec_IsCurve a0 = some r) :
    Calls Try.prog 35 #[v1] w0 fun e w' => e = .returned (.bool r) ∧ Fresh w0 w' [] := by
  unfold M.spec_IsCurve at hm
  refine calls_CW (args := [v1]) Try.func35 rfl rfl rfl ?_
  have hL := Hp.start w0
  refine CW.seq ?_
  refine CW.regionL ?_
  refine OW.cons (OP.val (v := (.bool false)) rfl (x_assign) ?_)
  refine OW.nil ?_
  refine CW.seq ?_
  refine CW.seqJ (fun (s_j1 : Bool) (F : Fr) (w : World) => F 0 = v1 ∧ F 11 = (.bool s_j1) ∧ Hp w0 [Ent.snap w0 w0.heap.size] w) (fun s_j1 => M.spec_IsCurve_j1 a0 s_j1 = some r) ?_ ?_
  · refine CW.regionL ?_
    refine OW.cons (OP.val (v := v1) rfl (x_move) ?_)
    refine OW.cons (OP.val (v := (.int .i64 (a0.length : Int))) rfl (x_lenR Try.underlying26 rfl (hL.rdS 0 rfl h2)) ?_)
    refine OW.cons (OP.val (v := (.bool (decide ((a0.length : Int) < 2)))) rfl (x_lss rfl rfl) ?_)
    refine OW.cons (OP.val (v := (.bool (decide ((a0.length : Int) < 2)))) rfl (x_move) ?_)
    refine ifB_elim hm (fun hb372 hm => ?_) (fun hb372 hm => ?_)
    · refine OW.cons (OP.no' rfl rfl hb372 rfl ?_)
      refine OW.cons (OP.no' rfl rfl hb372 rfl ?_)
      refine OW.cons (OP.no' rfl rfl hb372 rfl ?_)
      refine OW.cons (OP.val (v := (.bool true)) rfl (x_pickT' rfl hb372 rfl) ?_)
      refine OW.nil ?_
      exact ⟨true, hm, ⟨rfl, rfl, hL⟩⟩
    · refine OW.cons (OP.yes' rfl rfl hb372 (OP.val (v := v1) rfl (x_move) ?_))
      refine OW.cons (OP.yes' rfl rfl hb372 (OP.val (v := (.int .i64 (a0.length : Int))) rfl (x_lenR Try.underlying26 rfl (hL.rdS 0 rfl h2)) ?_))
      refine OW.cons (OP.yes' rfl rfl hb372 (OP.val (v := (.bool (decide (12 < (a0.length : Int))))) rfl (x_gtr rfl rfl) ?_))
      refine OW.cons (OP.val (v := (.bool (decide (12 < (a0.length : Int))))) rfl (x_pickF' rfl hb372 rfl) ?_)
      refine OW.nil ?_
      exact ⟨decide (12 < (a0.length : Int)), hm, ⟨rfl, rfl, hL⟩⟩
  · intro s_j1 F4 wd5 hJ hm
    unfold M.spec_IsCurve_j1 at hm
    obtain ⟨f6, f7, hL⟩ := hJ
    refine CW.condM (t := s_j1) f7 hm (fun hb8 hm => ?_) (fun hb8 hm => ?_)
    · refine CW.seq ?_
      refine CW.regionL ?_
      refine OW.cons (OP.val (v := (.bool false)) rfl (x_assign) ?_)
      refine OW.nil ?_
      refine CW.ret ?_
      obtain rfl := Option.some.inj hm
      exact RR1 rfl rfl ⟨rfl, hL.fresh 0 rfl [] (by decide) (by decide) rfl⟩
    · refine CW.skip ?_
      refine CW.seq ?_
      refine CW.seq ?_
      refine CW.regionL ?_
      refine OW.cons (OP.val (v := (.int .i64 0)) rfl (x_assign) ?_)
      refine OW.nil ?_
      obtain ⟨o245, ho246, hm⟩ := bndE hm
      refine CW.loopB (fun (s_l1 : Int) (F : Fr) (w : World) => F 0 = v1 ∧ F 3 = (.int .i64 s_l1) ∧ Hp w0 [Ent.snap w0 w0.heap.size] w) (fun o => outc o (fun x => some x) (fun s => M.spec_IsCurve_a1 s) = some r) ho246 hm ⟨f6, rfl, hL⟩ ?_ ?_
      · intro s_l1 F247 wd248 hJ hm
        have hm : M.spec_IsCurve_a1 s_l1 = some r := hm
        unfold M.spec_IsCurve_a1 at hm
        obtain ⟨f249, f250, hL⟩ := hJ
        refine CW.seq ?_
        refine CW.regionL ?_
        refine OW.cons (OP.val (v := (.bool true)) rfl (x_assign) ?_)
        refine OW.nil ?_
        refine CW.ret ?_
        obtain rfl := Option.some.inj hm
        exact RR1 rfl rfl ⟨rfl, hL.fresh 0 rfl [] (by decide) (by decide) rfl⟩
      · intro s_l1 F251 wd252 t243 hJ hm hr244
        unfold M.spec_IsCurve_l1 at hm
        obtain ⟨f253, f254, hL⟩ := hJ
        refine CW.seq ?_
        refine CW.seq ?_
        refine CW.regionL ?_
        refine OW.cons (OP.val (v := (.int .i64 s_l1)) rfl (x_mv f254) ?_)
        refine OW.cons (OP.val (v := v1) rfl (x_mv f253) ?_)
        refine OW.cons (OP.val (v := (.int .i64 (a0.length : Int))) rfl (x_lenR Try.underlying26 rfl (hL.rdS 0 rfl h2)) ?_)
        refine OW.cons (OP.val (v := (.bool (decide (s_l1 < (a0.length : Int))))) rfl (x_lss rfl rfl) ?_)
        refine OW.nil ?_
        refine CW.condM (t := decide (s_l1 < (a0.length : Int))) rfl hm (fun hb255 hm => ?_) (fun hb255 hm => ?_)
        · refine CW.skip ?_
          refine CW.seq ?_
          refine CW.block ?_
          refine CW.seq ?_
          refine CW.seqJ (fun (s_j2 : Bool) (F : Fr) (w : World) => F 0 = v1 ∧ F 3 = (.int .i64 s_l1) ∧ F 33 = (.bool s_j2) ∧ Hp w0 [Ent.snap w0 w0.heap.size] w) (fun s_j2 => M.spec_IsCurve_j2 a0 s_l1 s_j2 = some t243) ?_ ?_
          · refine CW.regionL ?_
            refine OW.cons (OP.val (v := v1) rfl (x_mv f253) ?_)
            refine OW.cons (OP.val (v := (.int .i64 s_l1)) rfl (x_mv f254) ?_)
            obtain ⟨x349, ha350, hm⟩ := bndE hm
            obtain ⟨hz351, ha350⟩ := idxE ha350
            obtain ⟨b352, q353, hix354⟩ := rdL_ix (hL.rdS 0 rfl h2) hz351 ha350
            refine OW.cons (OP.val (v := (.pointer (some ⟨b352, q353, none⟩))) rfl (x_ix Try.underlying26 Try_T63 rfl rfl hix354) ?_)
            refine OW.cons (OP.val (v := (.pointer (some ⟨b352, q353, none⟩))) rfl (x_fieldAddr (fsz := 1) q353 0 q353 Try.underlying63 rfl Try_T2 rfl rfl rfl) ?_)
            refine OW.cons (OP.val (v := (.int .i64 x349.Wind)) rfl (x_load1 Try.underlying2 rfl rfl (rdF_cells (hL.rdS 0 rfl h2) hix354 ha350 0 _ rfl)) ?_)
            obtain ⟨x355, hx356, hm⟩ := bndE hm
            refine OW.cons (OP.call rfl (x_call (vs := [(.int .i64 x349.Wind), (.int .i64 0), (.int .i64 1000)]) Try_C52 ⟨rfl, rfl, rfl, trivial⟩) (M.spec_l01In_ok _ x349.Wind 0 1000 hx356) ?_)
            rintro e357 wd358 ⟨rfl, hF359⟩
            refine ⟨_, rfl, ?_⟩
            have hL := hL.pushAll hF359
            simp only [List.cons_append, List.nil_append, List.set_cons_zero, List.set_cons_succ] at hL
            refine OW.cons (OP.val (v := (.bool (!x355))) rfl (x_not rfl) ?_)
            refine OW.cons (OP.val (v := (.bool (!x355))) rfl (x_move) ?_)
            refine ifB_elim hm (fun hb360 hm => ?_) (fun hb360 hm => ?_)
            · refine OW.cons (OP.no' rfl rfl hb360 rfl ?_)
              refine OW.cons (OP.no' rfl rfl hb360 rfl ?_)
              refine OW.cons (OP.no' rfl rfl hb360 rfl ?_)
              refine OW.cons (OP.no' rfl rfl hb360 rfl ?_)
              refine OW.cons (OP.no' rfl rfl hb360 rfl ?_)
              refine OW.cons (OP.no' rfl rfl hb360 rfl ?_)
              refine OW.cons (OP.no' rfl rfl hb360 rfl ?_)
              refine OW.cons (OP.val (v := (.bool true)) rfl (x_pickT' rfl hb360 rfl) ?_)
              refine OW.nil ?_
              exact ⟨true, hm, ⟨f253, f254, rfl, hL⟩⟩
            · refine OW.cons (OP.yes' rfl rfl hb360 (OP.val (v := v1) rfl (x_mv f253) ?_))
              refine OW.cons (OP.yes' rfl rfl hb360 (OP.val (v := (.int .i64 s_l1)) rfl (x_mv f254) ?_))
              obtain ⟨x361, ha362, hm⟩ := bndE hm
              obtain ⟨hz363, ha362⟩ := idxE ha362
              obtain ⟨b364, q365, hix366⟩ := rdL_ix (hL.rdS 0 rfl h2) hz363 ha362
              refine OW.cons (OP.yes' rfl rfl hb360 (OP.val (v := (.pointer (some ⟨b364, q365, none⟩))) rfl (x_ix Try.underlying26 Try_T63 rfl rfl hix366) ?_))
              refine OW.cons (OP.yes' rfl rfl hb360 (OP.val (v := (.pointer (some ⟨b364, q365 + 1, none⟩))) rfl (x_fieldAddr (fsz := 1) q365 1 (q365 + 1) Try.underlying63 rfl Try_T2 rfl rfl rfl) ?_))
              refine OW.cons (OP.yes' rfl rfl hb360 (OP.val (v := (.int .i64 x361.Pace)) rfl (x_load1 Try.underlying2 rfl rfl (rdF_cells (hL.rdS 0 rfl h2) hix366 ha362 1 _ rfl)) ?_))
              obtain ⟨x367, hx368, hm⟩ := bndE hm
              refine OW.cons (OP.yes' rfl rfl hb360 (OP.call rfl (x_call (vs := [(.int .i64 x361.Pace), (.int .i64 1), (.int .i64 1000000)]) Try_C52 ⟨rfl, rfl, rfl, trivial⟩) (M.spec_l01In_ok _ x361.Pace 1 1000000 hx368) ?_))
              rintro e369 wd370 ⟨rfl, hF371⟩
              refine ⟨_, rfl, ?_⟩
              have hL := hL.pushAll hF371
              simp only [List.cons_append, List.nil_append, List.set_cons_zero, List.set_cons_succ] at hL
              refine OW.cons (OP.yes' rfl rfl hb360 (OP.val (v := (.bool (!x367))) rfl (x_not rfl) ?_))
              refine OW.cons (OP.val (v := (.bool (!x367))) rfl (x_pickF' rfl hb360 rfl) ?_)
              refine OW.nil ?_
              exact ⟨!x367, hm, ⟨f253, f254, rfl, hL⟩⟩
          · intro s_j2 F279 wd280 hJ hm
            unfold M.spec_IsCurve_j2 at hm
            obtain ⟨f281, f282, f283, hL⟩ := hJ
            refine CW.condM (t := s_j2) f283 hm (fun hb284 hm => ?_) (fun hb284 hm => ?_)
            · refine CW.seq ?_
              refine CW.regionL ?_
              refine OW.cons (OP.val (v := (.bool false)) rfl (x_assign) ?_)
              refine OW.nil ?_
              refine CW.ret ?_
              obtain rfl := Option.some.inj hm
              have hm := hr244 _ rfl
              obtain rfl := Option.some.inj hm
              exact RR1 rfl rfl ⟨rfl, hL.fresh 0 rfl [] (by decide) (by decide) rfl⟩
            · refine CW.skip ?_
              refine CW.seqJ (fun (s_j3 : Bool) (F : Fr) (w : World) => F 0 = v1 ∧ F 3 = (.int .i64 s_l1) ∧ F 63 = (.bool s_j3) ∧ Hp w0 [Ent.snap w0 w0.heap.size] w) (fun s_j3 => M.spec_IsCurve_j3 s_l1 s_j3 = some t243) ?_ ?_
              · refine CW.draw Try_mixed ?_
                have hL := hL.call (Mod.drew _)
                refine DW.pre (fuel := 0) (fin := (((((((((((((((((((((((((((((((Array.replicate 30 false).setIfInBounds 0 true).setIfInBounds 1 true).setIfInBounds 2 true).setIfInBounds 3 true).setIfInBounds 4 true).setIfInBounds 5 true).setIfInBounds 6 true).setIfInBounds 7 true).setIfInBounds 8 true).setIfInBounds 9 true).setIfInBounds 10 true).setIfInBounds 11 true).setIfInBounds 12 true).setIfInBounds 13 true).setIfInBounds 14 true).setIfInBounds 15 true).setIfInBounds 16 true).setIfInBounds 17 true).setIfInBounds 18 true).setIfInBounds 19 true).setIfInBounds 20 true).setIfInBounds 21 true).setIfInBounds 22 true).setIfInBounds 23 true).setIfInBounds 24 true).setIfInBounds 25 true).setIfInBounds 26 true).setIfInBounds 27 true).setIfInBounds 28 true).setIfInBounds 29 true)) (C := fun w' => Mod None_ _ w') [0, 1, 2, 3, 4, 5, 6, 7, 8, 9, 10, 11, 12, 13, 14, 15, 16, 17, 18, 19, 20, 21, 22, 23, 24, 25, 26, 27, 28, 29] (Mod.refl _ _) (by kernel_rfl) (by kernel_rfl) ?_
                refine QW.cons rfl (QP.val (v := (.int .i64 s_l1)) rfl (fun w' hm' => x_mv f282) ?_)
                refine QW.cons rfl (QP.val (v := (.bool (decide (0 < s_l1)))) rfl (fun w' hm' => x_gtr rfl rfl) ?_)
                refine QW.cons rfl (QP.val (v := (.bool (decide (0 < s_l1)))) rfl (fun w' hm' => x_move) ?_)
                refine ifB_elim hm (fun hb320 hm => ?_) (fun hb320 hm => ?_)
                · refine QW.cons rfl (QP.yes' rfl rfl hb320 (QP.val (v := v1) rfl (fun w' hm' => x_mv f281) ?_))
                  refine QW.cons rfl (QP.yes' rfl rfl hb320 (QP.val (v := (.int .i64 s_l1)) rfl (fun w' hm' => x_mv f282) ?_))
                  obtain ⟨x321, ha322, hm⟩ := bndE hm
                  obtain ⟨hz323, ha322⟩ := idxE ha322
                  obtain ⟨b324, q325, hix326⟩ := rdL_ix (hL.rdS 0 rfl h2) hz323 ha322
                  refine QW.cons rfl (QP.yes' rfl rfl hb320 (QP.val (v := (.pointer (some ⟨b324, q325, none⟩))) rfl (fun w' hm' => x_ix Try.underlying26 Try_T63 rfl rfl hix326) ?_))
                  refine QW.cons rfl (QP.yes' rfl rfl hb320 (QP.val (v := (.pointer (some ⟨b324, q325, none⟩))) rfl (fun w' hm' => x_fieldAddr (fsz := 1) q325 0 q325 Try.underlying63 rfl Try_T2 rfl rfl rfl) ?_))
                  refine QW.cons rfl (QP.yes' rfl rfl hb320 (QP.val (v := (.int .i64 x321.Wind)) rfl (fun w' hm' => x_load1 Try.underlying2 rfl rfl (rdF_cells ((hL.call hm').rdS 0 rfl h2) hix326 ha322 0 _ rfl)) ?_))
                  refine QW.cons rfl (QP.yes' rfl rfl hb320 (QP.val (v := v1) rfl (fun w' hm' => x_mv f281) ?_))
                  refine QW.cons rfl (QP.yes' rfl rfl hb320 (QP.val (v := (.int .i64 s_l1)) rfl (fun w' hm' => x_mv f282) ?_))
                  refine QW.cons rfl (QP.yes' rfl rfl hb320 (QP.val (v := (.int .i64 (w64 (s_l1 - 1)))) rfl (fun w' hm' => x_sub rfl rfl) ?_))
                  obtain ⟨x327, ha328, hm⟩ := bndE hm
                  obtain ⟨hz329, ha328⟩ := idxE ha328
                  obtain ⟨b330, q331, hix332⟩ := rdL_ix (hL.rdS 0 rfl h2) hz329 ha328
                  refine QW.cons rfl (QP.yes' rfl rfl hb320 (QP.val (v := (.pointer (some ⟨b330, q331, none⟩))) rfl (fun w' hm' => x_ix Try.underlying26 Try_T63 rfl rfl hix332) ?_))
                  refine QW.cons rfl (QP.yes' rfl rfl hb320 (QP.val (v := (.pointer (some ⟨b330, q331, none⟩))) rfl (fun w' hm' => x_fieldAddr (fsz := 1) q331 0 q331 Try.underlying63 rfl Try_T2 rfl rfl rfl) ?_))
                  refine QW.cons rfl (QP.yes' rfl rfl hb320 (QP.val (v := (.int .i64 x327.Wind)) rfl (fun w' hm' => x_load1 Try.underlying2 rfl rfl (rdF_cells ((hL.call hm').rdS 0 rfl h2) hix332 ha328 0 _ rfl)) ?_))
                  refine QW.cons rfl (QP.yes' rfl rfl hb320 (QP.val (v := (.bool (decide (x321.Wind ≤ x327.Wind)))) rfl (fun w' hm' => x_leq rfl rfl) ?_))
                  refine QW.cons rfl (QP.yes' rfl rfl hb320 (QP.val (v := (.bool (decide (x321.Wind ≤ x327.Wind)))) rfl (fun w' hm' => x_move) ?_))
                  refine ifB_elim hm (fun hb333 hm => ?_) (fun hb333 hm => ?_)
                  · refine QW.cons rfl (QP.no' rfl rfl hb333 rfl ?_)
                    refine QW.cons rfl (QP.no' rfl rfl hb333 rfl ?_)
                    refine QW.cons rfl (QP.no' rfl rfl hb333 rfl ?_)
                    refine QW.cons rfl (QP.no' rfl rfl hb333 rfl ?_)
                    refine QW.cons rfl (QP.no' rfl rfl hb333 rfl ?_)
                    refine QW.cons rfl (QP.no' rfl rfl hb333 rfl ?_)
                    refine QW.cons rfl (QP.no' rfl rfl hb333 rfl ?_)
                    refine QW.cons rfl (QP.no' rfl rfl hb333 rfl ?_)
                    refine QW.cons rfl (QP.no' rfl rfl hb333 rfl ?_)
                    refine QW.cons rfl (QP.no' rfl rfl hb333 rfl ?_)
                    refine QW.cons rfl (QP.no' rfl rfl hb333 rfl ?_)
                    refine QW.cons rfl (QP.no' rfl rfl hb333 rfl ?_)
                    refine QW.cons rfl (QP.yes' rfl rfl hb320 (QP.val (v := (.bool true)) rfl (fun w' hm' => x_pickT' rfl hb333 rfl) ?_))
                    refine QW.cons rfl (QP.val (v := (.bool true)) rfl (fun w' hm' => x_pickT' rfl hb320 rfl) ?_)
                    refine QW.nil ?_
                    intro wd334 hmod
                    have hL := hL.call hmod
                    refine DW.done (by kernel_rfl) ?_
                    exact ⟨true, hm, ⟨f281, f282, rfl, hL⟩⟩
                  · refine QW.cons rfl (QP.yes' rfl rfl hb333 (QP.val (v := v1) rfl (fun w' hm' => x_mv f281) ?_))
                    refine QW.cons rfl (QP.yes' rfl rfl hb333 (QP.val (v := (.int .i64 s_l1)) rfl (fun w' hm' => x_mv f282) ?_))
                    obtain ⟨x335, ha336, hm⟩ := bndE hm
                    obtain ⟨hz337, ha336⟩ := idxE ha336
                    obtain ⟨b338, q339, hix340⟩ := rdL_ix (hL.rdS 0 rfl h2) hz337 ha336
                    refine QW.cons rfl (QP.yes' rfl rfl hb333 (QP.val (v := (.pointer (some ⟨b338, q339, none⟩))) rfl (fun w' hm' => x_ix Try.underlying26 Try_T63 rfl rfl hix340) ?_))
                    refine QW.cons rfl (QP.yes' rfl rfl hb333 (QP.val (v := (.pointer (some ⟨b338, q339 + 1, none⟩))) rfl (fun w' hm' => x_fieldAddr (fsz := 1) q339 1 (q339 + 1) Try.underlying63 rfl Try_T2 rfl rfl rfl) ?_))
                    refine QW.cons rfl (QP.yes' rfl rfl hb333 (QP.val (v := (.int .i64 x335.Pace)) rfl (fun w' hm' => x_load1 Try.underlying2 rfl rfl (rdF_cells ((hL.call hm').rdS 0 rfl h2) hix340 ha336 1 _ rfl)) ?_))
                    refine QW.cons rfl (QP.yes' rfl rfl hb333 (QP.val (v := v1) rfl (fun w' hm' => x_mv f281) ?_))
                    refine QW.cons rfl (QP.yes' rfl rfl hb333 (QP.val (v := (.int .i64 s_l1)) rfl (fun w' hm' => x_mv f282) ?_))
                    refine QW.cons rfl (QP.yes' rfl rfl hb333 (QP.val (v := (.int .i64 (w64 (s_l1 - 1)))) rfl (fun w' hm' => x_sub rfl rfl) ?_))
                    obtain ⟨x341, ha342, hm⟩ := bndE hm
                    obtain ⟨hz343, ha342⟩ := idxE ha342
                    obtain ⟨b344, q345, hix346⟩ := rdL_ix (hL.rdS 0 rfl h2) hz343 ha342
                    refine QW.cons rfl (QP.yes' rfl rfl hb333 (QP.val (v := (.pointer (some ⟨b344, q345, none⟩))) rfl (fun w' hm' => x_ix Try.underlying26 Try_T63 rfl rfl hix346) ?_))
                    refine QW.cons rfl (QP.yes' rfl rfl hb333 (QP.val (v := (.pointer (some ⟨b344, q345 + 1, none⟩))) rfl (fun w' hm' => x_fieldAddr (fsz := 1) q345 1 (q345 + 1) Try.underlying63 rfl Try_T2 rfl rfl rfl) ?_))
                    refine QW.cons rfl (QP.yes' rfl rfl hb333 (QP.val (v := (.int .i64 x341.Pace)) rfl (fun w' hm' => x_load1 Try.underlying2 rfl rfl (rdF_cells ((hL.call hm').rdS 0 rfl h2) hix346 ha342 1 _ rfl)) ?_))
                    refine QW.cons rfl (QP.yes' rfl rfl hb333 (QP.val (v := (.bool (decide (x341.Pace ≤ x335.Pace)))) rfl (fun w' hm' => x_geq rfl rfl) ?_))
                    refine QW.cons rfl (QP.yes' rfl rfl hb320 (QP.val (v := (.bool (decide (x341.Pace ≤ x335.Pace)))) rfl (fun w' hm' => x_pickF' rfl hb333 rfl) ?_))
                    refine QW.cons rfl (QP.val (v := (.bool (decide (x341.Pace ≤ x335.Pace)))) rfl (fun w' hm' => x_pickT' rfl hb320 rfl) ?_)
                    refine QW.nil ?_
                    intro wd347 hmod
                    have hL := hL.call hmod
                    refine DW.done (by kernel_rfl) ?_
                    exact ⟨decide (x341.Pace ≤ x335.Pace), hm, ⟨f281, f282, rfl, hL⟩⟩
                · refine QW.cons rfl (QP.no' rfl rfl hb320 rfl ?_)
                  refine QW.cons rfl (QP.no' rfl rfl hb320 rfl ?_)
                  refine QW.cons rfl (QP.no' rfl rfl hb320 rfl ?_)
                  refine QW.cons rfl (QP.no' rfl rfl hb320 rfl ?_)
                  refine QW.cons rfl (QP.no' rfl rfl hb320 rfl ?_)
                  refine QW.cons rfl (QP.no' rfl rfl hb320 rfl ?_)
                  refine QW.cons rfl (QP.no' rfl rfl hb320 rfl ?_)
                  refine QW.cons rfl (QP.no' rfl rfl hb320 rfl ?_)
                  refine QW.cons rfl (QP.no' rfl rfl hb320 rfl ?_)
                  refine QW.cons rfl (QP.no' rfl rfl hb320 rfl ?_)
                  refine QW.cons rfl (QP.no' rfl rfl hb320 rfl ?_)
                  refine QW.cons rfl (QP.no' rfl rfl hb320 rfl ?_)
                  refine QW.cons rfl (QP.no' rfl rfl hb320 rfl ?_)
                  refine QW.cons rfl (QP.noU rfl rfl rfl ?_)
                  refine QW.cons rfl (QP.noU rfl rfl rfl ?_)
                  refine QW.cons rfl (QP.noU rfl rfl rfl ?_)
                  refine QW.cons rfl (QP.noU rfl rfl rfl ?_)
                  refine QW.cons rfl (QP.noU rfl rfl rfl ?_)
                  refine QW.cons rfl (QP.noU rfl rfl rfl ?_)
                  refine QW.cons rfl (QP.noU rfl rfl rfl ?_)
                  refine QW.cons rfl (QP.noU rfl rfl rfl ?_)
                  refine QW.cons rfl (QP.noU rfl rfl rfl ?_)
                  refine QW.cons rfl (QP.noU rfl rfl rfl ?_)
                  refine QW.cons rfl (QP.noU rfl rfl rfl ?_)
                  refine QW.cons rfl (QP.noU rfl rfl rfl ?_)
                  refine QW.cons rfl (QP.no' rfl rfl hb320 rfl ?_)
                  refine QW.cons rfl (QP.val (v := (.bool false)) rfl (fun w' hm' => x_pickF' rfl hb320 rfl) ?_)
                  refine QW.nil ?_
                  intro wd348 hmod
                  have hL := hL.call hmod
                  refine DW.done (by kernel_rfl) ?_
                  exact ⟨false, hm, ⟨f281, f282, rfl, hL⟩⟩
              · intro s_j3 F314 wd315 hJ hm
                unfold M.spec_IsCurve_j3 at hm
                obtain ⟨f316, f317, f318, hL⟩ := hJ
                refine CW.condM (t := s_j3) f318 hm (fun hb319 hm => ?_) (fun hb319 hm => ?_)
                · refine CW.seq ?_
                  refine CW.regionL ?_
                  refine OW.cons (OP.val (v := (.bool false)) rfl (x_assign) ?_)
                  refine OW.nil ?_
                  refine CW.ret ?_
                  obtain rfl := Option.some.inj hm
                  have hm := hr244 _ rfl
                  obtain rfl := Option.some.inj hm
                  exact RR1 rfl rfl ⟨rfl, hL.fresh 0 rfl [] (by decide) (by decide) rfl⟩
                · refine CW.skip ?_
                  refine CW.regionL ?_
                  refine OW.cons (OP.val (v := (.int .i64 s_l1)) rfl (x_mv f317) ?_)
                  refine OW.cons (OP.val (v := (.int .i64 (w64 (s_l1 + 1)))) rfl (x_add rfl rfl) ?_)
                  refine OW.cons (OP.val (v := (.int .i64 (w64 (s_l1 + 1)))) rfl (x_assign) ?_)
                  refine OW.nil ?_
                  obtain rfl := Option.some.inj hm
                  exact ⟨_, rfl, ⟨f316, rfl, hL⟩⟩
        · refine CW.exit ?_
          refine XJ.hit ?_
          obtain rfl := Option.some.inj hm
          exact ⟨_, rfl, ⟨f253, f254, hL⟩⟩

theorem M.spec_l22Time_ok (w0 : World) (a0 : Int) {r : Bool} (hm : M.spec_l22Time a0 = some r) :
    Calls Try.prog 36 #[(.int .i64 a0)] w0 fun e w' => e = .returned (.bool r) ∧ Fresh w0 w' [] := by
  unfold M.spec_l22Time at hm
  refine calls_CW (args := [(.int .i64 a0)]) Try.func36 rfl rfl rfl ?_
  have hL := Hp.start w0
  refine CW.seq ?_
  refine CW.regionL ?_
  refine OW.cons (OP.val (v := (.bool false)) rfl (x_assign) ?_)
  refine OW.nil ?_
  refine CW.seq ?_
  refine CW.regionL ?_
  refine OW.cons (OP.val (v := (.int .i64 a0)) rfl (x_move) ?_)
  obtain ⟨x1, hx2, hm⟩ := bndE hm
  refine OW.cons (OP.call rfl (x_call (vs := [(.int .i64 a0), (.int .i64 1), (.int .i64 1000000000)]) Try_C52 ⟨rfl, rfl, rfl, trivial⟩) (M.spec_l01In_ok _ a0 1 1000000000 hx2) ?_)
  rintro e3 wd4 ⟨rfl, hF5⟩
  refine ⟨_, rfl, ?_⟩
  have hL := hL.pushAll hF5
  simp only [List.cons_append, List.nil_append, List.set_cons_zero, List.set_cons_succ] at hL
  refine OW.cons (OP.val (v := (.bool x1)) rfl (x_assign) ?_)
  refine OW.nil ?_
  refine CW.ret ?_
  obtain rfl := Option.some.inj hm
  exact RR1 rfl rfl ⟨rfl, hL.fresh 0 rfl [] (by decide) (by decide) rfl⟩

theorem M.spec_l23Distance_ok (w0 : World) (a0 : Int) {r : Bool} (hm : M.spec_l23Distance a0 = some r) :
    Calls Try.prog 37 #[(.int .i64 a0)] w0 fun e w' => e = .returned (.bool r) ∧ Fresh w0 w' [] := by
  unfold M.spec_l23Distance at hm
  refine calls_CW (args := [(.int .i64 a0)]) Try.func37 rfl rfl rfl ?_
  have hL := Hp.start w0
  refine CW.seq ?_
  refine CW.regionL ?_
  refine OW.cons (OP.val (v := (.bool false)) rfl (x_assign) ?_)
  refine OW.nil ?_
  refine CW.seq ?_
  refine CW.regionL ?_
  refine OW.cons (OP.val (v := (.int .i64 a0)) rfl (x_move) ?_)
  obtain ⟨x1, hx2, hm⟩ := bndE hm
  refine OW.cons (OP.call rfl (x_call (vs := [(.int .i64 a0), (.int .i64 1), (.int .i64 10000000)]) Try_C52 ⟨rfl, rfl, rfl, trivial⟩) (M.spec_l01In_ok _ a0 1 10000000 hx2) ?_)
  rintro e3 wd4 ⟨rfl, hF5⟩
  refine ⟨_, rfl, ?_⟩
  have hL := hL.pushAll hF5
  simp only [List.cons_append, List.nil_append, List.set_cons_zero, List.set_cons_succ] at hL
  refine OW.cons (OP.val (v := (.bool x1)) rfl (x_assign) ?_)
  refine OW.nil ?_
  refine CW.ret ?_
  obtain rfl := Option.some.inj hm
  exact RR1 rfl rfl ⟨rfl, hL.fresh 0 rfl [] (by decide) (by decide) rfl⟩

theorem M.spec_l01Floor_ok (w0 : World) (a0 : Int) (a1 : Int) {r : Int} (hm : M.spec_l01Floor a0 a1 = some r) :
    Calls Try.prog 80 #[(.int .i64 a0), (.int .i64 a1)] w0 fun e w' => e = .returned (.int .i64 r) ∧ Fresh w0 w' [] := by
  unfold M.spec_l01Floor at hm
  refine calls_CW (args := [(.int .i64 a0), (.int .i64 a1)]) Try.func80 rfl rfl rfl ?_
  have hL := Hp.start w0
  refine CW.seq ?_
  refine CW.regionL ?_
  refine OW.cons (OP.val (v := (.int .i64 0)) rfl (x_assign) ?_)
  refine OW.nil ?_
  refine CW.seq ?_
  refine CW.regionL ?_
  refine OW.cons (OP.val (v := (.int .i64 a0)) rfl (x_move) ?_)
  refine OW.cons (OP.val (v := (.int .i64 a1)) rfl (x_move) ?_)
  obtain ⟨hc1, hm⟩ := chkE hm
  refine OW.cons (OP.val (v := (.int .i64 (w64 (a0.tdiv a1)))) rfl (x_quo rfl rfl hc1) ?_)
  refine OW.cons (OP.val (v := (.int .i64 (w64 (a0.tdiv a1)))) rfl (x_assign) ?_)
  refine OW.nil ?_
  refine CW.seqJ (fun (s_j1 : Int) (F : Fr) (w : World) => F 5 = (.int .i64 s_j1) ∧ Hp w0 [Ent.snap w0 w0.heap.size] w) (fun s_j1 => M.spec_l01Floor_j1 s_j1 = some r) ?_ ?_
  · refine CW.seq ?_
    refine CW.regionL ?_
    refine OW.cons (OP.val (v := (.int .i64 a0)) rfl (x_move) ?_)
    refine OW.cons (OP.val (v := (.int .i64 a1)) rfl (x_move) ?_)
    obtain ⟨hc7, hm⟩ := chkE hm
    refine OW.cons (OP.val (v := (.int .i64 (a0.tmod a1))) rfl (x_rem rfl rfl hc7) ?_)
    refine OW.cons (OP.val (v := (.bool (decide ((a0.tmod a1) < 0)))) rfl (x_lss rfl rfl) ?_)
    refine OW.nil ?_
    refine CW.condM (t := decide ((a0.tmod a1) < 0)) rfl hm (fun hb8 hm => ?_) (fun hb8 hm => ?_)
    · refine CW.regionL ?_
      refine OW.cons (OP.val (v := (.int .i64 (w64 (a0.tdiv a1)))) rfl (x_move) ?_)
      refine OW.cons (OP.val (v := (.int .i64 (w64 ((w64 (a0.tdiv a1)) - 1)))) rfl (x_sub rfl rfl) ?_)
      refine OW.cons (OP.val (v := (.int .i64 (w64 ((w64 (a0.tdiv a1)) - 1)))) rfl (x_assign) ?_)
      refine OW.nil ?_
      exact ⟨w64 ((w64 (a0.tdiv a1)) - 1), hm, ⟨rfl, hL⟩⟩
    · refine CW.skip ?_
      exact ⟨w64 (a0.tdiv a1), hm, ⟨rfl, hL⟩⟩
  · intro s_j1 F4 wd5 hJ hm
    unfold M.spec_l01Floor_j1 at hm
    obtain ⟨f6, hL⟩ := hJ
    refine CW.seq ?_
    refine CW.regionL ?_
    refine OW.cons (OP.val (v := (.int .i64 s_j1)) rfl (x_mv f6) ?_)
    refine OW.cons (OP.val (v := (.int .i64 s_j1)) rfl (x_assign) ?_)
    refine OW.nil ?_
    refine CW.ret ?_
    obtain rfl := Option.some.inj hm
    exact RR1 rfl rfl ⟨rfl, hL.fresh 0 rfl [] (by decide) (by decide) rfl⟩

theorem M.spec_l24Pace_ok (w0 : World) (a0 : List CurvePoint) {v1 : Value} (h2 : rdL (· < w0.heap.size) w0 v1 a0) (a1 : Int) {r : Int} (hm : M.spec_l24Pace a0 a1 = some r) :
    Calls Try.prog 72 #[v1, (.int .i64 a1)] w0 fun e w' => e = .returned (.int .i64 r) ∧ Fresh w0 w' [] := by
  unfold M.spec_l24Pace at hm
  refine calls_CW (args := [v1, (.int .i64 a1)]) Try.func72 rfl rfl rfl ?_
  have hL := Hp.start w0
  refine CW.seq ?_
  refine CW.regionL ?_
  refine OW.cons (OP.val (v := (.int .i64 0)) rfl (x_assign) ?_)
  refine OW.nil ?_
  refine CW.seq ?_
  refine CW.seq ?_
  refine CW.regionL ?_
  refine OW.cons (OP.val (v := (.int .i64 a1)) rfl (x_move) ?_)
  refine OW.cons (OP.val (v := v1) rfl (x_move) ?_)
  obtain ⟨x3, ha4, hm⟩ := bndE hm
  obtain ⟨hz5, ha4⟩ := idxE ha4
  obtain ⟨b6, q7, hix8⟩ := rdL_ix (hL.rdS 0 rfl h2) hz5 ha4
  refine OW.cons (OP.val (v := (.pointer (some ⟨b6, q7, none⟩))) rfl (x_ix Try.underlying26 Try_T63 rfl rfl hix8) ?_)
  refine OW.cons (OP.val (v := (.pointer (some ⟨b6, q7, none⟩))) rfl (x_fieldAddr (fsz := 1) q7 0 q7 Try.underlying63 rfl Try_T2 rfl rfl rfl) ?_)
  refine OW.cons (OP.val (v := (.int .i64 x3.Wind)) rfl (x_load1 Try.underlying2 rfl rfl (rdF_cells (hL.rdS 0 rfl h2) hix8 ha4 0 _ rfl)) ?_)
  refine OW.cons (OP.val (v := (.bool (decide (a1 ≤ x3.Wind)))) rfl (x_leq rfl rfl) ?_)
  refine OW.nil ?_
  refine CW.condM (t := decide (a1 ≤ x3.Wind)) rfl hm (fun hb9 hm => ?_) (fun hb9 hm => ?_)
  · refine CW.seq ?_
    refine CW.regionL ?_
    refine OW.cons (OP.val (v := v1) rfl (x_move) ?_)
    obtain ⟨x10, ha11, hm⟩ := bndE hm
    obtain ⟨hz12, ha11⟩ := idxE ha11
    obtain ⟨b13, q14, hix15⟩ := rdL_ix (hL.rdS 0 rfl h2) hz12 ha11
    refine OW.cons (OP.val (v := (.pointer (some ⟨b13, q14, none⟩))) rfl (x_ix Try.underlying26 Try_T63 rfl rfl hix15) ?_)
    refine OW.cons (OP.val (v := (.pointer (some ⟨b13, q14 + 1, none⟩))) rfl (x_fieldAddr (fsz := 1) q14 1 (q14 + 1) Try.underlying63 rfl Try_T2 rfl rfl rfl) ?_)
    refine OW.cons (OP.val (v := (.int .i64 x10.Pace)) rfl (x_load1 Try.underlying2 rfl rfl (rdF_cells (hL.rdS 0 rfl h2) hix15 ha11 1 _ rfl)) ?_)
    refine OW.cons (OP.val (v := (.int .i64 x10.Pace)) rfl (x_assign) ?_)
    refine OW.nil ?_
    refine CW.ret ?_
    obtain rfl := Option.some.inj hm
    exact RR1 rfl rfl ⟨rfl, hL.fresh 0 rfl [] (by decide) (by decide) rfl⟩
  · refine CW.skip ?_
    refine CW.seq ?_
    refine CW.seq ?_
    refine CW.regionL ?_
    refine OW.cons (OP.val (v := (.int .i64 1)) rfl (x_assign) ?_)
    refine OW.nil ?_
    obtain ⟨o124, ho125, hm⟩ := bndE hm
    refine CW.loopB (fun (s_l1 : Int) (F : Fr) (w : World) => F 0 = v1 ∧ F 1 = (.int .i64 a1) ∧ F 5 = (.int .i64 s_l1) ∧ Hp w0 [Ent.snap w0 w0.heap.size] w) (fun o => outc o (fun x => some x) (fun s => M.spec_l24Pace_a1 a0 s) = some r) ho125 hm ⟨rfl, rfl, rfl, hL⟩ ?_ ?_
    · intro s_l1 F126 wd127 hJ hm
      have hm : M.spec_l24Pace_a1 a0 s_l1 = some r := hm
      unfold M.spec_l24Pace_a1 at hm
      obtain ⟨f128, f129, f130, hL⟩ := hJ
      refine CW.seq ?_
      refine CW.regionL ?_
      refine OW.cons (OP.val (v := v1) rfl (x_mv f128) ?_)
      refine OW.cons (OP.val (v := v1) rfl (x_mv f128) ?_)
      refine OW.cons (OP.val (v := (.int .i64 (a0.length : Int))) rfl (x_lenR Try.underlying26 rfl (hL.rdS 0 rfl h2)) ?_)
      refine OW.cons (OP.val (v := (.int .i64 (w64 ((a0.length : Int) - 1)))) rfl (x_sub rfl rfl) ?_)
      obtain ⟨x131, ha132, hm⟩ := bndE hm
      obtain ⟨hz133, ha132⟩ := idxE ha132
      obtain ⟨b134, q135, hix136⟩ := rdL_ix (hL.rdS 0 rfl h2) hz133 ha132
      refine OW.cons (OP.val (v := (.pointer (some ⟨b134, q135, none⟩))) rfl (x_ix Try.underlying26 Try_T63 rfl rfl hix136) ?_)
      refine OW.cons (OP.val (v := (.pointer (some ⟨b134, q135 + 1, none⟩))) rfl (x_fieldAddr (fsz := 1) q135 1 (q135 + 1) Try.underlying63 rfl Try_T2 rfl rfl rfl) ?_)
      refine OW.cons (OP.val (v := (.int .i64 x131.Pace)) rfl (x_load1 Try.underlying2 rfl rfl (rdF_cells (hL.rdS 0 rfl h2) hix136 ha132 1 _ rfl)) ?_)
      refine OW.cons (OP.val (v := (.int .i64 x131.Pace)) rfl (x_assign) ?_)
      refine OW.nil ?_
      refine CW.ret ?_
      obtain rfl := Option.some.inj hm
      exact RR1 rfl rfl ⟨rfl, hL.fresh 0 rfl [] (by decide) (by decide) rfl⟩
    · intro s_l1 F137 wd138 t122 hJ hm hr123
      unfold M.spec_l24Pace_l1 at hm
      obtain ⟨f139, f140, f141, hL⟩ := hJ
      refine CW.seq ?_
      refine CW.seq ?_
      refine CW.regionL ?_
      refine OW.cons (OP.val (v := (.int .i64 s_l1)) rfl (x_mv f141) ?_)
      refine OW.cons (OP.val (v := v1) rfl (x_mv f139) ?_)
      refine OW.cons (OP.val (v := (.int .i64 (a0.length : Int))) rfl (x_lenR Try.underlying26 rfl (hL.rdS 0 rfl h2)) ?_)
      refine OW.cons (OP.val (v := (.bool (decide (s_l1 < (a0.length : Int))))) rfl (x_lss rfl rfl) ?_)
      refine OW.nil ?_
      refine CW.condM (t := decide (s_l1 < (a0.length : Int))) rfl hm (fun hb142 hm => ?_) (fun hb142 hm => ?_)
      · refine CW.skip ?_
        refine CW.seq ?_
        refine CW.block ?_
        refine CW.seq ?_
        refine CW.drawH (fun w' => Hp w0 [Ent.snap w0 w0.heap.size] w') Try_mixed ?_
        have hL := hL.call (Mod.drew _)
        have hS := (hL.sel [0] (by decide) rfl)
        refine DH.take 0 rfl (by kernel_rfl) (by kernel_rfl) (by kernel_rfl) rfl rfl hS (YH.val (v := v1) (fun w' hS' => x_mv f139)) ?_
        have hS := (hL.sel [0] (by decide) rfl)
        refine DH.take 1 rfl (by kernel_rfl) (by kernel_rfl) (by kernel_rfl) rfl rfl hS (YH.val (v := (.int .i64 s_l1)) (fun w' hS' => x_mv f141)) ?_
        have hS := (hL.sel [0] (by decide) rfl)
        refine DH.take 2 rfl (by kernel_rfl) (by kernel_rfl) (by kernel_rfl) rfl rfl hS (YH.val (v := (.int .i64 (w64 (s_l1 - 1)))) (fun w' hS' => x_sub rfl rfl)) ?_
        have hS := (hL.sel [0] (by decide) rfl)
        obtain ⟨x161, ha162, hm⟩ := bndE hm
        obtain ⟨hz163, ha162⟩ := idxE ha162
        obtain ⟨b164, q165, hix166⟩ := rdL_ix (hL.rdS 0 rfl h2) hz163 ha162
        refine DH.take 3 rfl (by kernel_rfl) (by kernel_rfl) (by kernel_rfl) rfl rfl hS (YH.val (v := (.pointer (some ⟨b164, q165, none⟩))) (fun w' hS' => x_ix Try.underlying26 Try_T63 rfl rfl hix166)) ?_
        have hS := (hL.sel [0] (by decide) rfl)
        refine DH.take 4 rfl (by kernel_rfl) (by kernel_rfl) (by kernel_rfl) rfl rfl hS (YH.val (v := (.agg #[(.int .i64 x161.Wind), (.int .i64 x161.Pace)])) (fun w' hS' => x_loadN (cs := [(.int .i64 x161.Wind), (.int .i64 x161.Pace)]) Try.underlying63 Try_T63 rfl rfl (rdF_cells (hS'.rdS 0 rfl h2) hix166 ha162))) ?_
        have hS := (hL.sel [0] (by decide) rfl)
        refine DH.take 5 rfl (by kernel_rfl) (by kernel_rfl) (by kernel_rfl) rfl rfl hS (YH.val (v := v1) (fun w' hS' => x_mv f139)) ?_
        have hS := (hL.sel [0] (by decide) rfl)
        refine DH.take 6 rfl (by kernel_rfl) (by kernel_rfl) (by kernel_rfl) rfl rfl hS (YH.val (v := (.int .i64 s_l1)) (fun w' hS' => x_mv f141)) ?_
        have hS := (hL.sel [0] (by decide) rfl)
        obtain ⟨x167, ha168, hm⟩ := bndE hm
        obtain ⟨hz169, ha168⟩ := idxE ha168
        obtain ⟨b170, q171, hix172⟩ := rdL_ix (hL.rdS 0 rfl h2) hz169 ha168
        refine DH.take 7 rfl (by kernel_rfl) (by kernel_rfl) (by kernel_rfl) rfl rfl hS (YH.val (v := (.pointer (some ⟨b170, q171, none⟩))) (fun w' hS' => x_ix Try.underlying26 Try_T63 rfl rfl hix172)) ?_
        have hS := (hL.sel [0] (by decide) rfl)
        refine DH.take 8 rfl (by kernel_rfl) (by kernel_rfl) (by kernel_rfl) rfl rfl hS (YH.val (v := (.agg #[(.int .i64 x167.Wind), (.int .i64 x167.Pace)])) (fun w' hS' => x_loadN (cs := [(.int .i64 x167.Wind), (.int .i64 x167.Pace)]) Try.underlying63 Try_T63 rfl rfl (rdF_cells (hS'.rdS 0 rfl h2) hix172 ha168))) ?_
        refine DH.all (rs := [9, 10]) (by kernel_rfl) (by simp) ?_
        intro i173 hi174
        simp only [List.mem_cons, List.not_mem_nil, or_false] at hi174
        rcases hi174 with rfl | rfl
        · refine ⟨_, rfl, ?_⟩
          refine S_alloc (cs := #[(.int .i64 0), (.int .i64 0)]) hL Try_T63 rfl rfl ?_
          intro wd175 b176 hL
          refine ⟨(hL.sel [1] (by decide) rfl), ?_⟩
          refine DH.only 10 rfl (by kernel_rfl) (S_alloc (cs := #[(.int .i64 0), (.int .i64 0)]) hL Try_T63 rfl rfl ?_)
          intro wd177 b178 hL
          refine ⟨(hL.sel [2] (by decide) rfl), ?_⟩
          refine DH.only 11 rfl (by kernel_rfl) (S_storeN (l := [(.int .i64 x161.Wind), (.int .i64 x161.Pace)]) (cs' := #[(.int .i64 x161.Wind), (.int .i64 x161.Pace)]) hL 1 rfl Try_T63 rfl rfl (by simp [Value.oneCell']) rfl (by decide) rfl ?_)
          intro wd179 hL
          refine ⟨(hL.sel [2] (by decide) rfl), ?_⟩
          refine DH.only 12 rfl (by kernel_rfl) (S_storeN (l := [(.int .i64 x167.Wind), (.int .i64 x167.Pace)]) (cs' := #[(.int .i64 x167.Wind), (.int .i64 x167.Pace)]) hL 0 rfl Try_T63 rfl rfl (by simp [Value.oneCell']) rfl (by decide) rfl ?_)
          intro wd180 hL
          refine ⟨(hL.sel [2] (by decide) rfl), ?_⟩
          refine DH.done (by kernel_rfl) ?_
          refine CW.seq ?_
          refine CW.regionL ?_
          refine OW.cons (OP.val (v := (.int .i64 a1)) rfl (x_mv f140) ?_)
          refine OW.cons (OP.val (v := (.pointer (some ⟨b178, 0, none⟩))) rfl (x_fieldAddr (fsz := 1) 0 0 0 Try.underlying63 rfl Try_T2 rfl rfl rfl) ?_)
          refine OW.cons (OP.val (v := (.int .i64 x167.Wind)) rfl (x_load1 Try.underlying2 rfl rfl (hL.cellB 0 rfl rfl)) ?_)
          refine OW.cons (OP.val (v := (.bool (decide (a1 ≤ x167.Wind)))) rfl (x_leq rfl rfl) ?_)
          refine OW.nil ?_
          refine CW.condM (t := decide (a1 ≤ x167.Wind)) rfl hm (fun hb181 hm => ?_) (fun hb181 hm => ?_)
          · refine CW.seq ?_
            refine CW.draw Try_mixed ?_
            have hL := hL.call (Mod.drew _)
            refine DW.pre (fuel := 0) (fin := (((((((((((((((((((((Array.replicate 20 false).setIfInBounds 0 true).setIfInBounds 1 true).setIfInBounds 2 true).setIfInBounds 3 true).setIfInBounds 4 true).setIfInBounds 5 true).setIfInBounds 6 true).setIfInBounds 7 true).setIfInBounds 8 true).setIfInBounds 9 true).setIfInBounds 10 true).setIfInBounds 11 true).setIfInBounds 12 true).setIfInBounds 13 true).setIfInBounds 14 true).setIfInBounds 15 true).setIfInBounds 16 true).setIfInBounds 17 true).setIfInBounds 18 true).setIfInBounds 19 true)) (C := fun w' => Mod None_ _ w') [0, 1, 2, 3, 4, 5, 6, 7, 8, 9, 10, 11, 12, 13, 14, 15, 16, 17, 18, 19] (Mod.refl _ _) (by kernel_rfl) (by kernel_rfl) ?_
            refine QW.cons rfl (QP.val (v := (.pointer (some ⟨b176, 1, none⟩))) rfl (fun w' hm' => x_fieldAddr (fsz := 1) 0 1 1 Try.underlying63 rfl Try_T2 rfl rfl rfl) ?_)
            refine QW.cons rfl (QP.val (v := (.int .i64 x161.Pace)) rfl (fun w' hm' => x_load1 Try.underlying2 rfl rfl ((hL.call hm').cellB 1 rfl rfl)) ?_)
            refine QW.cons rfl (QP.val (v := (.pointer (some ⟨b178, 1, none⟩))) rfl (fun w' hm' => x_fieldAddr (fsz := 1) 0 1 1 Try.underlying63 rfl Try_T2 rfl rfl rfl) ?_)
            refine QW.cons rfl (QP.val (v := (.int .i64 x167.Pace)) rfl (fun w' hm' => x_load1 Try.underlying2 rfl rfl ((hL.call hm').cellB 0 rfl rfl)) ?_)
            refine QW.cons rfl (QP.val (v := (.pointer (some ⟨b176, 1, none⟩))) rfl (fun w' hm' => x_fieldAddr (fsz := 1) 0 1 1 Try.underlying63 rfl Try_T2 rfl rfl rfl) ?_)
            refine QW.cons rfl (QP.val (v := (.int .i64 x161.Pace)) rfl (fun w' hm' => x_load1 Try.underlying2 rfl rfl ((hL.call hm').cellB 1 rfl rfl)) ?_)
            refine QW.cons rfl (QP.val (v := (.int .i64 (w64 (x167.Pace - x161.Pace)))) rfl (fun w' hm' => x_sub rfl rfl) ?_)
            refine QW.cons rfl (QP.val (v := (.int .i64 a1)) rfl (fun w' hm' => x_mv f140) ?_)
            refine QW.cons rfl (QP.val (v := (.pointer (some ⟨b176, 0, none⟩))) rfl (fun w' hm' => x_fieldAddr (fsz := 1) 0 0 0 Try.underlying63 rfl Try_T2 rfl rfl rfl) ?_)
            refine QW.cons rfl (QP.val (v := (.int .i64 x161.Wind)) rfl (fun w' hm' => x_load1 Try.underlying2 rfl rfl ((hL.call hm').cellB 1 rfl rfl)) ?_)
            refine QW.cons rfl (QP.val (v := (.int .i64 (w64 (a1 - x161.Wind)))) rfl (fun w' hm' => x_sub rfl rfl) ?_)
            refine QW.cons rfl (QP.val (v := (.int .i64 (w64 ((w64 (x167.Pace - x161.Pace)) * (w64 (a1 - x161.Wind)))))) rfl (fun w' hm' => x_mul rfl rfl) ?_)
            refine QW.cons rfl (QP.val (v := (.pointer (some ⟨b178, 0, none⟩))) rfl (fun w' hm' => x_fieldAddr (fsz := 1) 0 0 0 Try.underlying63 rfl Try_T2 rfl rfl rfl) ?_)
            refine QW.cons rfl (QP.val (v := (.int .i64 x167.Wind)) rfl (fun w' hm' => x_load1 Try.underlying2 rfl rfl ((hL.call hm').cellB 0 rfl rfl)) ?_)
            refine QW.cons rfl (QP.val (v := (.pointer (some ⟨b176, 0, none⟩))) rfl (fun w' hm' => x_fieldAddr (fsz := 1) 0 0 0 Try.underlying63 rfl Try_T2 rfl rfl rfl) ?_)
            refine QW.cons rfl (QP.val (v := (.int .i64 x161.Wind)) rfl (fun w' hm' => x_load1 Try.underlying2 rfl rfl ((hL.call hm').cellB 1 rfl rfl)) ?_)
            refine QW.cons rfl (QP.val (v := (.int .i64 (w64 (x167.Wind - x161.Wind)))) rfl (fun w' hm' => x_sub rfl rfl) ?_)
            obtain ⟨x182, hx183, hm⟩ := bndE hm
            refine QW.cons rfl (QP.call (v := (.int .i64 x182)) rfl (fun w' hm' => x_call (vs := [(.int .i64 (w64 ((w64 (x167.Pace - x161.Pace)) * (w64 (a1 - x161.Wind))))), (.int .i64 (w64 (x167.Wind - x161.Wind)))]) Try_C80 ⟨rfl, rfl, trivial⟩) (fun w' hm' => (M.spec_l01Floor_ok w' (w64 ((w64 (x167.Pace - x161.Pace)) * (w64 (a1 - x161.Wind)))) (w64 (x167.Wind - x161.Wind)) hx183).mono (fun e w'' h => ⟨h.1, hm'.trans h.2.mod⟩)) ?_)
            refine QW.cons rfl (QP.val (v := (.int .i64 (w64 (x161.Pace + x182)))) rfl (fun w' hm' => x_add rfl rfl) ?_)
            refine QW.cons rfl (QP.val (v := (.int .i64 (w64 (x161.Pace + x182)))) rfl (fun w' hm' => x_assign) ?_)
            refine QW.nil ?_
            intro wd184 hmod
            have hL := hL.call hmod
            refine DW.done (by kernel_rfl) ?_
            refine CW.ret ?_
            obtain rfl := Option.some.inj hm
            have hm := hr123 _ rfl
            obtain rfl := Option.some.inj hm
            exact RR1 rfl rfl ⟨rfl, hL.fresh 2 rfl [] (by decide) (by decide) rfl⟩
          · refine CW.skip ?_
            refine CW.regionL ?_
            refine OW.cons (OP.val (v := (.int .i64 s_l1)) rfl (x_mv f141) ?_)
            refine OW.cons (OP.val (v := (.int .i64 (w64 (s_l1 + 1)))) rfl (x_add rfl rfl) ?_)
            refine OW.cons (OP.val (v := (.int .i64 (w64 (s_l1 + 1)))) rfl (x_assign) ?_)
            refine OW.nil ?_
            have hL := hL.sel [2] (by decide) rfl
            obtain rfl := Option.some.inj hm
            exact ⟨_, rfl, ⟨f139, f140, rfl, hL⟩⟩
        · refine ⟨_, rfl, ?_⟩
          refine S_alloc (cs := #[(.int .i64 0), (.int .i64 0)]) hL Try_T63 rfl rfl ?_
          intro wd185 b186 hL
          refine ⟨(hL.sel [1] (by decide) rfl), ?_⟩
          refine DH.only 9 rfl (by kernel_rfl) (S_alloc (cs := #[(.int .i64 0), (.int .i64 0)]) hL Try_T63 rfl rfl ?_)
          intro wd187 b188 hL
          refine ⟨(hL.sel [2] (by decide) rfl), ?_⟩
          refine DH.only 11 rfl (by kernel_rfl) (S_storeN (l := [(.int .i64 x161.Wind), (.int .i64 x161.Pace)]) (cs' := #[(.int .i64 x161.Wind), (.int .i64 x161.Pace)]) hL 0 rfl Try_T63 rfl rfl (by simp [Value.oneCell']) rfl (by decide) rfl ?_)
          intro wd189 hL
          refine ⟨(hL.sel [2] (by decide) rfl), ?_⟩
          refine DH.only 12 rfl (by kernel_rfl) (S_storeN (l := [(.int .i64 x167.Wind), (.int .i64 x167.Pace)]) (cs' := #[(.int .i64 x167.Wind), (.int .i64 x167.Pace)]) hL 1 rfl Try_T63 rfl rfl (by simp [Value.oneCell']) rfl (by decide) rfl ?_)
          intro wd190 hL
          refine ⟨(hL.sel [2] (by decide) rfl), ?_⟩
          refine DH.done (by kernel_rfl) ?_
          refine CW.seq ?_
          refine CW.regionL ?_
          refine OW.cons (OP.val (v := (.int .i64 a1)) rfl (x_mv f140) ?_)
          refine OW.cons (OP.val (v := (.pointer (some ⟨b186, 0, none⟩))) rfl (x_fieldAddr (fsz := 1) 0 0 0 Try.underlying63 rfl Try_T2 rfl rfl rfl) ?_)
          refine OW.cons (OP.val (v := (.int .i64 x167.Wind)) rfl (x_load1 Try.underlying2 rfl rfl (hL.cellB 1 rfl rfl)) ?_)
          refine OW.cons (OP.val (v := (.bool (decide (a1 ≤ x167.Wind)))) rfl (x_leq rfl rfl) ?_)
          refine OW.nil ?_
          refine CW.condM (t := decide (a1 ≤ x167.Wind)) rfl hm (fun hb191 hm => ?_) (fun hb191 hm => ?_)
          · refine CW.seq ?_
            refine CW.draw Try_mixed ?_
            have hL := hL.call (Mod.drew _)
            refine DW.pre (fuel := 0) (fin := (((((((((((((((((((((Array.replicate 20 false).setIfInBounds 0 true).setIfInBounds 1 true).setIfInBounds 2 true).setIfInBounds 3 true).setIfInBounds 4 true).setIfInBounds 5 true).setIfInBounds 6 true).setIfInBounds 7 true).setIfInBounds 8 true).setIfInBounds 9 true).setIfInBounds 10 true).setIfInBounds 11 true).setIfInBounds 12 true).setIfInBounds 13 true).setIfInBounds 14 true).setIfInBounds 15 true).setIfInBounds 16 true).setIfInBounds 17 true).setIfInBounds 18 true).setIfInBounds 19 true)) (C := fun w' => Mod None_ _ w') [0, 1, 2, 3, 4, 5, 6, 7, 8, 9, 10, 11, 12, 13, 14, 15, 16, 17, 18, 19] (Mod.refl _ _) (by kernel_rfl) (by kernel_rfl) ?_
            refine QW.cons rfl (QP.val (v := (.pointer (some ⟨b188, 1, none⟩))) rfl (fun w' hm' => x_fieldAddr (fsz := 1) 0 1 1 Try.underlying63 rfl Try_T2 rfl rfl rfl) ?_)
            refine QW.cons rfl (QP.val (v := (.int .i64 x161.Pace)) rfl (fun w' hm' => x_load1 Try.underlying2 rfl rfl ((hL.call hm').cellB 0 rfl rfl)) ?_)
            refine QW.cons rfl (QP.val (v := (.pointer (some ⟨b186, 1, none⟩))) rfl (fun w' hm' => x_fieldAddr (fsz := 1) 0 1 1 Try.underlying63 rfl Try_T2 rfl rfl rfl) ?_)
            refine QW.cons rfl (QP.val (v := (.int .i64 x167.Pace)) rfl (fun w' hm' => x_load1 Try.underlying2 rfl rfl ((hL.call hm').cellB 1 rfl rfl)) ?_)
            refine QW.cons rfl (QP.val (v := (.pointer (some ⟨b188, 1, none⟩))) rfl (fun w' hm' => x_fieldAddr (fsz := 1) 0 1 1 Try.underlying63 rfl Try_T2 rfl rfl rfl) ?_)
            refine QW.cons rfl (QP.val (v := (.int .i64 x161.Pace)) rfl (fun w' hm' => x_load1 Try.underlying2 rfl rfl ((hL.call hm').cellB 0 rfl rfl)) ?_)
            refine QW.cons rfl (QP.val (v := (.int .i64 (w64 (x167.Pace - x161.Pace)))) rfl (fun w' hm' => x_sub rfl rfl) ?_)
            refine QW.cons rfl (QP.val (v := (.int .i64 a1)) rfl (fun w' hm' => x_mv f140) ?_)
            refine QW.cons rfl (QP.val (v := (.pointer (some ⟨b188, 0, none⟩))) rfl (fun w' hm' => x_fieldAddr (fsz := 1) 0 0 0 Try.underlying63 rfl Try_T2 rfl rfl rfl) ?_)
            refine QW.cons rfl (QP.val (v := (.int .i64 x161.Wind)) rfl (fun w' hm' => x_load1 Try.underlying2 rfl rfl ((hL.call hm').cellB 0 rfl rfl)) ?_)
            refine QW.cons rfl (QP.val (v := (.int .i64 (w64 (a1 - x161.Wind)))) rfl (fun w' hm' => x_sub rfl rfl) ?_)
            refine QW.cons rfl (QP.val (v := (.int .i64 (w64 ((w64 (x167.Pace - x161.Pace)) * (w64 (a1 - x161.Wind)))))) rfl (fun w' hm' => x_mul rfl rfl) ?_)
            refine QW.cons rfl (QP.val (v := (.pointer (some ⟨b186, 0, none⟩))) rfl (fun w' hm' => x_fieldAddr (fsz := 1) 0 0 0 Try.underlying63 rfl Try_T2 rfl rfl rfl) ?_)
            refine QW.cons rfl (QP.val (v := (.int .i64 x167.Wind)) rfl (fun w' hm' => x_load1 Try.underlying2 rfl rfl ((hL.call hm').cellB 1 rfl rfl)) ?_)
            refine QW.cons rfl (QP.val (v := (.pointer (some ⟨b188, 0, none⟩))) rfl (fun w' hm' => x_fieldAddr (fsz := 1) 0 0 0 Try.underlying63 rfl Try_T2 rfl rfl rfl) ?_)
            refine QW.cons rfl (QP.val (v := (.int .i64 x161.Wind)) rfl (fun w' hm' => x_load1 Try.underlying2 rfl rfl ((hL.call hm').cellB 0 rfl rfl)) ?_)
            refine QW.cons rfl (QP.val (v := (.int .i64 (w64 (x167.Wind - x161.Wind)))) rfl (fun w' hm' => x_sub rfl rfl) ?_)
            obtain ⟨x192, hx193, hm⟩ := bndE hm
            refine QW.cons rfl (QP.call (v := (.int .i64 x192)) rfl (fun w' hm' => x_call (vs := [(.int .i64 (w64 ((w64 (x167.Pace - x161.Pace)) * (w64 (a1 - x161.Wind))))), (.int .i64 (w64 (x167.Wind - x161.Wind)))]) Try_C80 ⟨rfl, rfl, trivial⟩) (fun w' hm' => (M.spec_l01Floor_ok w' (w64 ((w64 (x167.Pace - x161.Pace)) * (w64 (a1 - x161.Wind)))) (w64 (x167.Wind - x161.Wind)) hx193).mono (fun e w'' h => ⟨h.1, hm'.trans h.2.mod⟩)) ?_)
            refine QW.cons rfl (QP.val (v := (.int .i64 (w64 (x161.Pace + x192)))) rfl (fun w' hm' => x_add rfl rfl) ?_)
            refine QW.cons rfl (QP.val (v := (.int .i64 (w64 (x161.Pace + x192)))) rfl (fun w' hm' => x_assign) ?_)
            refine QW.nil ?_
            intro wd194 hmod
            have hL := hL.call hmod
            refine DW.done (by kernel_rfl) ?_
            refine CW.ret ?_
            obtain rfl := Option.some.inj hm
            have hm := hr123 _ rfl
            obtain rfl := Option.some.inj hm
            exact RR1 rfl rfl ⟨rfl, hL.fresh 2 rfl [] (by decide) (by decide) rfl⟩
          · refine CW.skip ?_
            refine CW.regionL ?_
            refine OW.cons (OP.val (v := (.int .i64 s_l1)) rfl (x_mv f141) ?_)
            refine OW.cons (OP.val (v := (.int .i64 (w64 (s_l1 + 1)))) rfl (x_add rfl rfl) ?_)
            refine OW.cons (OP.val (v := (.int .i64 (w64 (s_l1 + 1)))) rfl (x_assign) ?_)
            refine OW.nil ?_
            have hL := hL.sel [2] (by decide) rfl
            obtain rfl := Option.some.inj hm
            exact ⟨_, rfl, ⟨f139, f140, rfl, hL⟩⟩
      · refine CW.exit ?_
        refine XJ.hit ?_
        obtain rfl := Option.some.inj hm
        exact ⟨_, rfl, ⟨f139, f140, f141, hL⟩⟩

theorem M.spec_l24Time_ok (w0 : World) (a0 : List CurvePoint) {v1 : Value} (h2 : rdL (· < w0.heap.size) w0 v1 a0) (a1 : Int) (a2 : Int) {r : Int} (hm : M.spec_l24Time a0 a1 a2 = some r) :
    Calls Try.prog 68 #[v1, (.int .i64 a1), (.int .i64 a2)] w0 fun e w' => e = .returned (.int .i64 r) ∧ Fresh w0 w' [] := by
  unfold M.spec_l24Time at hm
  refine calls_CW (args := [v1, (.int .i64 a1), (.int .i64 a2)]) Try.func68 rfl rfl rfl ?_
  have hL := Hp.start w0
  refine CW.seq ?_
  refine CW.regionL ?_
  refine OW.cons (OP.val (v := (.int .i64 0)) rfl (x_assign) ?_)
  refine OW.nil ?_
  refine CW.seq ?_
  refine CW.regionL ?_
  refine OW.cons (OP.val (v := v1) rfl (x_move) ?_)
  refine OW.cons (OP.val (v := (.int .i64 a1)) rfl (x_move) ?_)
  obtain ⟨x3, hx4, hm⟩ := bndE hm
  refine OW.cons (OP.call rfl (x_call (vs := [v1, (.int .i64 a1)]) Try_C72 ⟨rfl, rfl, trivial⟩) (M.spec_l24Pace_ok _ a0 (hL.rdS 0 rfl h2) a1 hx4) ?_)
  rintro e5 wd6 ⟨rfl, hF7⟩
  refine ⟨_, rfl, ?_⟩
  have hL := hL.pushAll hF7
  simp only [List.cons_append, List.nil_append, List.set_cons_zero, List.set_cons_succ] at hL
  refine OW.cons (OP.val (v := (.int .i64 a2)) rfl (x_move) ?_)
  refine OW.cons (OP.val (v := (.int .i64 (w64 (x3 * a2)))) rfl (x_mul rfl rfl) ?_)
  refine OW.cons (OP.val (v := (.int .i64 (w64 ((w64 (x3 * a2)) + 10000)))) rfl (x_add rfl rfl) ?_)
  refine OW.cons (OP.val (v := (.int .i64 (w64 ((w64 ((w64 (x3 * a2)) + 10000)) - 1)))) rfl (x_sub rfl rfl) ?_)
  refine OW.cons (OP.val (v := (.int .i64 (w64 ((w64 ((w64 ((w64 (x3 * a2)) + 10000)) - 1)).tdiv 10000)))) rfl (x_quo rfl rfl (by decide)) ?_)
  refine OW.cons (OP.val (v := (.int .i64 (w64 ((w64 ((w64 ((w64 (x3 * a2)) + 10000)) - 1)).tdiv 10000)))) rfl (x_assign) ?_)
  refine OW.nil ?_
  refine CW.ret ?_
  obtain rfl := Option.some.inj hm
  exact RR1 rfl rfl ⟨rfl, hL.fresh 0 rfl [] (by decide) (by decide) rfl⟩

theorem M.spec_l24Wind_ok (w0 : World) (a0 : List CurvePoint) {v1 : Value} (h2 : rdL (· < w0.heap.size) w0 v1 a0) (a1 : Int) (a2 : Int) {r : Int} (hm : M.spec_l24Wind a0 a1 a2 = some r) :
    Calls Try.prog 38 #[v1, (.int .i64 a1), (.int .i64 a2)] w0 fun e w' => e = .returned (.int .i64 r) ∧ Fresh w0 w' [] := by
  unfold M.spec_l24Wind at hm
  refine calls_CW (args := [v1, (.int .i64 a1), (.int .i64 a2)]) Try.func38 rfl rfl rfl ?_
  have hL := Hp.start w0
  refine CW.seq ?_
  refine CW.regionL ?_
  refine OW.cons (OP.val (v := (.int .i64 0)) rfl (x_assign) ?_)
  refine OW.nil ?_
  refine CW.seq ?_
  refine CW.seq ?_
  refine CW.regionL ?_
  refine OW.cons (OP.val (v := (.int .i64 0)) rfl (x_assign) ?_)
  refine OW.nil ?_
  obtain ⟨o19, ho20, hm⟩ := bndE hm
  refine CW.loopB (fun (s_l1 : Int) (F : Fr) (w : World) => F 0 = v1 ∧ F 1 = (.int .i64 a1) ∧ F 2 = (.int .i64 a2) ∧ F 7 = (.int .i64 s_l1) ∧ Hp w0 [Ent.snap w0 w0.heap.size] w) (fun o => outc o (fun x => some x) (fun s => M.spec_l24Wind_a1 s) = some r) ho20 hm ⟨rfl, rfl, rfl, rfl, hL⟩ ?_ ?_
  · intro s_l1 F21 wd22 hJ hm
    have hm : M.spec_l24Wind_a1 s_l1 = some r := hm
    unfold M.spec_l24Wind_a1 at hm
    obtain ⟨f23, f24, f25, f26, hL⟩ := hJ
    refine CW.seq ?_
    refine CW.regionL ?_
    refine OW.cons (OP.val (v := (.int .i64 (-1))) rfl (x_assign) ?_)
    refine OW.nil ?_
    refine CW.ret ?_
    obtain rfl := Option.some.inj hm
    exact RR1 rfl rfl ⟨rfl, hL.fresh 0 rfl [] (by decide) (by decide) rfl⟩
  · intro s_l1 F27 wd28 t17 hJ hm hr18
    unfold M.spec_l24Wind_l1 at hm
    obtain ⟨f29, f30, f31, f32, hL⟩ := hJ
    refine CW.seq ?_
    refine CW.seq ?_
    refine CW.regionL ?_
    refine OW.cons (OP.val (v := (.int .i64 s_l1)) rfl (x_mv f32) ?_)
    refine OW.cons (OP.val (v := (.bool (decide (s_l1 ≤ 1000)))) rfl (x_leq rfl rfl) ?_)
    refine OW.nil ?_
    refine CW.condM (t := decide (s_l1 ≤ 1000)) rfl hm (fun hb33 hm => ?_) (fun hb33 hm => ?_)
    · refine CW.skip ?_
      refine CW.seq ?_
      refine CW.block ?_
      refine CW.seq ?_
      refine CW.regionL ?_
      refine OW.cons (OP.val (v := v1) rfl (x_mv f29) ?_)
      refine OW.cons (OP.val (v := (.int .i64 s_l1)) rfl (x_mv f32) ?_)
      refine OW.cons (OP.val (v := (.int .i64 a2)) rfl (x_mv f31) ?_)
      obtain ⟨x34, hx35, hm⟩ := bndE hm
      refine OW.cons (OP.call rfl (x_call (vs := [v1, (.int .i64 s_l1), (.int .i64 a2)]) Try_C68 ⟨rfl, rfl, rfl, trivial⟩) (M.spec_l24Time_ok _ a0 (hL.rdS 0 rfl h2) s_l1 a2 hx35) ?_)
      rintro e36 wd37 ⟨rfl, hF38⟩
      refine ⟨_, rfl, ?_⟩
      have hL := hL.pushAll hF38
      simp only [List.cons_append, List.nil_append, List.set_cons_zero, List.set_cons_succ] at hL
      refine OW.cons (OP.val (v := (.int .i64 a1)) rfl (x_mv f30) ?_)
      refine OW.cons (OP.val (v := (.bool (decide (x34 ≤ a1)))) rfl (x_leq rfl rfl) ?_)
      refine OW.nil ?_
      refine CW.condM (t := decide (x34 ≤ a1)) rfl hm (fun hb39 hm => ?_) (fun hb39 hm => ?_)
      · refine CW.seq ?_
        refine CW.regionL ?_
        refine OW.cons (OP.val (v := (.int .i64 s_l1)) rfl (x_mv f32) ?_)
        refine OW.cons (OP.val (v := (.int .i64 s_l1)) rfl (x_assign) ?_)
        refine OW.nil ?_
        refine CW.ret ?_
        obtain rfl := Option.some.inj hm
        have hm := hr18 _ rfl
        obtain rfl := Option.some.inj hm
        exact RR1 rfl rfl ⟨rfl, hL.fresh 0 rfl [] (by decide) (by decide) rfl⟩
      · refine CW.skip ?_
        refine CW.regionL ?_
        refine OW.cons (OP.val (v := (.int .i64 s_l1)) rfl (x_mv f32) ?_)
        refine OW.cons (OP.val (v := (.int .i64 (w64 (s_l1 + 1)))) rfl (x_add rfl rfl) ?_)
        refine OW.cons (OP.val (v := (.int .i64 (w64 (s_l1 + 1)))) rfl (x_assign) ?_)
        refine OW.nil ?_
        obtain rfl := Option.some.inj hm
        exact ⟨_, rfl, ⟨f29, f30, f31, rfl, hL⟩⟩
    · refine CW.exit ?_
      refine XJ.hit ?_
      obtain rfl := Option.some.inj hm
      exact ⟨_, rfl, ⟨f29, f30, f31, f32, hL⟩⟩

theorem M.spec_ImpliedWind_ok (w0 : World) (a0 : List CurvePoint) {v1 : Value} (h2 : rdL (· < w0.heap.size) w0 v1 a0) (a1 : Int) (a2 : Int) {r : Int × Int} (hm : M.spec_ImpliedWind a0 a1 a2 = some r) :
    Calls Try.prog 10 #[v1, (.int .i64 a1), (.int .i64 a2)] w0 fun e w' => e = .returned (.tuple #[(.int .i64 r.1), (.int .i64 r.2)]) ∧ Fresh w0 w' [] := by
  unfold M.spec_ImpliedWind at hm
  refine calls_CW (args := [v1, (.int .i64 a1), (.int .i64 a2)]) Try.func10 rfl rfl rfl ?_
  have hL := Hp.start w0
  refine CW.seq ?_
  refine CW.regionL ?_
  refine OW.cons (OP.val (v := (.int .i64 0)) rfl (x_assign) ?_)
  refine OW.cons (OP.val (v := (.int .i64 0)) rfl (x_assign) ?_)
  refine OW.nil ?_
  refine CW.seq ?_
  refine CW.seq ?_
  refine CW.regionL ?_
  refine OW.cons (OP.val (v := v1) rfl (x_move) ?_)
  obtain ⟨x3, hx4, hm⟩ := bndE hm
  refine OW.cons (OP.call rfl (x_call (vs := [v1]) Try_C35 ⟨rfl, trivial⟩) (M.spec_IsCurve_ok _ a0 (hL.rdS 0 rfl h2) hx4) ?_)
  rintro e5 wd6 ⟨rfl, hF7⟩
  refine ⟨_, rfl, ?_⟩
  have hL := hL.pushAll hF7
  simp only [List.cons_append, List.nil_append, List.set_cons_zero, List.set_cons_succ] at hL
  refine OW.cons (OP.val (v := (.bool (!x3))) rfl (x_not rfl) ?_)
  refine OW.nil ?_
  refine CW.condM (t := !x3) rfl hm (fun hb8 hm => ?_) (fun hb8 hm => ?_)
  · refine CW.seq ?_
    refine CW.regionL ?_
    refine OW.cons (OP.val (v := (.int .i64 0)) rfl (x_assign) ?_)
    refine OW.cons (OP.val (v := (.int .i64 1)) rfl (x_assign) ?_)
    refine OW.nil ?_
    refine CW.ret ?_
    obtain rfl := Option.some.inj hm
    exact RR2 rfl rfl rfl ⟨rfl, hL.fresh 0 rfl [] (by decide) (by decide) rfl⟩
  · refine CW.skip ?_
    refine CW.seq ?_
    refine CW.seqJ (fun (s_j1 : Bool) (F : Fr) (w : World) => F 0 = v1 ∧ F 1 = (.int .i64 a1) ∧ F 2 = (.int .i64 a2) ∧ F 19 = (.bool s_j1) ∧ Hp w0 [Ent.snap w0 w0.heap.size] w) (fun s_j1 => M.spec_ImpliedWind_j1 a0 a1 a2 s_j1 = some r) ?_ ?_
    · refine CW.regionL ?_
      refine OW.cons (OP.val (v := (.int .i64 a1)) rfl (x_move) ?_)
      obtain ⟨x33, hx34, hm⟩ := bndE hm
      refine OW.cons (OP.call rfl (x_call (vs := [(.int .i64 a1)]) Try_C36 ⟨rfl, trivial⟩) (M.spec_l22Time_ok _ a1 hx34) ?_)
      rintro e35 wd36 ⟨rfl, hF37⟩
      refine ⟨_, rfl, ?_⟩
      have hL := hL.pushAll hF37
      simp only [List.cons_append, List.nil_append, List.set_cons_zero, List.set_cons_succ] at hL
      refine OW.cons (OP.val (v := (.bool (!x33))) rfl (x_not rfl) ?_)
      refine OW.cons (OP.val (v := (.bool (!x33))) rfl (x_move) ?_)
      refine ifB_elim hm (fun hb38 hm => ?_) (fun hb38 hm => ?_)
      · refine OW.cons (OP.no' rfl rfl hb38 rfl ?_)
        refine OW.cons (OP.no' rfl rfl hb38 rfl ?_)
        refine OW.cons (OP.no' rfl rfl hb38 rfl ?_)
        refine OW.cons (OP.val (v := (.bool true)) rfl (x_pickT' rfl hb38 rfl) ?_)
        refine OW.nil ?_
        exact ⟨true, hm, ⟨rfl, rfl, rfl, rfl, hL⟩⟩
      · refine OW.cons (OP.yes' rfl rfl hb38 (OP.val (v := (.int .i64 a2)) rfl (x_move) ?_))
        obtain ⟨x39, hx40, hm⟩ := bndE hm
        refine OW.cons (OP.yes' rfl rfl hb38 (OP.call rfl (x_call (vs := [(.int .i64 a2)]) Try_C37 ⟨rfl, trivial⟩) (M.spec_l23Distance_ok _ a2 hx40) ?_))
        rintro e41 wd42 ⟨rfl, hF43⟩
        refine ⟨_, rfl, ?_⟩
        have hL := hL.pushAll hF43
        simp only [List.cons_append, List.nil_append, List.set_cons_zero, List.set_cons_succ] at hL
        refine OW.cons (OP.yes' rfl rfl hb38 (OP.val (v := (.bool (!x39))) rfl (x_not rfl) ?_))
        refine OW.cons (OP.val (v := (.bool (!x39))) rfl (x_pickF' rfl hb38 rfl) ?_)
        refine OW.nil ?_
        exact ⟨!x39, hm, ⟨rfl, rfl, rfl, rfl, hL⟩⟩
    · intro s_j1 F20 wd21 hJ hm
      unfold M.spec_ImpliedWind_j1 at hm
      obtain ⟨f22, f23, f24, f25, hL⟩ := hJ
      refine CW.condM (t := s_j1) f25 hm (fun hb26 hm => ?_) (fun hb26 hm => ?_)
      · refine CW.seq ?_
        refine CW.regionL ?_
        refine OW.cons (OP.val (v := (.int .i64 0)) rfl (x_assign) ?_)
        refine OW.cons (OP.val (v := (.int .i64 2)) rfl (x_assign) ?_)
        refine OW.nil ?_
        refine CW.ret ?_
        obtain rfl := Option.some.inj hm
        exact RR2 rfl rfl rfl ⟨rfl, hL.fresh 0 rfl [] (by decide) (by decide) rfl⟩
      · refine CW.skip ?_
        refine CW.seq ?_
        refine CW.regionL ?_
        refine OW.cons (OP.val (v := v1) rfl (x_mv f22) ?_)
        refine OW.cons (OP.val (v := (.int .i64 a1)) rfl (x_mv f23) ?_)
        refine OW.cons (OP.val (v := (.int .i64 a2)) rfl (x_mv f24) ?_)
        obtain ⟨x27, hx28, hm⟩ := bndE hm
        refine OW.cons (OP.call rfl (x_call (vs := [v1, (.int .i64 a1), (.int .i64 a2)]) Try_C38 ⟨rfl, rfl, rfl, trivial⟩) (M.spec_l24Wind_ok _ a0 (hL.rdS 0 rfl h2) a1 a2 hx28) ?_)
        rintro e29 wd30 ⟨rfl, hF31⟩
        refine ⟨_, rfl, ?_⟩
        have hL := hL.pushAll hF31
        simp only [List.cons_append, List.nil_append, List.set_cons_zero, List.set_cons_succ] at hL
        refine OW.cons (OP.val (v := (.int .i64 x27)) rfl (x_assign) ?_)
        refine OW.nil ?_
        refine CW.seq ?_
        refine CW.seq ?_
        refine CW.regionL ?_
        refine OW.cons (OP.val (v := (.int .i64 x27)) rfl (x_move) ?_)
        refine OW.cons (OP.val (v := (.bool (decide (x27 < 0)))) rfl (x_lss rfl rfl) ?_)
        refine OW.nil ?_
        refine CW.condM (t := decide (x27 < 0)) rfl hm (fun hb32 hm => ?_) (fun hb32 hm => ?_)
        · refine CW.seq ?_
          refine CW.regionL ?_
          refine OW.cons (OP.val (v := (.int .i64 0)) rfl (x_assign) ?_)
          refine OW.cons (OP.val (v := (.int .i64 4)) rfl (x_assign) ?_)
          refine OW.nil ?_
          refine CW.ret ?_
          obtain rfl := Option.some.inj hm
          exact RR2 rfl rfl rfl ⟨rfl, hL.fresh 0 rfl [] (by decide) (by decide) rfl⟩
        · refine CW.skip ?_
          refine CW.seq ?_
          refine CW.regionL ?_
          refine OW.cons (OP.val (v := (.int .i64 x27)) rfl (x_move) ?_)
          refine OW.cons (OP.val (v := (.int .i64 x27)) rfl (x_assign) ?_)
          refine OW.cons (OP.val (v := (.int .i64 0)) rfl (x_assign) ?_)
          refine OW.nil ?_
          refine CW.ret ?_
          obtain rfl := Option.some.inj hm
          exact RR2 rfl rfl rfl ⟨rfl, hL.fresh 0 rfl [] (by decide) (by decide) rfl⟩

theorem M.impl_within_ok (w0 : World) (a0 : Int) (a1 : Int) (a2 : Int) {r : Bool} (hm : M.impl_within a0 a1 a2 = some r) :
    Calls Try.prog 54 #[(.int .i64 a0), (.int .i64 a1), (.int .i64 a2)] w0 fun e w' => e = .returned (.bool r) ∧ Fresh w0 w' [] := by
  unfold M.impl_within at hm
  refine calls_CW (args := [(.int .i64 a0), (.int .i64 a1), (.int .i64 a2)]) Try.func54 rfl rfl rfl ?_
  have hL := Hp.start w0
  refine CW.seq ?_
  refine CW.regionL ?_
  refine OW.cons (OP.val (v := (.bool false)) rfl (x_assign) ?_)
  refine OW.nil ?_
  refine CW.seqJ (fun (s_j1 : Bool) (F : Fr) (w : World) => F 6 = (.bool s_j1) ∧ Hp w0 [Ent.snap w0 w0.heap.size] w) (fun s_j1 => M.impl_within_j1 s_j1 = some r) ?_ ?_
  · refine CW.regionL ?_
    refine OW.cons (OP.val (v := (.int .i64 a0)) rfl (x_move) ?_)
    refine OW.cons (OP.val (v := (.int .i64 a1)) rfl (x_move) ?_)
    refine OW.cons (OP.val (v := (.bool (decide (a1 ≤ a0)))) rfl (x_geq rfl rfl) ?_)
    refine OW.cons (OP.val (v := (.bool (decide (a1 ≤ a0)))) rfl (x_move) ?_)
    refine ifB_elim hm (fun hb5 hm => ?_) (fun hb5 hm => ?_)
    · refine OW.cons (OP.yes' rfl rfl hb5 (OP.val (v := (.int .i64 a0)) rfl (x_move) ?_))
      refine OW.cons (OP.yes' rfl rfl hb5 (OP.val (v := (.int .i64 a2)) rfl (x_move) ?_))
      refine OW.cons (OP.yes' rfl rfl hb5 (OP.val (v := (.bool (decide (a0 ≤ a2)))) rfl (x_leq rfl rfl) ?_))
      refine OW.cons (OP.val (v := (.bool (decide (a0 ≤ a2)))) rfl (x_pickT' rfl hb5 rfl) ?_)
      refine OW.cons (OP.val (v := (.bool (decide (a0 ≤ a2)))) rfl (x_assign) ?_)
      refine OW.nil ?_
      exact ⟨decide (a0 ≤ a2), hm, ⟨rfl, hL⟩⟩
    · refine OW.cons (OP.no' rfl rfl hb5 rfl ?_)
      refine OW.cons (OP.no' rfl rfl hb5 rfl ?_)
      refine OW.cons (OP.no' rfl rfl hb5 rfl ?_)
      refine OW.cons (OP.val (v := (.bool false)) rfl (x_pickF' rfl hb5 rfl) ?_)
      refine OW.cons (OP.val (v := (.bool false)) rfl (x_assign) ?_)
      refine OW.nil ?_
      exact ⟨false, hm, ⟨rfl, hL⟩⟩
  · intro s_j1 F2 wd3 hJ hm
    unfold M.impl_within_j1 at hm
    obtain ⟨f4, hL⟩ := hJ
    refine CW.ret ?_
    obtain rfl := Option.some.inj hm
    exact RR1 rfl f4 ⟨rfl, hL.fresh 0 rfl [] (by decide) (by decide) rfl⟩

theorem M.impl_IsCurve_ok (w0 : World) (a0 : List CurvePoint) {v1 : Value} (h2 : rdL (· < w0.heap.size) w0 v1 a0) {r : Bool} (hm : M.impl_IsCurve a0 = some r) :
    Calls Try.prog 40 #[v1] w0 fun e w' => e = .returned (.bool r) ∧ Fresh w0 w' [] := by
  unfold M.impl_IsCurve at hm
  refine calls_CW (args := [v1]) Try.func40 rfl rfl rfl ?_
  have hL := Hp.start w0
  refine CW.seq ?_
  refine CW.regionL ?_
  refine OW.cons (OP.val (v := (.bool false)) rfl (x_assign) ?_)
  refine OW.nil ?_
  refine CW.seq ?_
  refine CW.seq ?_
  refine CW.regionL ?_
  refine OW.cons (OP.val (v := v1) rfl (x_move) ?_)
  refine OW.cons (OP.val (v := (.int .i64 (a0.length : Int))) rfl (x_lenR Try.underlying26 rfl (hL.rdS 0 rfl h2)) ?_)
  refine OW.cons (OP.val (v := (.int .i64 0)) rfl (x_move) ?_)
  refine OW.nil ?_
  obtain ⟨o141, ho142, hm⟩ := bndE hm
  refine CW.loopB (fun (s_l1 : Int) (F : Fr) (w : World) => F 0 = v1 ∧ F 5 = v1 ∧ F 6 = (.int .i64 (a0.length : Int)) ∧ F 7 = (.int .i64 s_l1) ∧ Hp w0 [Ent.snap w0 w0.heap.size] w) (fun o => outc o (fun x => some x) (fun s => M.impl_IsCurve_a1 a0 s) = some r) ho142 hm ⟨rfl, rfl, rfl, rfl, hL⟩ ?_ ?_
  · intro s_l1 F143 wd144 hJ hm
    have hm : M.impl_IsCurve_a1 a0 s_l1 = some r := hm
    unfold M.impl_IsCurve_a1 at hm
    obtain ⟨f145, f146, f147, f148, hL⟩ := hJ
    refine CW.seqJ (fun (s_j1 : Bool) (F : Fr) (w : World) => F 2 = (.bool s_j1) ∧ Hp w0 [Ent.snap w0 w0.heap.size] w) (fun s_j1 => M.impl_IsCurve_j1 s_j1 = some r) ?_ ?_
    · refine CW.regionL ?_
      refine OW.cons (OP.val (v := v1) rfl (x_mv f145) ?_)
      refine OW.cons (OP.val (v := (.int .i64 (a0.length : Int))) rfl (x_lenR Try.underlying26 rfl (hL.rdS 0 rfl h2)) ?_)
      refine OW.cons (OP.val (v := (.bool (decide (2 ≤ (a0.length : Int))))) rfl (x_geq rfl rfl) ?_)
      refine OW.cons (OP.val (v := (.bool (decide (2 ≤ (a0.length : Int))))) rfl (x_move) ?_)
      refine ifB_elim hm (fun hb153 hm => ?_) (fun hb153 hm => ?_)
      · refine OW.cons (OP.yes' rfl rfl hb153 (OP.val (v := v1) rfl (x_mv f145) ?_))
        refine OW.cons (OP.yes' rfl rfl hb153 (OP.val (v := (.int .i64 (a0.length : Int))) rfl (x_lenR Try.underlying26 rfl (hL.rdS 0 rfl h2)) ?_))
        refine OW.cons (OP.yes' rfl rfl hb153 (OP.val (v := (.bool (decide ((a0.length : Int) ≤ 12)))) rfl (x_leq rfl rfl) ?_))
        refine OW.cons (OP.val (v := (.bool (decide ((a0.length : Int) ≤ 12)))) rfl (x_pickT' rfl hb153 rfl) ?_)
        refine OW.cons (OP.val (v := (.bool (decide ((a0.length : Int) ≤ 12)))) rfl (x_assign) ?_)
        refine OW.nil ?_
        exact ⟨decide ((a0.length : Int) ≤ 12), hm, ⟨rfl, hL⟩⟩
      · refine OW.cons (OP.no' rfl rfl hb153 rfl ?_)
        refine OW.cons (OP.no' rfl rfl hb153 rfl ?_)
        refine OW.cons (OP.no' rfl rfl hb153 rfl ?_)
        refine OW.cons (OP.val (v := (.bool false)) rfl (x_pickF' rfl hb153 rfl) ?_)
        refine OW.cons (OP.val (v := (.bool false)) rfl (x_assign) ?_)
        refine OW.nil ?_
        exact ⟨false, hm, ⟨rfl, hL⟩⟩
    · intro s_j1 F150 wd151 hJ hm
      unfold M.impl_IsCurve_j1 at hm
      obtain ⟨f152, hL⟩ := hJ
      refine CW.ret ?_
      obtain rfl := Option.some.inj hm
      exact RR1 rfl f152 ⟨rfl, hL.fresh 0 rfl [] (by decide) (by decide) rfl⟩
  · intro s_l1 F154 wd155 t139 hJ hm hr140
    unfold M.impl_IsCurve_l1 at hm
    obtain ⟨f156, f157, f158, f159, hL⟩ := hJ
    refine CW.seq ?_
    refine CW.regionL ?_
    refine OW.cons (OP.val (v := (.bool (decide (s_l1 < (a0.length : Int))))) rfl (x_lss f159 f158) ?_)
    refine OW.nil ?_
    refine CW.seq ?_
    refine CW.condM (t := decide (s_l1 < (a0.length : Int))) rfl hm (fun hb160 hm => ?_) (fun hb160 hm => ?_)
    · refine CW.skip ?_
      refine CW.seq ?_
      refine CW.block ?_
      refine CW.seq ?_
      refine CW.regionL ?_
      refine OW.cons (OP.val (v := (.int .i64 s_l1)) rfl (x_mv f159) ?_)
      obtain ⟨x161, ha162, hm⟩ := bndE hm
      obtain ⟨hz163, ha162⟩ := idxE ha162
      obtain ⟨b164, q165, hix166⟩ := rdL_ix (hL.rdS 0 rfl h2) hz163 ha162
      refine OW.cons (OP.val (v := (.pointer (some ⟨b164, q165, none⟩))) rfl (x_ix Try.underlying26 Try_T63 f157 f159 hix166) ?_)
      refine OW.cons (OP.val (v := (.agg #[(.int .i64 x161.Wind), (.int .i64 x161.Pace)])) rfl (x_loadN (cs := [(.int .i64 x161.Wind), (.int .i64 x161.Pace)]) Try.underlying63 Try_T63 rfl rfl (rdF_cells (hL.rdS 0 rfl h2) hix166 ha162)) ?_)
      refine OW.cons (S_alloc (cs := #[(.int .i64 0), (.int .i64 0)]) hL Try_T63 rfl rfl ?_)
      intro wd167 b168 hL
      refine OW.cons (OP.val (v := (.int .i64 s_l1)) rfl (x_assign) ?_)
      refine OW.cons (S_storeN (l := [(.int .i64 x161.Wind), (.int .i64 x161.Pace)]) (cs' := #[(.int .i64 x161.Wind), (.int .i64 x161.Pace)]) hL 0 rfl Try_T63 rfl rfl (by simp [Value.oneCell']) rfl (by decide) rfl ?_)
      intro wd169 hL
      refine OW.nil ?_
      refine CW.seqJ (fun (s_j2 : Bool) (F : Fr) (w : World) => F 0 = v1 ∧ F 5 = v1 ∧ F 6 = (.int .i64 (a0.length : Int)) ∧ F 7 = (.int .i64 s_l1) ∧ F 47 = (.bool s_j2) ∧ Hp w0 [Ent.blk b168 63 #[(.int .i64 x161.Wind), (.int .i64 x161.Pace)], Ent.snap w0 w0.heap.size] w) (fun s_j2 => M.impl_IsCurve_j2 s_l1 s_j2 = some t139) ?_ ?_
      · refine CW.draw Try_mixed ?_
        have hL := hL.call (Mod.drew _)
        refine DW.pre (fuel := 0) (fin := (((((((((((((((((((((((((((((((((((((Array.replicate 36 false).setIfInBounds 0 true).setIfInBounds 1 true).setIfInBounds 2 true).setIfInBounds 3 true).setIfInBounds 4 true).setIfInBounds 5 true).setIfInBounds 6 true).setIfInBounds 7 true).setIfInBounds 8 true).setIfInBounds 9 true).setIfInBounds 10 true).setIfInBounds 11 true).setIfInBounds 12 true).setIfInBounds 13 true).setIfInBounds 14 true).setIfInBounds 15 true).setIfInBounds 16 true).setIfInBounds 17 true).setIfInBounds 18 true).setIfInBounds 19 true).setIfInBounds 20 true).setIfInBounds 21 true).setIfInBounds 22 true).setIfInBounds 23 true).setIfInBounds 24 true).setIfInBounds 25 true).setIfInBounds 26 true).setIfInBounds 27 true).setIfInBounds 28 true).setIfInBounds 29 true).setIfInBounds 30 true).setIfInBounds 31 true).setIfInBounds 32 true).setIfInBounds 33 true).setIfInBounds 34 true).setIfInBounds 35 true)) (C := fun w' => Mod None_ _ w') [0, 1, 2, 3, 4, 5, 6, 7, 8, 9, 10, 11, 12, 13, 14, 15, 16, 17, 18, 19, 20, 21, 22, 23, 24, 25, 26, 27, 28, 29, 30, 31, 32, 33, 34, 35] (Mod.refl _ _) (by kernel_rfl) (by kernel_rfl) ?_
        refine QW.cons rfl (QP.val (v := (.pointer (some ⟨b168, 0, none⟩))) rfl (fun w' hm' => x_fieldAddr (fsz := 1) 0 0 0 Try.underlying63 rfl Try_T2 rfl rfl rfl) ?_)
        refine QW.cons rfl (QP.val (v := (.int .i64 x161.Wind)) rfl (fun w' hm' => x_load1 Try.underlying2 rfl rfl ((hL.call hm').cellB 0 rfl rfl)) ?_)
        obtain ⟨x203, hx204, hm⟩ := bndE hm
        refine QW.cons rfl (QP.call (v := (.bool x203)) rfl (fun w' hm' => x_call (vs := [(.int .i64 x161.Wind), (.int .i64 0), (.int .i64 1000)]) Try_C54 ⟨rfl, rfl, rfl, trivial⟩) (fun w' hm' => (M.impl_within_ok w' x161.Wind 0 1000 hx204).mono (fun e w'' h => ⟨h.1, hm'.trans h.2.mod⟩)) ?_)
        refine QW.cons rfl (QP.val (v := (.bool (!x203))) rfl (fun w' hm' => x_not rfl) ?_)
        refine QW.cons rfl (QP.val (v := (.bool (!x203))) rfl (fun w' hm' => x_move) ?_)
        refine ifB_elim hm (fun hb205 hm => ?_) (fun hb205 hm => ?_)
        · refine QW.cons rfl (QP.no' rfl rfl hb205 rfl ?_)
          refine QW.cons rfl (QP.no' rfl rfl hb205 rfl ?_)
          refine QW.cons rfl (QP.no' rfl rfl hb205 rfl ?_)
          refine QW.cons rfl (QP.no' rfl rfl hb205 rfl ?_)
          refine QW.cons rfl (QP.val (v := (.bool true)) rfl (fun w' hm' => x_pickT' rfl hb205 rfl) ?_)
          refine QW.cons rfl (QP.val (v := (.bool true)) rfl (fun w' hm' => x_move) ?_)
          refine QW.cons rfl (QP.no' rfl rfl rfl rfl ?_)
          refine QW.cons rfl (QP.no' rfl rfl rfl rfl ?_)
          refine QW.cons rfl (QP.no' rfl rfl rfl rfl ?_)
          refine QW.cons rfl (QP.noU rfl rfl rfl ?_)
          refine QW.cons rfl (QP.noU rfl rfl rfl ?_)
          refine QW.cons rfl (QP.noU rfl rfl rfl ?_)
          refine QW.cons rfl (QP.noU rfl rfl rfl ?_)
          refine QW.cons rfl (QP.noU rfl rfl rfl ?_)
          refine QW.cons rfl (QP.noU rfl rfl rfl ?_)
          refine QW.cons rfl (QP.noU rfl rfl rfl ?_)
          refine QW.cons rfl (QP.noU rfl rfl rfl ?_)
          refine QW.cons rfl (QP.noU rfl rfl rfl ?_)
          refine QW.cons rfl (QP.noU rfl rfl rfl ?_)
          refine QW.cons rfl (QP.noU rfl rfl rfl ?_)
          refine QW.cons rfl (QP.noU rfl rfl rfl ?_)
          refine QW.cons rfl (QP.noU rfl rfl rfl ?_)
          refine QW.cons rfl (QP.noU rfl rfl rfl ?_)
          refine QW.cons rfl (QP.noU rfl rfl rfl ?_)
          refine QW.cons rfl (QP.noU rfl rfl rfl ?_)
          refine QW.cons rfl (QP.noU rfl rfl rfl ?_)
          refine QW.cons rfl (QP.noU rfl rfl rfl ?_)
          refine QW.cons rfl (QP.noU rfl rfl rfl ?_)
          refine QW.cons rfl (QP.noU rfl rfl rfl ?_)
          refine QW.cons rfl (QP.no' rfl rfl rfl rfl ?_)
          refine QW.cons rfl (QP.val (v := (.bool true)) rfl (fun w' hm' => x_pickT' rfl rfl rfl) ?_)
          refine QW.nil ?_
          intro wd206 hmod
          have hL := hL.call hmod
          refine DW.done (by kernel_rfl) ?_
          exact ⟨true, hm, ⟨f156, f157, f158, f159, rfl, hL⟩⟩
        · refine QW.cons rfl (QP.yes' rfl rfl hb205 (QP.val (v := (.pointer (some ⟨b168, 1, none⟩))) rfl (fun w' hm' => x_fieldAddr (fsz := 1) 0 1 1 Try.underlying63 rfl Try_T2 rfl rfl rfl) ?_))
          refine QW.cons rfl (QP.yes' rfl rfl hb205 (QP.val (v := (.int .i64 x161.Pace)) rfl (fun w' hm' => x_load1 Try.underlying2 rfl rfl ((hL.call hm').cellB 0 rfl rfl)) ?_))
          obtain ⟨x207, hx208, hm⟩ := bndE hm
          refine QW.cons rfl (QP.yes' rfl rfl hb205 (QP.call (v := (.bool x207)) rfl (fun w' hm' => x_call (vs := [(.int .i64 x161.Pace), (.int .i64 1), (.int .i64 1000000)]) Try_C54 ⟨rfl, rfl, rfl, trivial⟩) (fun w' hm' => (M.impl_within_ok w' x161.Pace 1 1000000 hx208).mono (fun e w'' h => ⟨h.1, hm'.trans h.2.mod⟩)) ?_))
          refine QW.cons rfl (QP.yes' rfl rfl hb205 (QP.val (v := (.bool (!x207))) rfl (fun w' hm' => x_not rfl) ?_))
          refine QW.cons rfl (QP.val (v := (.bool (!x207))) rfl (fun w' hm' => x_pickF' rfl hb205 rfl) ?_)
          refine QW.cons rfl (QP.val (v := (.bool (!x207))) rfl (fun w' hm' => x_move) ?_)
          refine ifB_elim hm (fun hb209 hm => ?_) (fun hb209 hm => ?_)
          · refine QW.cons rfl (QP.no' rfl rfl hb209 rfl ?_)
            refine QW.cons rfl (QP.no' rfl rfl hb209 rfl ?_)
            refine QW.cons rfl (QP.no' rfl rfl hb209 rfl ?_)
            refine QW.cons rfl (QP.noU rfl rfl rfl ?_)
            refine QW.cons rfl (QP.noU rfl rfl rfl ?_)
            refine QW.cons rfl (QP.noU rfl rfl rfl ?_)
            refine QW.cons rfl (QP.noU rfl rfl rfl ?_)
            refine QW.cons rfl (QP.noU rfl rfl rfl ?_)
            refine QW.cons rfl (QP.noU rfl rfl rfl ?_)
            refine QW.cons rfl (QP.noU rfl rfl rfl ?_)
            refine QW.cons rfl (QP.noU rfl rfl rfl ?_)
            refine QW.cons rfl (QP.noU rfl rfl rfl ?_)
            refine QW.cons rfl (QP.noU rfl rfl rfl ?_)
            refine QW.cons rfl (QP.noU rfl rfl rfl ?_)
            refine QW.cons rfl (QP.noU rfl rfl rfl ?_)
            refine QW.cons rfl (QP.noU rfl rfl rfl ?_)
            refine QW.cons rfl (QP.noU rfl rfl rfl ?_)
            refine QW.cons rfl (QP.noU rfl rfl rfl ?_)
            refine QW.cons rfl (QP.noU rfl rfl rfl ?_)
            refine QW.cons rfl (QP.noU rfl rfl rfl ?_)
            refine QW.cons rfl (QP.noU rfl rfl rfl ?_)
            refine QW.cons rfl (QP.noU rfl rfl rfl ?_)
            refine QW.cons rfl (QP.noU rfl rfl rfl ?_)
            refine QW.cons rfl (QP.no' rfl rfl hb209 rfl ?_)
            refine QW.cons rfl (QP.val (v := (.bool true)) rfl (fun w' hm' => x_pickT' rfl hb209 rfl) ?_)
            refine QW.nil ?_
            intro wd210 hmod
            have hL := hL.call hmod
            refine DW.done (by kernel_rfl) ?_
            exact ⟨true, hm, ⟨f156, f157, f158, f159, rfl, hL⟩⟩
          · refine QW.cons rfl (QP.yes' rfl rfl hb209 (QP.val (v := (.int .i64 s_l1)) rfl (fun w' hm' => x_move) ?_))
            refine QW.cons rfl (QP.yes' rfl rfl hb209 (QP.val (v := (.bool (decide (0 < s_l1)))) rfl (fun w' hm' => x_gtr rfl rfl) ?_))
            refine QW.cons rfl (QP.yes' rfl rfl hb209 (QP.val (v := (.bool (decide (0 < s_l1)))) rfl (fun w' hm' => x_move) ?_))
            refine ifB_elim hm (fun hb211 hm => ?_) (fun hb211 hm => ?_)
            · refine QW.cons rfl (QP.yes' rfl rfl hb211 (QP.val (v := v1) rfl (fun w' hm' => x_mv f156) ?_))
              refine QW.cons rfl (QP.yes' rfl rfl hb211 (QP.val (v := (.int .i64 s_l1)) rfl (fun w' hm' => x_move) ?_))
              refine QW.cons rfl (QP.yes' rfl rfl hb211 (QP.val (v := (.int .i64 (w64 (s_l1 - 1)))) rfl (fun w' hm' => x_sub rfl rfl) ?_))
              obtain ⟨x212, ha213, hm⟩ := bndE hm
              obtain ⟨hz214, ha213⟩ := idxE ha213
              obtain ⟨b215, q216, hix217⟩ := rdL_ix (hL.rdS 1 rfl h2) hz214 ha213
              refine QW.cons rfl (QP.yes' rfl rfl hb211 (QP.val (v := (.pointer (some ⟨b215, q216, none⟩))) rfl (fun w' hm' => x_ix Try.underlying26 Try_T63 rfl rfl hix217) ?_))
              refine QW.cons rfl (QP.yes' rfl rfl hb211 (QP.val (v := (.pointer (some ⟨b215, q216, none⟩))) rfl (fun w' hm' => x_fieldAddr (fsz := 1) q216 0 q216 Try.underlying63 rfl Try_T2 rfl rfl rfl) ?_))
              refine QW.cons rfl (QP.yes' rfl rfl hb211 (QP.val (v := (.int .i64 x212.Wind)) rfl (fun w' hm' => x_load1 Try.underlying2 rfl rfl (rdF_cells ((hL.call hm').rdS 1 rfl h2) hix217 ha213 0 _ rfl)) ?_))
              refine QW.cons rfl (QP.yes' rfl rfl hb211 (QP.val (v := (.pointer (some ⟨b168, 0, none⟩))) rfl (fun w' hm' => x_fieldAddr (fsz := 1) 0 0 0 Try.underlying63 rfl Try_T2 rfl rfl rfl) ?_))
              refine QW.cons rfl (QP.yes' rfl rfl hb211 (QP.val (v := (.int .i64 x161.Wind)) rfl (fun w' hm' => x_load1 Try.underlying2 rfl rfl ((hL.call hm').cellB 0 rfl rfl)) ?_))
              refine QW.cons rfl (QP.yes' rfl rfl hb211 (QP.val (v := (.bool (decide (x161.Wind ≤ x212.Wind)))) rfl (fun w' hm' => x_geq rfl rfl) ?_))
              refine QW.cons rfl (QP.yes' rfl rfl hb211 (QP.val (v := (.bool (decide (x161.Wind ≤ x212.Wind)))) rfl (fun w' hm' => x_move) ?_))
              refine ifB_elim hm (fun hb218 hm => ?_) (fun hb218 hm => ?_)
              · refine QW.cons rfl (QP.no' rfl rfl hb218 rfl ?_)
                refine QW.cons rfl (QP.no' rfl rfl hb218 rfl ?_)
                refine QW.cons rfl (QP.no' rfl rfl hb218 rfl ?_)
                refine QW.cons rfl (QP.no' rfl rfl hb218 rfl ?_)
                refine QW.cons rfl (QP.no' rfl rfl hb218 rfl ?_)
                refine QW.cons rfl (QP.no' rfl rfl hb218 rfl ?_)
                refine QW.cons rfl (QP.no' rfl rfl hb218 rfl ?_)
                refine QW.cons rfl (QP.no' rfl rfl hb218 rfl ?_)
                refine QW.cons rfl (QP.no' rfl rfl hb218 rfl ?_)
                refine QW.cons rfl (QP.yes' rfl rfl hb211 (QP.val (v := (.bool true)) rfl (fun w' hm' => x_pickT' rfl hb218 rfl) ?_))
                refine QW.cons rfl (QP.yes' rfl rfl hb209 (QP.val (v := (.bool true)) rfl (fun w' hm' => x_pickT' rfl hb211 rfl) ?_))
                refine QW.cons rfl (QP.val (v := (.bool true)) rfl (fun w' hm' => x_pickF' rfl hb209 rfl) ?_)
                refine QW.nil ?_
                intro wd219 hmod
                have hL := hL.call hmod
                refine DW.done (by kernel_rfl) ?_
                exact ⟨true, hm, ⟨f156, f157, f158, f159, rfl, hL⟩⟩
              · refine QW.cons rfl (QP.yes' rfl rfl hb218 (QP.val (v := v1) rfl (fun w' hm' => x_mv f156) ?_))
                refine QW.cons rfl (QP.yes' rfl rfl hb218 (QP.val (v := (.int .i64 s_l1)) rfl (fun w' hm' => x_move) ?_))
                refine QW.cons rfl (QP.yes' rfl rfl hb218 (QP.val (v := (.int .i64 (w64 (s_l1 - 1)))) rfl (fun w' hm' => x_sub rfl rfl) ?_))
                obtain ⟨x220, ha221, hm⟩ := bndE hm
                obtain ⟨hz222, ha221⟩ := idxE ha221
                obtain ⟨b223, q224, hix225⟩ := rdL_ix (hL.rdS 1 rfl h2) hz222 ha221
                refine QW.cons rfl (QP.yes' rfl rfl hb218 (QP.val (v := (.pointer (some ⟨b223, q224, none⟩))) rfl (fun w' hm' => x_ix Try.underlying26 Try_T63 rfl rfl hix225) ?_))
                refine QW.cons rfl (QP.yes' rfl rfl hb218 (QP.val (v := (.pointer (some ⟨b223, q224 + 1, none⟩))) rfl (fun w' hm' => x_fieldAddr (fsz := 1) q224 1 (q224 + 1) Try.underlying63 rfl Try_T2 rfl rfl rfl) ?_))
                refine QW.cons rfl (QP.yes' rfl rfl hb218 (QP.val (v := (.int .i64 x220.Pace)) rfl (fun w' hm' => x_load1 Try.underlying2 rfl rfl (rdF_cells ((hL.call hm').rdS 1 rfl h2) hix225 ha221 1 _ rfl)) ?_))
                refine QW.cons rfl (QP.yes' rfl rfl hb218 (QP.val (v := (.pointer (some ⟨b168, 1, none⟩))) rfl (fun w' hm' => x_fieldAddr (fsz := 1) 0 1 1 Try.underlying63 rfl Try_T2 rfl rfl rfl) ?_))
                refine QW.cons rfl (QP.yes' rfl rfl hb218 (QP.val (v := (.int .i64 x161.Pace)) rfl (fun w' hm' => x_load1 Try.underlying2 rfl rfl ((hL.call hm').cellB 0 rfl rfl)) ?_))
                refine QW.cons rfl (QP.yes' rfl rfl hb218 (QP.val (v := (.bool (decide (x220.Pace ≤ x161.Pace)))) rfl (fun w' hm' => x_leq rfl rfl) ?_))
                refine QW.cons rfl (QP.yes' rfl rfl hb211 (QP.val (v := (.bool (decide (x220.Pace ≤ x161.Pace)))) rfl (fun w' hm' => x_pickF' rfl hb218 rfl) ?_))
                refine QW.cons rfl (QP.yes' rfl rfl hb209 (QP.val (v := (.bool (decide (x220.Pace ≤ x161.Pace)))) rfl (fun w' hm' => x_pickT' rfl hb211 rfl) ?_))
                refine QW.cons rfl (QP.val (v := (.bool (decide (x220.Pace ≤ x161.Pace)))) rfl (fun w' hm' => x_pickF' rfl hb209 rfl) ?_)
                refine QW.nil ?_
                intro wd226 hmod
                have hL := hL.call hmod
                refine DW.done (by kernel_rfl) ?_
                exact ⟨decide (x220.Pace ≤ x161.Pace), hm, ⟨f156, f157, f158, f159, rfl, hL⟩⟩
            · refine QW.cons rfl (QP.no' rfl rfl hb211 rfl ?_)
              refine QW.cons rfl (QP.no' rfl rfl hb211 rfl ?_)
              refine QW.cons rfl (QP.no' rfl rfl hb211 rfl ?_)
              refine QW.cons rfl (QP.no' rfl rfl hb211 rfl ?_)
              refine QW.cons rfl (QP.no' rfl rfl hb211 rfl ?_)
              refine QW.cons rfl (QP.no' rfl rfl hb211 rfl ?_)
              refine QW.cons rfl (QP.no' rfl rfl hb211 rfl ?_)
              refine QW.cons rfl (QP.no' rfl rfl hb211 rfl ?_)
              refine QW.cons rfl (QP.no' rfl rfl hb211 rfl ?_)
              refine QW.cons rfl (QP.no' rfl rfl hb211 rfl ?_)
              refine QW.cons rfl (QP.noU rfl rfl rfl ?_)
              refine QW.cons rfl (QP.noU rfl rfl rfl ?_)
              refine QW.cons rfl (QP.noU rfl rfl rfl ?_)
              refine QW.cons rfl (QP.noU rfl rfl rfl ?_)
              refine QW.cons rfl (QP.noU rfl rfl rfl ?_)
              refine QW.cons rfl (QP.noU rfl rfl rfl ?_)
              refine QW.cons rfl (QP.noU rfl rfl rfl ?_)
              refine QW.cons rfl (QP.noU rfl rfl rfl ?_)
              refine QW.cons rfl (QP.noU rfl rfl rfl ?_)
              refine QW.cons rfl (QP.no' rfl rfl hb211 rfl ?_)
              refine QW.cons rfl (QP.yes' rfl rfl hb209 (QP.val (v := (.bool false)) rfl (fun w' hm' => x_pickF' rfl hb211 rfl) ?_))
              refine QW.cons rfl (QP.val (v := (.bool false)) rfl (fun w' hm' => x_pickF' rfl hb209 rfl) ?_)
              refine QW.nil ?_
              intro wd227 hmod
              have hL := hL.call hmod
              refine DW.done (by kernel_rfl) ?_
              exact ⟨false, hm, ⟨f156, f157, f158, f159, rfl, hL⟩⟩
      · intro s_j2 F195 wd196 hJ hm
        unfold M.impl_IsCurve_j2 at hm
        obtain ⟨f197, f198, f199, f200, f201, hL⟩ := hJ
        refine CW.condM (t := s_j2) f201 hm (fun hb202 hm => ?_) (fun hb202 hm => ?_)
        · refine CW.seq ?_
          refine CW.regionL ?_
          refine OW.cons (OP.val (v := (.bool false)) rfl (x_assign) ?_)
          refine OW.nil ?_
          refine CW.ret ?_
          obtain rfl := Option.some.inj hm
          have hm := hr140 _ rfl
          obtain rfl := Option.some.inj hm
          exact RR1 rfl rfl ⟨rfl, hL.fresh 1 rfl [] (by decide) (by decide) rfl⟩
        · refine CW.skip ?_
          refine CW.regionL ?_
          refine OW.cons (OP.val (v := (.int .i64 (w64 (s_l1 + 1)))) rfl (x_add f200 rfl) ?_)
          refine OW.cons (OP.val (v := (.int .i64 (w64 (s_l1 + 1)))) rfl (x_move) ?_)
          refine OW.nil ?_
          have hL := hL.sel [1] (by decide) rfl
          obtain rfl := Option.some.inj hm
          exact ⟨_, rfl, ⟨f197, f198, f199, rfl, hL⟩⟩
    · refine CW.exit ?_
      refine XJ.hit ?_
      obtain rfl := Option.some.inj hm
      exact ⟨_, rfl, ⟨f156, f157, f158, f159, hL⟩⟩

theorem M.impl_isElapsed_ok (w0 : World) (a0 : Int) {r : Bool} (hm : M.impl_isElapsed a0 = some r) :
    Calls Try.prog 41 #[(.int .i64 a0)] w0 fun e w' => e = .returned (.bool r) ∧ Fresh w0 w' [] := by
  unfold M.impl_isElapsed at hm
  refine calls_CW (args := [(.int .i64 a0)]) Try.func41 rfl rfl rfl ?_
  have hL := Hp.start w0
  refine CW.seq ?_
  refine CW.regionL ?_
  refine OW.cons (OP.val (v := (.bool false)) rfl (x_assign) ?_)
  refine OW.nil ?_
  refine CW.seq ?_
  refine CW.regionL ?_
  refine OW.cons (OP.val (v := (.int .i64 a0)) rfl (x_move) ?_)
  obtain ⟨x1, hx2, hm⟩ := bndE hm
  refine OW.cons (OP.call rfl (x_call (vs := [(.int .i64 a0), (.int .i64 1), (.int .i64 1000000000)]) Try_C54 ⟨rfl, rfl, rfl, trivial⟩) (M.impl_within_ok _ a0 1 1000000000 hx2) ?_)
  rintro e3 wd4 ⟨rfl, hF5⟩
  refine ⟨_, rfl, ?_⟩
  have hL := hL.pushAll hF5
  simp only [List.cons_append, List.nil_append, List.set_cons_zero, List.set_cons_succ] at hL
  refine OW.cons (OP.val (v := (.bool x1)) rfl (x_assign) ?_)
  refine OW.nil ?_
  refine CW.ret ?_
  obtain rfl := Option.some.inj hm
  exact RR1 rfl rfl ⟨rfl, hL.fresh 0 rfl [] (by decide) (by decide) rfl⟩

theorem M.impl_isDistance_ok (w0 : World) (a0 : Int) {r : Bool} (hm : M.impl_isDistance a0 = some r) :
    Calls Try.prog 42 #[(.int .i64 a0)] w0 fun e w' => e = .returned (.bool r) ∧ Fresh w0 w' [] := by
  unfold M.impl_isDistance at hm
  refine calls_CW (args := [(.int .i64 a0)]) Try.func42 rfl rfl rfl ?_
  have hL := Hp.start w0
  refine CW.seq ?_
  refine CW.regionL ?_
  refine OW.cons (OP.val (v := (.bool false)) rfl (x_assign) ?_)
  refine OW.nil ?_
  refine CW.seq ?_
  refine CW.regionL ?_
  refine OW.cons (OP.val (v := (.int .i64 a0)) rfl (x_move) ?_)
  obtain ⟨x1, hx2, hm⟩ := bndE hm
  refine OW.cons (OP.call rfl (x_call (vs := [(.int .i64 a0), (.int .i64 1), (.int .i64 10000000)]) Try_C54 ⟨rfl, rfl, rfl, trivial⟩) (M.impl_within_ok _ a0 1 10000000 hx2) ?_)
  rintro e3 wd4 ⟨rfl, hF5⟩
  refine ⟨_, rfl, ?_⟩
  have hL := hL.pushAll hF5
  simp only [List.cons_append, List.nil_append, List.set_cons_zero, List.set_cons_succ] at hL
  refine OW.cons (OP.val (v := (.bool x1)) rfl (x_assign) ?_)
  refine OW.nil ?_
  refine CW.ret ?_
  obtain rfl := Option.some.inj hm
  exact RR1 rfl rfl ⟨rfl, hL.fresh 0 rfl [] (by decide) (by decide) rfl⟩

theorem M.impl_floorDiv_ok (w0 : World) (a0 : Int) (a1 : Int) {r : Int} (hm : M.impl_floorDiv a0 a1 = some r) :
    Calls Try.prog 75 #[(.int .i64 a0), (.int .i64 a1)] w0 fun e w' => e = .returned (.int .i64 r) ∧ Fresh w0 w' [] := by
  unfold M.impl_floorDiv at hm
  refine calls_CW (args := [(.int .i64 a0), (.int .i64 a1)]) Try.func75 rfl rfl rfl ?_
  have hL := Hp.start w0
  refine CW.seq ?_
  refine CW.regionL ?_
  refine OW.cons (OP.val (v := (.int .i64 0)) rfl (x_assign) ?_)
  refine OW.nil ?_
  refine CW.seq ?_
  refine CW.regionL ?_
  refine OW.cons (OP.val (v := (.int .i64 a0)) rfl (x_move) ?_)
  refine OW.cons (OP.val (v := (.int .i64 a1)) rfl (x_move) ?_)
  obtain ⟨hc1, hm⟩ := chkE hm
  refine OW.cons (OP.val (v := (.int .i64 (w64 (a0.tdiv a1)))) rfl (x_quo rfl rfl hc1) ?_)
  refine OW.cons (OP.val (v := (.int .i64 (w64 (a0.tdiv a1)))) rfl (x_assign) ?_)
  refine OW.nil ?_
  refine CW.seqJ (fun (s_j1 : Int) (F : Fr) (w : World) => F 5 = (.int .i64 s_j1) ∧ Hp w0 [Ent.snap w0 w0.heap.size] w) (fun s_j1 => M.impl_floorDiv_j1 s_j1 = some r) ?_ ?_
  · refine CW.seq ?_
    refine CW.regionL ?_
    refine OW.cons (OP.val (v := (.int .i64 a0)) rfl (x_move) ?_)
    refine OW.cons (OP.val (v := (.int .i64 a1)) rfl (x_move) ?_)
    obtain ⟨hc7, hm⟩ := chkE hm
    refine OW.cons (OP.val (v := (.int .i64 (a0.tmod a1))) rfl (x_rem rfl rfl hc7) ?_)
    refine OW.cons (OP.val (v := (.bool (decide ((a0.tmod a1) < 0)))) rfl (x_lss rfl rfl) ?_)
    refine OW.nil ?_
    refine CW.condM (t := decide ((a0.tmod a1) < 0)) rfl hm (fun hb8 hm => ?_) (fun hb8 hm => ?_)
    · refine CW.regionL ?_
      refine OW.cons (OP.val (v := (.int .i64 (w64 (a0.tdiv a1)))) rfl (x_move) ?_)
      refine OW.cons (OP.val (v := (.int .i64 (w64 ((w64 (a0.tdiv a1)) - 1)))) rfl (x_sub rfl rfl) ?_)
      refine OW.cons (OP.val (v := (.int .i64 (w64 ((w64 (a0.tdiv a1)) - 1)))) rfl (x_assign) ?_)
      refine OW.nil ?_
      exact ⟨w64 ((w64 (a0.tdiv a1)) - 1), hm, ⟨rfl, hL⟩⟩
    · refine CW.skip ?_
      exact ⟨w64 (a0.tdiv a1), hm, ⟨rfl, hL⟩⟩
  · intro s_j1 F4 wd5 hJ hm
    unfold M.impl_floorDiv_j1 at hm
    obtain ⟨f6, hL⟩ := hJ
    refine CW.seq ?_
    refine CW.regionL ?_
    refine OW.cons (OP.val (v := (.int .i64 s_j1)) rfl (x_mv f6) ?_)
    refine OW.cons (OP.val (v := (.int .i64 s_j1)) rfl (x_assign) ?_)
    refine OW.nil ?_
    refine CW.ret ?_
    obtain rfl := Option.some.inj hm
    exact RR1 rfl rfl ⟨rfl, hL.fresh 0 rfl [] (by decide) (by decide) rfl⟩

theorem M.impl_paceAt_ok (w0 : World) (a0 : List CurvePoint) {v1 : Value} (h2 : rdL (· < w0.heap.size) w0 v1 a0) (a1 : Int) {r : Int} (hm : M.impl_paceAt a0 a1 = some r) :
    Calls Try.prog 57 #[v1, (.int .i64 a1)] w0 fun e w' => e = .returned (.int .i64 r) ∧ Fresh w0 w' [] := by
  unfold M.impl_paceAt at hm
  refine calls_CW (args := [v1, (.int .i64 a1)]) Try.func57 rfl rfl rfl ?_
  have hL := Hp.start w0
  refine CW.seq ?_
  refine CW.regionL ?_
  refine OW.cons (OP.val (v := (.int .i64 0)) rfl (x_assign) ?_)
  refine OW.nil ?_
  refine CW.seq ?_
  refine CW.seq ?_
  refine CW.regionL ?_
  refine OW.cons (OP.val (v := v1) rfl (x_move) ?_)
  refine OW.cons (OP.val (v := (.int .i64 (a0.length : Int))) rfl (x_lenR Try.underlying26 rfl (hL.rdS 0 rfl h2)) ?_)
  refine OW.cons (OP.val (v := (.int .i64 0)) rfl (x_move) ?_)
  refine OW.nil ?_
  obtain ⟨o53, ho54, hm⟩ := bndE hm
  refine CW.loopB (fun (s_l1 : Int) (F : Fr) (w : World) => F 0 = v1 ∧ F 1 = (.int .i64 a1) ∧ F 8 = v1 ∧ F 9 = (.int .i64 (a0.length : Int)) ∧ F 10 = (.int .i64 s_l1) ∧ Hp w0 [Ent.snap w0 w0.heap.size] w) (fun o => outc o (fun x => some x) (fun s => M.impl_paceAt_a1 a0 s) = some r) ho54 hm ⟨rfl, rfl, rfl, rfl, rfl, hL⟩ ?_ ?_
  · intro s_l1 F55 wd56 hJ hm
    have hm : M.impl_paceAt_a1 a0 s_l1 = some r := hm
    unfold M.impl_paceAt_a1 at hm
    obtain ⟨f57, f58, f59, f60, f61, hL⟩ := hJ
    refine CW.seq ?_
    refine CW.regionL ?_
    refine OW.cons (OP.val (v := v1) rfl (x_mv f57) ?_)
    refine OW.cons (OP.val (v := v1) rfl (x_mv f57) ?_)
    refine OW.cons (OP.val (v := (.int .i64 (a0.length : Int))) rfl (x_lenR Try.underlying26 rfl (hL.rdS 0 rfl h2)) ?_)
    refine OW.cons (OP.val (v := (.int .i64 (w64 ((a0.length : Int) - 1)))) rfl (x_sub rfl rfl) ?_)
    obtain ⟨x62, ha63, hm⟩ := bndE hm
    obtain ⟨hz64, ha63⟩ := idxE ha63
    obtain ⟨b65, q66, hix67⟩ := rdL_ix (hL.rdS 0 rfl h2) hz64 ha63
    refine OW.cons (OP.val (v := (.pointer (some ⟨b65, q66, none⟩))) rfl (x_ix Try.underlying26 Try_T63 rfl rfl hix67) ?_)
    refine OW.cons (OP.val (v := (.pointer (some ⟨b65, q66 + 1, none⟩))) rfl (x_fieldAddr (fsz := 1) q66 1 (q66 + 1) Try.underlying63 rfl Try_T2 rfl rfl rfl) ?_)
    refine OW.cons (OP.val (v := (.int .i64 x62.Pace)) rfl (x_load1 Try.underlying2 rfl rfl (rdF_cells (hL.rdS 0 rfl h2) hix67 ha63 1 _ rfl)) ?_)
    refine OW.cons (OP.val (v := (.int .i64 x62.Pace)) rfl (x_assign) ?_)
    refine OW.nil ?_
    refine CW.ret ?_
    obtain rfl := Option.some.inj hm
    exact RR1 rfl rfl ⟨rfl, hL.fresh 0 rfl [] (by decide) (by decide) rfl⟩
  · intro s_l1 F68 wd69 t51 hJ hm hr52
    unfold M.impl_paceAt_l1 at hm
    obtain ⟨f70, f71, f72, f73, f74, hL⟩ := hJ
    refine CW.seq ?_
    refine CW.regionL ?_
    refine OW.cons (OP.val (v := (.bool (decide (s_l1 < (a0.length : Int))))) rfl (x_lss f74 f73) ?_)
    refine OW.nil ?_
    refine CW.seq ?_
    refine CW.condM (t := decide (s_l1 < (a0.length : Int))) rfl hm (fun hb75 hm => ?_) (fun hb75 hm => ?_)
    · refine CW.skip ?_
      refine CW.seq ?_
      refine CW.block ?_
      refine CW.seq ?_
      refine CW.regionL ?_
      refine OW.cons (OP.val (v := (.int .i64 s_l1)) rfl (x_mv f74) ?_)
      obtain ⟨x76, ha77, hm⟩ := bndE hm
      obtain ⟨hz78, ha77⟩ := idxE ha77
      obtain ⟨b79, q80, hix81⟩ := rdL_ix (hL.rdS 0 rfl h2) hz78 ha77
      refine OW.cons (OP.val (v := (.pointer (some ⟨b79, q80, none⟩))) rfl (x_ix Try.underlying26 Try_T63 f72 f74 hix81) ?_)
      refine OW.cons (OP.val (v := (.agg #[(.int .i64 x76.Wind), (.int .i64 x76.Pace)])) rfl (x_loadN (cs := [(.int .i64 x76.Wind), (.int .i64 x76.Pace)]) Try.underlying63 Try_T63 rfl rfl (rdF_cells (hL.rdS 0 rfl h2) hix81 ha77)) ?_)
      refine OW.cons (S_alloc (cs := #[(.int .i64 0), (.int .i64 0)]) hL Try_T63 rfl rfl ?_)
      intro wd82 b83 hL
      refine OW.cons (OP.val (v := (.int .i64 s_l1)) rfl (x_assign) ?_)
      refine OW.cons (S_storeN (l := [(.int .i64 x76.Wind), (.int .i64 x76.Pace)]) (cs' := #[(.int .i64 x76.Wind), (.int .i64 x76.Pace)]) hL 0 rfl Try_T63 rfl rfl (by simp [Value.oneCell']) rfl (by decide) rfl ?_)
      intro wd84 hL
      refine OW.nil ?_
      refine CW.seq ?_
      refine CW.seq ?_
      refine CW.regionL ?_
      refine OW.cons (OP.val (v := (.int .i64 a1)) rfl (x_mv f71) ?_)
      refine OW.cons (OP.val (v := (.pointer (some ⟨b83, 0, none⟩))) rfl (x_fieldAddr (fsz := 1) 0 0 0 Try.underlying63 rfl Try_T2 rfl rfl rfl) ?_)
      refine OW.cons (OP.val (v := (.int .i64 x76.Wind)) rfl (x_load1 Try.underlying2 rfl rfl (hL.cellB 0 rfl rfl)) ?_)
      refine OW.cons (OP.val (v := (.bool (decide (x76.Wind < a1)))) rfl (x_gtr rfl rfl) ?_)
      refine OW.nil ?_
      refine CW.condM (t := decide (x76.Wind < a1)) rfl hm (fun hb85 hm => ?_) (fun hb85 hm => ?_)
      · refine CW.exit ?_
        refine XX.hit ?_
        refine CW.regionL ?_
        refine OW.cons (OP.val (v := (.int .i64 (w64 (s_l1 + 1)))) rfl (x_add f74 rfl) ?_)
        refine OW.cons (OP.val (v := (.int .i64 (w64 (s_l1 + 1)))) rfl (x_move) ?_)
        refine OW.nil ?_
        have hL := hL.sel [1] (by decide) rfl
        obtain rfl := Option.some.inj hm
        exact ⟨_, rfl, ⟨f70, f71, f72, f73, rfl, hL⟩⟩
      · refine CW.skip ?_
        refine CW.seq ?_
        refine CW.seq ?_
        refine CW.regionL ?_
        refine OW.cons (OP.val (v := (.int .i64 s_l1)) rfl (x_move) ?_)
        refine OW.cons (OP.val (v := (.bool (s_l1 == 0))) rfl (x_eql rfl rfl) ?_)
        refine OW.nil ?_
        refine CW.condM (t := s_l1 == 0) rfl hm (fun hb86 hm => ?_) (fun hb86 hm => ?_)
        · refine CW.seq ?_
          refine CW.regionL ?_
          refine OW.cons (OP.val (v := (.pointer (some ⟨b83, 1, none⟩))) rfl (x_fieldAddr (fsz := 1) 0 1 1 Try.underlying63 rfl Try_T2 rfl rfl rfl) ?_)
          refine OW.cons (OP.val (v := (.int .i64 x76.Pace)) rfl (x_load1 Try.underlying2 rfl rfl (hL.cellB 0 rfl rfl)) ?_)
          refine OW.cons (OP.val (v := (.int .i64 x76.Pace)) rfl (x_assign) ?_)
          refine OW.nil ?_
          refine CW.ret ?_
          obtain rfl := Option.some.inj hm
          have hm := hr52 _ rfl
          obtain rfl := Option.some.inj hm
          exact RR1 rfl rfl ⟨rfl, hL.fresh 1 rfl [] (by decide) (by decide) rfl⟩
        · refine CW.skip ?_
          refine CW.seq ?_
          refine CW.regionL ?_
          refine OW.cons (OP.val (v := v1) rfl (x_mv f70) ?_)
          refine OW.cons (OP.val (v := (.int .i64 s_l1)) rfl (x_move) ?_)
          refine OW.cons (OP.val (v := (.int .i64 (w64 (s_l1 - 1)))) rfl (x_sub rfl rfl) ?_)
          obtain ⟨x87, ha88, hm⟩ := bndE hm
          obtain ⟨hz89, ha88⟩ := idxE ha88
          obtain ⟨b90, q91, hix92⟩ := rdL_ix (hL.rdS 1 rfl h2) hz89 ha88
          refine OW.cons (OP.val (v := (.pointer (some ⟨b90, q91, none⟩))) rfl (x_ix Try.underlying26 Try_T63 rfl rfl hix92) ?_)
          refine OW.cons (OP.val (v := (.agg #[(.int .i64 x87.Wind), (.int .i64 x87.Pace)])) rfl (x_loadN (cs := [(.int .i64 x87.Wind), (.int .i64 x87.Pace)]) Try.underlying63 Try_T63 rfl rfl (rdF_cells (hL.rdS 1 rfl h2) hix92 ha88)) ?_)
          refine OW.cons (S_alloc (cs := #[(.int .i64 0), (.int .i64 0)]) hL Try_T63 rfl rfl ?_)
          intro wd93 b94 hL
          refine OW.cons (S_storeN (l := [(.int .i64 x87.Wind), (.int .i64 x87.Pace)]) (cs' := #[(.int .i64 x87.Wind), (.int .i64 x87.Pace)]) hL 0 rfl Try_T63 rfl rfl (by simp [Value.oneCell']) rfl (by decide) rfl ?_)
          intro wd95 hL
          refine OW.nil ?_
          refine CW.seq ?_
          refine CW.draw Try_mixed ?_
          have hL := hL.call (Mod.drew _)
          refine DW.pre (fuel := 0) (fin := (((((((((((((((((((((Array.replicate 20 false).setIfInBounds 0 true).setIfInBounds 1 true).setIfInBounds 2 true).setIfInBounds 3 true).setIfInBounds 4 true).setIfInBounds 5 true).setIfInBounds 6 true).setIfInBounds 7 true).setIfInBounds 8 true).setIfInBounds 9 true).setIfInBounds 10 true).setIfInBounds 11 true).setIfInBounds 12 true).setIfInBounds 13 true).setIfInBounds 14 true).setIfInBounds 15 true).setIfInBounds 16 true).setIfInBounds 17 true).setIfInBounds 18 true).setIfInBounds 19 true)) (C := fun w' => Mod None_ _ w') [0, 1, 2, 3, 4, 5, 6, 7, 8, 9, 10, 11, 12, 13, 14, 15, 16, 17, 18, 19] (Mod.refl _ _) (by kernel_rfl) (by kernel_rfl) ?_
          refine QW.cons rfl (QP.val (v := (.pointer (some ⟨b94, 1, none⟩))) rfl (fun w' hm' => x_fieldAddr (fsz := 1) 0 1 1 Try.underlying63 rfl Try_T2 rfl rfl rfl) ?_)
          refine QW.cons rfl (QP.val (v := (.int .i64 x87.Pace)) rfl (fun w' hm' => x_load1 Try.underlying2 rfl rfl ((hL.call hm').cellB 0 rfl rfl)) ?_)
          refine QW.cons rfl (QP.val (v := (.pointer (some ⟨b83, 1, none⟩))) rfl (fun w' hm' => x_fieldAddr (fsz := 1) 0 1 1 Try.underlying63 rfl Try_T2 rfl rfl rfl) ?_)
          refine QW.cons rfl (QP.val (v := (.int .i64 x76.Pace)) rfl (fun w' hm' => x_load1 Try.underlying2 rfl rfl ((hL.call hm').cellB 1 rfl rfl)) ?_)
          refine QW.cons rfl (QP.val (v := (.pointer (some ⟨b94, 1, none⟩))) rfl (fun w' hm' => x_fieldAddr (fsz := 1) 0 1 1 Try.underlying63 rfl Try_T2 rfl rfl rfl) ?_)
          refine QW.cons rfl (QP.val (v := (.int .i64 x87.Pace)) rfl (fun w' hm' => x_load1 Try.underlying2 rfl rfl ((hL.call hm').cellB 0 rfl rfl)) ?_)
          refine QW.cons rfl (QP.val (v := (.int .i64 (w64 (x76.Pace - x87.Pace)))) rfl (fun w' hm' => x_sub rfl rfl) ?_)
          refine QW.cons rfl (QP.val (v := (.int .i64 a1)) rfl (fun w' hm' => x_mv f71) ?_)
          refine QW.cons rfl (QP.val (v := (.pointer (some ⟨b94, 0, none⟩))) rfl (fun w' hm' => x_fieldAddr (fsz := 1) 0 0 0 Try.underlying63 rfl Try_T2 rfl rfl rfl) ?_)
          refine QW.cons rfl (QP.val (v := (.int .i64 x87.Wind)) rfl (fun w' hm' => x_load1 Try.underlying2 rfl rfl ((hL.call hm').cellB 0 rfl rfl)) ?_)
          refine QW.cons rfl (QP.val (v := (.int .i64 (w64 (a1 - x87.Wind)))) rfl (fun w' hm' => x_sub rfl rfl) ?_)
          refine QW.cons rfl (QP.val (v := (.int .i64 (w64 ((w64 (x76.Pace - x87.Pace)) * (w64 (a1 - x87.Wind)))))) rfl (fun w' hm' => x_mul rfl rfl) ?_)
          refine QW.cons rfl (QP.val (v := (.pointer (some ⟨b83, 0, none⟩))) rfl (fun w' hm' => x_fieldAddr (fsz := 1) 0 0 0 Try.underlying63 rfl Try_T2 rfl rfl rfl) ?_)
          refine QW.cons rfl (QP.val (v := (.int .i64 x76.Wind)) rfl (fun w' hm' => x_load1 Try.underlying2 rfl rfl ((hL.call hm').cellB 1 rfl rfl)) ?_)
          refine QW.cons rfl (QP.val (v := (.pointer (some ⟨b94, 0, none⟩))) rfl (fun w' hm' => x_fieldAddr (fsz := 1) 0 0 0 Try.underlying63 rfl Try_T2 rfl rfl rfl) ?_)
          refine QW.cons rfl (QP.val (v := (.int .i64 x87.Wind)) rfl (fun w' hm' => x_load1 Try.underlying2 rfl rfl ((hL.call hm').cellB 0 rfl rfl)) ?_)
          refine QW.cons rfl (QP.val (v := (.int .i64 (w64 (x76.Wind - x87.Wind)))) rfl (fun w' hm' => x_sub rfl rfl) ?_)
          obtain ⟨x96, hx97, hm⟩ := bndE hm
          refine QW.cons rfl (QP.call (v := (.int .i64 x96)) rfl (fun w' hm' => x_call (vs := [(.int .i64 (w64 ((w64 (x76.Pace - x87.Pace)) * (w64 (a1 - x87.Wind))))), (.int .i64 (w64 (x76.Wind - x87.Wind)))]) Try_C75 ⟨rfl, rfl, trivial⟩) (fun w' hm' => (M.impl_floorDiv_ok w' (w64 ((w64 (x76.Pace - x87.Pace)) * (w64 (a1 - x87.Wind)))) (w64 (x76.Wind - x87.Wind)) hx97).mono (fun e w'' h => ⟨h.1, hm'.trans h.2.mod⟩)) ?_)
          refine QW.cons rfl (QP.val (v := (.int .i64 (w64 (x87.Pace + x96)))) rfl (fun w' hm' => x_add rfl rfl) ?_)
          refine QW.cons rfl (QP.val (v := (.int .i64 (w64 (x87.Pace + x96)))) rfl (fun w' hm' => x_assign) ?_)
          refine QW.nil ?_
          intro wd98 hmod
          have hL := hL.call hmod
          refine DW.done (by kernel_rfl) ?_
          refine CW.ret ?_
          obtain rfl := Option.some.inj hm
          have hm := hr52 _ rfl
          obtain rfl := Option.some.inj hm
          exact RR1 rfl rfl ⟨rfl, hL.fresh 2 rfl [] (by decide) (by decide) rfl⟩
    · refine CW.exit ?_
      refine XJ.hit ?_
      obtain rfl := Option.some.inj hm
      exact ⟨_, rfl, ⟨f70, f71, f72, f73, f74, hL⟩⟩

theorem M.impl_ceilDiv_ok (w0 : World) (a0 : Int) (a1 : Int) {r : Int} (hm : M.impl_ceilDiv a0 a1 = some r) :
    Calls Try.prog 70 #[(.int .i64 a0), (.int .i64 a1)] w0 fun e w' => e = .returned (.int .i64 r) ∧ Fresh w0 w' [] := by
  unfold M.impl_ceilDiv at hm
  refine calls_CW (args := [(.int .i64 a0), (.int .i64 a1)]) Try.func70 rfl rfl rfl ?_
  have hL := Hp.start w0
  refine CW.seq ?_
  refine CW.regionL ?_
  refine OW.cons (OP.val (v := (.int .i64 0)) rfl (x_assign) ?_)
  refine OW.nil ?_
  refine CW.seq ?_
  refine CW.regionL ?_
  refine OW.cons (OP.val (v := (.int .i64 a0)) rfl (x_move) ?_)
  refine OW.cons (OP.val (v := (.int .i64 (w64 (0 - a0)))) rfl (x_neg rfl) ?_)
  refine OW.cons (OP.val (v := (.int .i64 a1)) rfl (x_move) ?_)
  obtain ⟨x1, hx2, hm⟩ := bndE hm
  refine OW.cons (OP.call rfl (x_call (vs := [(.int .i64 (w64 (0 - a0))), (.int .i64 a1)]) Try_C75 ⟨rfl, rfl, trivial⟩) (M.impl_floorDiv_ok _ (w64 (0 - a0)) a1 hx2) ?_)
  rintro e3 wd4 ⟨rfl, hF5⟩
  refine ⟨_, rfl, ?_⟩
  have hL := hL.pushAll hF5
  simp only [List.cons_append, List.nil_append, List.set_cons_zero, List.set_cons_succ] at hL
  refine OW.cons (OP.val (v := (.int .i64 (w64 (0 - x1)))) rfl (x_neg rfl) ?_)
  refine OW.cons (OP.val (v := (.int .i64 (w64 (0 - x1)))) rfl (x_assign) ?_)
  refine OW.nil ?_
  refine CW.ret ?_
  obtain rfl := Option.some.inj hm
  exact RR1 rfl rfl ⟨rfl, hL.fresh 0 rfl [] (by decide) (by decide) rfl⟩

theorem M.impl_curveTime_ok (w0 : World) (a0 : List CurvePoint) {v1 : Value} (h2 : rdL (· < w0.heap.size) w0 v1 a0) (a1 : Int) (a2 : Int) {r : Int} (hm : M.impl_curveTime a0 a1 a2 = some r) :
    Calls Try.prog 51 #[v1, (.int .i64 a1), (.int .i64 a2)] w0 fun e w' => e = .returned (.int .i64 r) ∧ Fresh w0 w' [] := by
  unfold M.impl_curveTime at hm
  refine calls_CW (args := [v1, (.int .i64 a1), (.int .i64 a2)]) Try.func51 rfl rfl rfl ?_
  have hL := Hp.start w0
  refine CW.seq ?_
  refine CW.regionL ?_
  refine OW.cons (OP.val (v := (.int .i64 0)) rfl (x_assign) ?_)
  refine OW.nil ?_
  refine CW.seq ?_
  refine CW.regionL ?_
  refine OW.cons (OP.val (v := v1) rfl (x_move) ?_)
  refine OW.cons (OP.val (v := (.int .i64 a1)) rfl (x_move) ?_)
  obtain ⟨x3, hx4, hm⟩ := bndE hm
  refine OW.cons (OP.call rfl (x_call (vs := [v1, (.int .i64 a1)]) Try_C57 ⟨rfl, rfl, trivial⟩) (M.impl_paceAt_ok _ a0 (hL.rdS 0 rfl h2) a1 hx4) ?_)
  rintro e5 wd6 ⟨rfl, hF7⟩
  refine ⟨_, rfl, ?_⟩
  have hL := hL.pushAll hF7
  simp only [List.cons_append, List.nil_append, List.set_cons_zero, List.set_cons_succ] at hL
  refine OW.cons (OP.val (v := (.int .i64 a2)) rfl (x_move) ?_)
  refine OW.cons (OP.val (v := (.int .i64 (w64 (x3 * a2)))) rfl (x_mul rfl rfl) ?_)
  obtain ⟨x8, hx9, hm⟩ := bndE hm
  refine OW.cons (OP.call rfl (x_call (vs := [(.int .i64 (w64 (x3 * a2))), (.int .i64 10000)]) Try_C70 ⟨rfl, rfl, trivial⟩) (M.impl_ceilDiv_ok _ (w64 (x3 * a2)) 10000 hx9) ?_)
  rintro e10 wd11 ⟨rfl, hF12⟩
  refine ⟨_, rfl, ?_⟩
  have hL := hL.pushAll hF12
  simp only [List.cons_append, List.nil_append, List.set_cons_zero, List.set_cons_succ] at hL
  refine OW.cons (OP.val (v := (.int .i64 x8)) rfl (x_assign) ?_)
  refine OW.nil ?_
  refine CW.ret ?_
  obtain rfl := Option.some.inj hm
  exact RR1 rfl rfl ⟨rfl, hL.fresh 0 rfl [] (by decide) (by decide) rfl⟩

theorem M.impl_impliedWind_ok (w0 : World) (a0 : List CurvePoint) {v1 : Value} (h2 : rdL (· < w0.heap.size) w0 v1 a0) (a1 : Int) (a2 : Int) {r : Int} (hm : M.impl_impliedWind a0 a1 a2 = some r) :
    Calls Try.prog 43 #[v1, (.int .i64 a1), (.int .i64 a2)] w0 fun e w' => e = .returned (.int .i64 r) ∧ Fresh w0 w' [] := by
  unfold M.impl_impliedWind at hm
  refine calls_CW (args := [v1, (.int .i64 a1), (.int .i64 a2)]) Try.func43 rfl rfl rfl ?_
  have hL := Hp.start w0
  refine CW.seq ?_
  refine CW.regionL ?_
  refine OW.cons (OP.val (v := (.int .i64 0)) rfl (x_assign) ?_)
  refine OW.nil ?_
  refine CW.seq ?_
  refine CW.seq ?_
  refine CW.regionL ?_
  refine OW.cons (OP.val (v := (.int .i64 0)) rfl (x_move) ?_)
  refine OW.nil ?_
  obtain ⟨o19, ho20, hm⟩ := bndE hm
  refine CW.loopB (fun (s_l1 : Int) (F : Fr) (w : World) => F 0 = v1 ∧ F 1 = (.int .i64 a1) ∧ F 2 = (.int .i64 a2) ∧ F 8 = (.int .i64 s_l1) ∧ Hp w0 [Ent.snap w0 w0.heap.size] w) (fun o => outc o (fun x => some x) (fun s => M.impl_impliedWind_a1 s) = some r) ho20 hm ⟨rfl, rfl, rfl, rfl, hL⟩ ?_ ?_
  · intro s_l1 F21 wd22 hJ hm
    have hm : M.impl_impliedWind_a1 s_l1 = some r := hm
    unfold M.impl_impliedWind_a1 at hm
    obtain ⟨f23, f24, f25, f26, hL⟩ := hJ
    refine CW.seq ?_
    refine CW.regionL ?_
    refine OW.cons (OP.val (v := (.int .i64 (-1))) rfl (x_assign) ?_)
    refine OW.nil ?_
    refine CW.ret ?_
    obtain rfl := Option.some.inj hm
    exact RR1 rfl rfl ⟨rfl, hL.fresh 0 rfl [] (by decide) (by decide) rfl⟩
  · intro s_l1 F27 wd28 t17 hJ hm hr18
    unfold M.impl_impliedWind_l1 at hm
    obtain ⟨f29, f30, f31, f32, hL⟩ := hJ
    refine CW.seq ?_
    refine CW.regionL ?_
    refine OW.cons (OP.val (v := (.bool (decide (s_l1 < 1001)))) rfl (x_lss f32 rfl) ?_)
    refine OW.nil ?_
    refine CW.seq ?_
    refine CW.condM (t := decide (s_l1 < 1001)) rfl hm (fun hb33 hm => ?_) (fun hb33 hm => ?_)
    · refine CW.skip ?_
      refine CW.seq ?_
      refine CW.block ?_
      refine CW.seq ?_
      refine CW.regionL ?_
      refine OW.cons (OP.val (v := (.int .i64 s_l1)) rfl (x_mv f32) ?_)
      refine OW.cons (OP.val (v := (.int .i64 s_l1)) rfl (x_assign) ?_)
      refine OW.nil ?_
      refine CW.seq ?_
      refine CW.regionL ?_
      refine OW.cons (OP.val (v := v1) rfl (x_mv f29) ?_)
      refine OW.cons (OP.val (v := (.int .i64 s_l1)) rfl (x_move) ?_)
      refine OW.cons (OP.val (v := (.int .i64 a2)) rfl (x_mv f31) ?_)
      obtain ⟨x34, hx35, hm⟩ := bndE hm
      refine OW.cons (OP.call rfl (x_call (vs := [v1, (.int .i64 s_l1), (.int .i64 a2)]) Try_C51 ⟨rfl, rfl, rfl, trivial⟩) (M.impl_curveTime_ok _ a0 (hL.rdS 0 rfl h2) s_l1 a2 hx35) ?_)
      rintro e36 wd37 ⟨rfl, hF38⟩
      refine ⟨_, rfl, ?_⟩
      have hL := hL.pushAll hF38
      simp only [List.cons_append, List.nil_append, List.set_cons_zero, List.set_cons_succ] at hL
      refine OW.cons (OP.val (v := (.int .i64 a1)) rfl (x_mv f30) ?_)
      refine OW.cons (OP.val (v := (.bool (decide (x34 ≤ a1)))) rfl (x_leq rfl rfl) ?_)
      refine OW.nil ?_
      refine CW.condM (t := decide (x34 ≤ a1)) rfl hm (fun hb39 hm => ?_) (fun hb39 hm => ?_)
      · refine CW.seq ?_
        refine CW.regionL ?_
        refine OW.cons (OP.val (v := (.int .i64 s_l1)) rfl (x_move) ?_)
        refine OW.cons (OP.val (v := (.int .i64 s_l1)) rfl (x_assign) ?_)
        refine OW.nil ?_
        refine CW.ret ?_
        obtain rfl := Option.some.inj hm
        have hm := hr18 _ rfl
        obtain rfl := Option.some.inj hm
        exact RR1 rfl rfl ⟨rfl, hL.fresh 0 rfl [] (by decide) (by decide) rfl⟩
      · refine CW.skip ?_
        refine CW.regionL ?_
        refine OW.cons (OP.val (v := (.int .i64 (w64 (s_l1 + 1)))) rfl (x_add f32 rfl) ?_)
        refine OW.cons (OP.val (v := (.int .i64 (w64 (s_l1 + 1)))) rfl (x_move) ?_)
        refine OW.nil ?_
        obtain rfl := Option.some.inj hm
        exact ⟨_, rfl, ⟨f29, f30, f31, rfl, hL⟩⟩
    · refine CW.exit ?_
      refine XJ.hit ?_
      obtain rfl := Option.some.inj hm
      exact ⟨_, rfl, ⟨f29, f30, f31, f32, hL⟩⟩

theorem M.impl_ImpliedWind_ok (w0 : World) (a0 : List CurvePoint) {v1 : Value} (h2 : rdL (· < w0.heap.size) w0 v1 a0) (a1 : Int) (a2 : Int) {r : Int × Int} (hm : M.impl_ImpliedWind a0 a1 a2 = some r) :
    Calls Try.prog 12 #[v1, (.int .i64 a1), (.int .i64 a2)] w0 fun e w' => e = .returned (.tuple #[(.int .i64 r.1), (.int .i64 r.2)]) ∧ Fresh w0 w' [] := by
  unfold M.impl_ImpliedWind at hm
  refine calls_CW (args := [v1, (.int .i64 a1), (.int .i64 a2)]) Try.func12 rfl rfl rfl ?_
  have hL := Hp.start w0
  refine CW.seq ?_
  refine CW.regionL ?_
  refine OW.cons (OP.val (v := (.int .i64 0)) rfl (x_assign) ?_)
  refine OW.cons (OP.val (v := (.int .i64 0)) rfl (x_assign) ?_)
  refine OW.nil ?_
  refine CW.seq ?_
  refine CW.seq ?_
  refine CW.regionL ?_
  refine OW.cons (OP.val (v := v1) rfl (x_move) ?_)
  obtain ⟨x3, hx4, hm⟩ := bndE hm
  refine OW.cons (OP.call rfl (x_call (vs := [v1]) Try_C40 ⟨rfl, trivial⟩) (M.impl_IsCurve_ok _ a0 (hL.rdS 0 rfl h2) hx4) ?_)
  rintro e5 wd6 ⟨rfl, hF7⟩
  refine ⟨_, rfl, ?_⟩
  have hL := hL.pushAll hF7
  simp only [List.cons_append, List.nil_append, List.set_cons_zero, List.set_cons_succ] at hL
  refine OW.cons (OP.val (v := (.bool (!x3))) rfl (x_not rfl) ?_)
  refine OW.nil ?_
  refine CW.condM (t := !x3) rfl hm (fun hb8 hm => ?_) (fun hb8 hm => ?_)
  · refine CW.seq ?_
    refine CW.regionL ?_
    refine OW.cons (OP.val (v := (.int .i64 0)) rfl (x_assign) ?_)
    refine OW.cons (OP.val (v := (.int .i64 1)) rfl (x_assign) ?_)
    refine OW.nil ?_
    refine CW.ret ?_
    obtain rfl := Option.some.inj hm
    exact RR2 rfl rfl rfl ⟨rfl, hL.fresh 0 rfl [] (by decide) (by decide) rfl⟩
  · refine CW.skip ?_
    refine CW.seq ?_
    refine CW.seqJ (fun (s_j1 : Bool) (F : Fr) (w : World) => F 0 = v1 ∧ F 1 = (.int .i64 a1) ∧ F 2 = (.int .i64 a2) ∧ F 19 = (.bool s_j1) ∧ Hp w0 [Ent.snap w0 w0.heap.size] w) (fun s_j1 => M.impl_ImpliedWind_j1 a0 a1 a2 s_j1 = some r) ?_ ?_
    · refine CW.regionL ?_
      refine OW.cons (OP.val (v := (.int .i64 a1)) rfl (x_move) ?_)
      obtain ⟨x33, hx34, hm⟩ := bndE hm
      refine OW.cons (OP.call rfl (x_call (vs := [(.int .i64 a1)]) Try_C41 ⟨rfl, trivial⟩) (M.impl_isElapsed_ok _ a1 hx34) ?_)
      rintro e35 wd36 ⟨rfl, hF37⟩
      refine ⟨_, rfl, ?_⟩
      have hL := hL.pushAll hF37
      simp only [List.cons_append, List.nil_append, List.set_cons_zero, List.set_cons_succ] at hL
      refine OW.cons (OP.val (v := (.bool (!x33))) rfl (x_not rfl) ?_)
      refine OW.cons (OP.val (v := (.bool (!x33))) rfl (x_move) ?_)
      refine ifB_elim hm (fun hb38 hm => ?_) (fun hb38 hm => ?_)
      · refine OW.cons (OP.no' rfl rfl hb38 rfl ?_)
        refine OW.cons (OP.no' rfl rfl hb38 rfl ?_)
        refine OW.cons (OP.no' rfl rfl hb38 rfl ?_)
        refine OW.cons (OP.val (v := (.bool true)) rfl (x_pickT' rfl hb38 rfl) ?_)
        refine OW.nil ?_
        exact ⟨true, hm, ⟨rfl, rfl, rfl, rfl, hL⟩⟩
      · refine OW.cons (OP.yes' rfl rfl hb38 (OP.val (v := (.int .i64 a2)) rfl (x_move) ?_))
        obtain ⟨x39, hx40, hm⟩ := bndE hm
        refine OW.cons (OP.yes' rfl rfl hb38 (OP.call rfl (x_call (vs := [(.int .i64 a2)]) Try_C42 ⟨rfl, trivial⟩) (M.impl_isDistance_ok _ a2 hx40) ?_))
        rintro e41 wd42 ⟨rfl, hF43⟩
        refine ⟨_, rfl, ?_⟩
        have hL := hL.pushAll hF43
        simp only [List.cons_append, List.nil_append, List.set_cons_zero, List.set_cons_succ] at hL
        refine OW.cons (OP.yes' rfl rfl hb38 (OP.val (v := (.bool (!x39))) rfl (x_not rfl) ?_))
        refine OW.cons (OP.val (v := (.bool (!x39))) rfl (x_pickF' rfl hb38 rfl) ?_)
        refine OW.nil ?_
        exact ⟨!x39, hm, ⟨rfl, rfl, rfl, rfl, hL⟩⟩
    · intro s_j1 F20 wd21 hJ hm
      unfold M.impl_ImpliedWind_j1 at hm
      obtain ⟨f22, f23, f24, f25, hL⟩ := hJ
      refine CW.condM (t := s_j1) f25 hm (fun hb26 hm => ?_) (fun hb26 hm => ?_)
      · refine CW.seq ?_
        refine CW.regionL ?_
        refine OW.cons (OP.val (v := (.int .i64 0)) rfl (x_assign) ?_)
        refine OW.cons (OP.val (v := (.int .i64 2)) rfl (x_assign) ?_)
        refine OW.nil ?_
        refine CW.ret ?_
        obtain rfl := Option.some.inj hm
        exact RR2 rfl rfl rfl ⟨rfl, hL.fresh 0 rfl [] (by decide) (by decide) rfl⟩
      · refine CW.skip ?_
        refine CW.seq ?_
        refine CW.regionL ?_
        refine OW.cons (OP.val (v := v1) rfl (x_mv f22) ?_)
        refine OW.cons (OP.val (v := (.int .i64 a1)) rfl (x_mv f23) ?_)
        refine OW.cons (OP.val (v := (.int .i64 a2)) rfl (x_mv f24) ?_)
        obtain ⟨x27, hx28, hm⟩ := bndE hm
        refine OW.cons (OP.call rfl (x_call (vs := [v1, (.int .i64 a1), (.int .i64 a2)]) Try_C43 ⟨rfl, rfl, rfl, trivial⟩) (M.impl_impliedWind_ok _ a0 (hL.rdS 0 rfl h2) a1 a2 hx28) ?_)
        rintro e29 wd30 ⟨rfl, hF31⟩
        refine ⟨_, rfl, ?_⟩
        have hL := hL.pushAll hF31
        simp only [List.cons_append, List.nil_append, List.set_cons_zero, List.set_cons_succ] at hL
        refine OW.cons (OP.val (v := (.int .i64 x27)) rfl (x_assign) ?_)
        refine OW.nil ?_
        refine CW.seq ?_
        refine CW.seq ?_
        refine CW.regionL ?_
        refine OW.cons (OP.val (v := (.int .i64 x27)) rfl (x_move) ?_)
        refine OW.cons (OP.val (v := (.bool (decide (x27 < 0)))) rfl (x_lss rfl rfl) ?_)
        refine OW.nil ?_
        refine CW.condM (t := decide (x27 < 0)) rfl hm (fun hb32 hm => ?_) (fun hb32 hm => ?_)
        · refine CW.seq ?_
          refine CW.regionL ?_
          refine OW.cons (OP.val (v := (.int .i64 0)) rfl (x_assign) ?_)
          refine OW.cons (OP.val (v := (.int .i64 4)) rfl (x_assign) ?_)
          refine OW.nil ?_
          refine CW.ret ?_
          obtain rfl := Option.some.inj hm
          exact RR2 rfl rfl rfl ⟨rfl, hL.fresh 0 rfl [] (by decide) (by decide) rfl⟩
        · refine CW.skip ?_
          refine CW.seq ?_
          refine CW.regionL ?_
          refine OW.cons (OP.val (v := (.int .i64 x27)) rfl (x_move) ?_)
          refine OW.cons (OP.val (v := (.int .i64 x27)) rfl (x_assign) ?_)
          refine OW.cons (OP.val (v := (.int .i64 0)) rfl (x_assign) ?_)
          refine OW.nil ?_
          refine CW.ret ?_
          obtain rfl := Option.some.inj hm
          exact RR2 rfl rfl rfl ⟨rfl, hL.fresh 0 rfl [] (by decide) (by decide) rfl⟩

theorem M.impl_curveCorrected_ok (w0 : World) (a0 : List CurvePoint) {v1 : Value} (h2 : rdL (· < w0.heap.size) w0 v1 a0) (a1 : List CurvePoint) {v3 : Value} (h4 : rdL (· < w0.heap.size) w0 v3 a1) (a2 : Int) (a3 : Int) {r : Int} (hm : M.impl_curveCorrected a0 a1 a2 a3 = some r) :
    Calls Try.prog 46 #[v1, v3, (.int .i64 a2), (.int .i64 a3)] w0 fun e w' => e = .returned (.int .i64 r) ∧ Fresh w0 w' [] := by
  unfold M.impl_curveCorrected at hm
  refine calls_CW (args := [v1, v3, (.int .i64 a2), (.int .i64 a3)]) Try.func46 rfl rfl rfl ?_
  have hL := Hp.start w0
  refine CW.seq ?_
  refine CW.regionL ?_
  refine OW.cons (OP.val (v := (.int .i64 0)) rfl (x_assign) ?_)
  refine OW.nil ?_
  refine CW.seq ?_
  refine CW.regionL ?_
  refine OW.cons (OP.val (v := v1) rfl (x_move) ?_)
  refine OW.cons (OP.val (v := (.int .i64 a2)) rfl (x_move) ?_)
  refine OW.cons (OP.val (v := (.int .i64 a3)) rfl (x_move) ?_)
  obtain ⟨x5, hx6, hm⟩ := bndE hm
  refine OW.cons (OP.call rfl (x_call (vs := [v1, (.int .i64 a2), (.int .i64 a3)]) Try_C43 ⟨rfl, rfl, rfl, trivial⟩) (M.impl_impliedWind_ok _ a0 (hL.rdS 0 rfl h2) a2 a3 hx6) ?_)
  rintro e7 wd8 ⟨rfl, hF9⟩
  refine ⟨_, rfl, ?_⟩
  have hL := hL.pushAll hF9
  simp only [List.cons_append, List.nil_append, List.set_cons_zero, List.set_cons_succ] at hL
  refine OW.cons (OP.val (v := (.int .i64 x5)) rfl (x_assign) ?_)
  refine OW.nil ?_
  refine CW.seq ?_
  refine CW.seq ?_
  refine CW.regionL ?_
  refine OW.cons (OP.val (v := (.int .i64 x5)) rfl (x_move) ?_)
  refine OW.cons (OP.val (v := (.bool (decide (x5 < 0)))) rfl (x_lss rfl rfl) ?_)
  refine OW.nil ?_
  refine CW.condM (t := decide (x5 < 0)) rfl hm (fun hb10 hm => ?_) (fun hb10 hm => ?_)
  · refine CW.seq ?_
    refine CW.regionL ?_
    refine OW.cons (OP.val (v := (.int .i64 a2)) rfl (x_move) ?_)
    refine OW.cons (OP.val (v := (.int .i64 a2)) rfl (x_assign) ?_)
    refine OW.nil ?_
    refine CW.ret ?_
    obtain rfl := Option.some.inj hm
    exact RR1 rfl rfl ⟨rfl, hL.fresh 0 rfl [] (by decide) (by decide) rfl⟩
  · refine CW.skip ?_
    refine CW.seq ?_
    refine CW.regionL ?_
    refine OW.cons (OP.val (v := v3) rfl (x_move) ?_)
    refine OW.cons (OP.val (v := (.int .i64 x5)) rfl (x_move) ?_)
    refine OW.cons (OP.val (v := (.int .i64 a3)) rfl (x_move) ?_)
    obtain ⟨x11, hx12, hm⟩ := bndE hm
    refine OW.cons (OP.call rfl (x_call (vs := [v3, (.int .i64 x5), (.int .i64 a3)]) Try_C51 ⟨rfl, rfl, rfl, trivial⟩) (M.impl_curveTime_ok _ a1 (hL.rdS 0 rfl h4) x5 a3 hx12) ?_)
    rintro e13 wd14 ⟨rfl, hF15⟩
    refine ⟨_, rfl, ?_⟩
    have hL := hL.pushAll hF15
    simp only [List.cons_append, List.nil_append, List.set_cons_zero, List.set_cons_succ] at hL
    refine OW.cons (OP.val (v := (.int .i64 x11)) rfl (x_assign) ?_)
    refine OW.nil ?_
    refine CW.ret ?_
    obtain rfl := Option.some.inj hm
    exact RR1 rfl rfl ⟨rfl, hL.fresh 0 rfl [] (by decide) (by decide) rfl⟩

theorem M.impl_CurveCorrected_ok (w0 : World) (a0 : List CurvePoint) {v1 : Value} (h2 : rdL (· < w0.heap.size) w0 v1 a0) (a1 : List CurvePoint) {v3 : Value} (h4 : rdL (· < w0.heap.size) w0 v3 a1) (a2 : Int) (a3 : Int) {r : Int × Int} (hm : M.impl_CurveCorrected a0 a1 a2 a3 = some r) :
    Calls Try.prog 15 #[v1, v3, (.int .i64 a2), (.int .i64 a3)] w0 fun e w' => e = .returned (.tuple #[(.int .i64 r.1), (.int .i64 r.2)]) ∧ Fresh w0 w' [] := by
  unfold M.impl_CurveCorrected at hm
  refine calls_CW (args := [v1, v3, (.int .i64 a2), (.int .i64 a3)]) Try.func15 rfl rfl rfl ?_
  have hL := Hp.start w0
  refine CW.seq ?_
  refine CW.regionL ?_
  refine OW.cons (OP.val (v := (.int .i64 0)) rfl (x_assign) ?_)
  refine OW.cons (OP.val (v := (.int .i64 0)) rfl (x_assign) ?_)
  refine OW.nil ?_
  refine CW.seq ?_
  refine CW.seqJ (fun (s_j1 : Bool) (F : Fr) (w : World) => F 0 = v1 ∧ F 1 = v3 ∧ F 2 = (.int .i64 a2) ∧ F 3 = (.int .i64 a3) ∧ F 17 = (.bool s_j1) ∧ Hp w0 [Ent.snap w0 w0.heap.size] w) (fun s_j1 => M.impl_CurveCorrected_j1 a0 a1 a2 a3 s_j1 = some r) ?_ ?_
  · refine CW.regionL ?_
    refine OW.cons (OP.val (v := v1) rfl (x_move) ?_)
    obtain ⟨x59, hx60, hm⟩ := bndE hm
    refine OW.cons (OP.call rfl (x_call (vs := [v1]) Try_C40 ⟨rfl, trivial⟩) (M.impl_IsCurve_ok _ a0 (hL.rdS 0 rfl h2) hx60) ?_)
    rintro e61 wd62 ⟨rfl, hF63⟩
    refine ⟨_, rfl, ?_⟩
    have hL := hL.pushAll hF63
    simp only [List.cons_append, List.nil_append, List.set_cons_zero, List.set_cons_succ] at hL
    refine OW.cons (OP.val (v := (.bool (!x59))) rfl (x_not rfl) ?_)
    refine OW.cons (OP.val (v := (.bool (!x59))) rfl (x_move) ?_)
    refine ifB_elim hm (fun hb64 hm => ?_) (fun hb64 hm => ?_)
    · refine OW.cons (OP.no' rfl rfl hb64 rfl ?_)
      refine OW.cons (OP.no' rfl rfl hb64 rfl ?_)
      refine OW.cons (OP.no' rfl rfl hb64 rfl ?_)
      refine OW.cons (OP.val (v := (.bool true)) rfl (x_pickT' rfl hb64 rfl) ?_)
      refine OW.nil ?_
      exact ⟨true, hm, ⟨rfl, rfl, rfl, rfl, rfl, hL⟩⟩
    · refine OW.cons (OP.yes' rfl rfl hb64 (OP.val (v := v3) rfl (x_move) ?_))
      obtain ⟨x65, hx66, hm⟩ := bndE hm
      refine OW.cons (OP.yes' rfl rfl hb64 (OP.call rfl (x_call (vs := [v3]) Try_C40 ⟨rfl, trivial⟩) (M.impl_IsCurve_ok _ a1 (hL.rdS 0 rfl h4) hx66) ?_))
      rintro e67 wd68 ⟨rfl, hF69⟩
      refine ⟨_, rfl, ?_⟩
      have hL := hL.pushAll hF69
      simp only [List.cons_append, List.nil_append, List.set_cons_zero, List.set_cons_succ] at hL
      refine OW.cons (OP.yes' rfl rfl hb64 (OP.val (v := (.bool (!x65))) rfl (x_not rfl) ?_))
      refine OW.cons (OP.val (v := (.bool (!x65))) rfl (x_pickF' rfl hb64 rfl) ?_)
      refine OW.nil ?_
      exact ⟨!x65, hm, ⟨rfl, rfl, rfl, rfl, rfl, hL⟩⟩
  · intro s_j1 F16 wd17 hJ hm
    unfold M.impl_CurveCorrected_j1 at hm
    obtain ⟨f18, f19, f20, f21, f22, hL⟩ := hJ
    refine CW.condM (t := s_j1) f22 hm (fun hb23 hm => ?_) (fun hb23 hm => ?_)
    · refine CW.seq ?_
      refine CW.regionL ?_
      refine OW.cons (OP.val (v := (.int .i64 0)) rfl (x_assign) ?_)
      refine OW.cons (OP.val (v := (.int .i64 1)) rfl (x_assign) ?_)
      refine OW.nil ?_
      refine CW.ret ?_
      obtain rfl := Option.some.inj hm
      exact RR2 rfl rfl rfl ⟨rfl, hL.fresh 0 rfl [] (by decide) (by decide) rfl⟩
    · refine CW.skip ?_
      refine CW.seq ?_
      refine CW.seqJ (fun (s_j2 : Bool) (F : Fr) (w : World) => F 0 = v1 ∧ F 1 = v3 ∧ F 2 = (.int .i64 a2) ∧ F 3 = (.int .i64 a3) ∧ F 25 = (.bool s_j2) ∧ Hp w0 [Ent.snap w0 w0.heap.size] w) (fun s_j2 => M.impl_CurveCorrected_j2 a0 a1 a2 a3 s_j2 = some r) ?_ ?_
      · refine CW.regionL ?_
        refine OW.cons (OP.val (v := (.int .i64 a2)) rfl (x_mv f20) ?_)
        obtain ⟨x48, hx49, hm⟩ := bndE hm
        refine OW.cons (OP.call rfl (x_call (vs := [(.int .i64 a2)]) Try_C41 ⟨rfl, trivial⟩) (M.impl_isElapsed_ok _ a2 hx49) ?_)
        rintro e50 wd51 ⟨rfl, hF52⟩
        refine ⟨_, rfl, ?_⟩
        have hL := hL.pushAll hF52
        simp only [List.cons_append, List.nil_append, List.set_cons_zero, List.set_cons_succ] at hL
        refine OW.cons (OP.val (v := (.bool (!x48))) rfl (x_not rfl) ?_)
        refine OW.cons (OP.val (v := (.bool (!x48))) rfl (x_move) ?_)
        refine ifB_elim hm (fun hb53 hm => ?_) (fun hb53 hm => ?_)
        · refine OW.cons (OP.no' rfl rfl hb53 rfl ?_)
          refine OW.cons (OP.no' rfl rfl hb53 rfl ?_)
          refine OW.cons (OP.no' rfl rfl hb53 rfl ?_)
          refine OW.cons (OP.val (v := (.bool true)) rfl (x_pickT' rfl hb53 rfl) ?_)
          refine OW.nil ?_
          exact ⟨true, hm, ⟨f18, f19, f20, f21, rfl, hL⟩⟩
        · refine OW.cons (OP.yes' rfl rfl hb53 (OP.val (v := (.int .i64 a3)) rfl (x_mv f21) ?_))
          obtain ⟨x54, hx55, hm⟩ := bndE hm
          refine OW.cons (OP.yes' rfl rfl hb53 (OP.call rfl (x_call (vs := [(.int .i64 a3)]) Try_C42 ⟨rfl, trivial⟩) (M.impl_isDistance_ok _ a3 hx55) ?_))
          rintro e56 wd57 ⟨rfl, hF58⟩
          refine ⟨_, rfl, ?_⟩
          have hL := hL.pushAll hF58
          simp only [List.cons_append, List.nil_append, List.set_cons_zero, List.set_cons_succ] at hL
          refine OW.cons (OP.yes' rfl rfl hb53 (OP.val (v := (.bool (!x54))) rfl (x_not rfl) ?_))
          refine OW.cons (OP.val (v := (.bool (!x54))) rfl (x_pickF' rfl hb53 rfl) ?_)
          refine OW.nil ?_
          exact ⟨!x54, hm, ⟨f18, f19, f20, f21, rfl, hL⟩⟩
      · intro s_j2 F35 wd36 hJ hm
        unfold M.impl_CurveCorrected_j2 at hm
        obtain ⟨f37, f38, f39, f40, f41, hL⟩ := hJ
        refine CW.condM (t := s_j2) f41 hm (fun hb42 hm => ?_) (fun hb42 hm => ?_)
        · refine CW.seq ?_
          refine CW.regionL ?_
          refine OW.cons (OP.val (v := (.int .i64 0)) rfl (x_assign) ?_)
          refine OW.cons (OP.val (v := (.int .i64 2)) rfl (x_assign) ?_)
          refine OW.nil ?_
          refine CW.ret ?_
          obtain rfl := Option.some.inj hm
          exact RR2 rfl rfl rfl ⟨rfl, hL.fresh 0 rfl [] (by decide) (by decide) rfl⟩
        · refine CW.skip ?_
          refine CW.seq ?_
          refine CW.regionL ?_
          refine OW.cons (OP.val (v := v1) rfl (x_mv f37) ?_)
          refine OW.cons (OP.val (v := v3) rfl (x_mv f38) ?_)
          refine OW.cons (OP.val (v := (.int .i64 a2)) rfl (x_mv f39) ?_)
          refine OW.cons (OP.val (v := (.int .i64 a3)) rfl (x_mv f40) ?_)
          obtain ⟨x43, hx44, hm⟩ := bndE hm
          refine OW.cons (OP.call rfl (x_call (vs := [v1, v3, (.int .i64 a2), (.int .i64 a3)]) Try_C46 ⟨rfl, rfl, rfl, rfl, trivial⟩) (M.impl_curveCorrected_ok _ a0 (hL.rdS 0 rfl h2) a1 (hL.rdS 0 rfl h4) a2 a3 hx44) ?_)
          rintro e45 wd46 ⟨rfl, hF47⟩
          refine ⟨_, rfl, ?_⟩
          have hL := hL.pushAll hF47
          simp only [List.cons_append, List.nil_append, List.set_cons_zero, List.set_cons_succ] at hL
          refine OW.cons (OP.val (v := (.int .i64 x43)) rfl (x_assign) ?_)
          refine OW.cons (OP.val (v := (.int .i64 0)) rfl (x_assign) ?_)
          refine OW.nil ?_
          refine CW.ret ?_
          obtain rfl := Option.some.inj hm
          exact RR2 rfl rfl rfl ⟨rfl, hL.fresh 0 rfl [] (by decide) (by decide) rfl⟩

theorem M.laws_big_ok (w0 : World) (a0 : List UInt8) {v1 : Value} (h2 : rdL (· < w0.heap.size) w0 v1 a0) {r : Bool} (hm : M.laws_big a0 = some r) :
    Calls Try.prog 16 #[v1] w0 fun e w' => e = .returned (.bool r) ∧ Fresh w0 w' [] := by
  unfold M.laws_big at hm
  refine calls_CW (args := [v1]) Try.func16 rfl rfl rfl ?_
  have hL := Hp.start w0
  refine CW.seq ?_
  refine CW.regionL ?_
  refine OW.cons (OP.val (v := (.bool false)) rfl (x_assign) ?_)
  refine OW.nil ?_
  refine CW.seq ?_
  refine CW.regionL ?_
  refine OW.cons (OP.val (v := v1) rfl (x_move) ?_)
  refine OW.cons (OP.val (v := (.int .i64 (a0.length : Int))) rfl (x_lenR Try.underlying32 rfl (hL.rdS 0 rfl h2)) ?_)
  refine OW.cons (OP.val (v := (.bool (decide (4096 < (a0.length : Int))))) rfl (x_gtr rfl rfl) ?_)
  refine OW.cons (OP.val (v := (.bool (decide (4096 < (a0.length : Int))))) rfl (x_assign) ?_)
  refine OW.nil ?_
  refine CW.ret ?_
  obtain rfl := Option.some.inj hm
  exact RR1 rfl rfl ⟨rfl, hL.fresh 0 rfl [] (by decide) (by decide) rfl⟩

theorem M.spec_l01From_ok (w0 : World) (a0 : List UInt8) {v1 : Value} (h2 : rdL (· < w0.heap.size) w0 v1 a0) {r : (Int × Int)} (hm : M.spec_l01From a0 = some r) :
    Calls Try.prog 47 #[v1] w0 fun e w' => ∃ rb : Nat, e = .returned (.pointer (some ⟨rb, 0, none⟩)) ∧ Fresh w0 w' [Ent.blk rb 90 #[v1, .int .i64 r.1, .int .i64 r.2]] := by
  unfold M.spec_l01From at hm
  refine calls_CW (args := [v1]) Try.func47 rfl rfl rfl ?_
  have hL := Hp.start w0
  refine CW.seq ?_
  refine CW.regionL ?_
  refine OW.cons (OP.val (v := (.pointer none)) rfl (x_assign) ?_)
  refine OW.nil ?_
  refine CW.seq ?_
  refine CW.regionL ?_
  refine OW.cons (OP.val (v := v1) rfl (x_move) ?_)
  refine OW.cons (OP.val (v := (.agg #[v1, (.int .i64 0), (.int .i64 61657)])) rfl (x_build Try_B90 (ps := [(0, v1), (2, (.int .i64 61657))]) ⟨⟨rfl, rfl⟩, ⟨rfl, rfl⟩, trivial⟩ (by simp [Instr.fill, cells_int, cells_bool, cells_string, cells_agg, cells_slice, cells_pointer, (rdL_cells (hL.rdS 0 rfl h2))])) ?_)
  refine OW.cons (S_box (cs := #[v1, (.int .i64 0), (.int .i64 61657)]) hL rfl rfl rfl ?_)
  intro wd3 b4 hL
  refine OW.cons (OP.val (v := (.pointer (some ⟨b4, 0, none⟩))) rfl (x_assign) ?_)
  refine OW.nil ?_
  refine CW.seq ?_
  refine CW.seq ?_
  refine CW.regionL ?_
  refine OW.cons (OP.val (v := (.int .i64 0)) rfl (x_assign) ?_)
  refine OW.nil ?_
  obtain ⟨o53, ho54, hm⟩ := bndE hm
  refine CW.loopB (fun (s_l1 : Int × Int) (F : Fr) (w : World) => F 0 = v1 ∧ F 3 = (.pointer (some ⟨b4, 0, none⟩)) ∧ F 4 = (.int .i64 s_l1.2) ∧ Hp w0 [Ent.blk b4 90 #[v1, (.int .i64 0), (.int .i64 s_l1.1)], Ent.snap w0 w0.heap.size] w) (fun o => outc o (fun x => some x) (fun s => M.spec_l01From_a1 s) = some r) ho54 hm ⟨rfl, rfl, rfl, hL⟩ ?_ ?_
  · intro s_l1 F55 wd56 hJ hm
    have hm : M.spec_l01From_a1 s_l1 = some r := hm
    unfold M.spec_l01From_a1 at hm
    obtain ⟨f57, f58, f59, hL⟩ := hJ
    refine CW.seq ?_
    refine CW.regionL ?_
    refine OW.cons (OP.val (v := (.pointer (some ⟨b4, 0, none⟩))) rfl (x_mv f58) ?_)
    refine OW.cons (OP.val (v := (.pointer (some ⟨b4, 0, none⟩))) rfl (x_assign) ?_)
    refine OW.nil ?_
    refine CW.ret ?_
    obtain rfl := Option.some.inj hm
    exact RR1 rfl rfl ⟨b4, rfl, hL.fresh 1 rfl [0] (by decide) (by decide) rfl⟩
  · intro s_l1 F60 wd61 t51 hJ hm hr52
    unfold M.spec_l01From_l1 at hm
    obtain ⟨f62, f63, f64, hL⟩ := hJ
    refine CW.seq ?_
    refine CW.seqJ (fun (s_j1 : Bool) (F : Fr) (w : World) => F 0 = v1 ∧ F 3 = (.pointer (some ⟨b4, 0, none⟩)) ∧ F 4 = (.int .i64 s_l1.2) ∧ F 15 = (.bool s_j1) ∧ Hp w0 [Ent.blk b4 90 #[v1, (.int .i64 0), (.int .i64 s_l1.1)], Ent.snap w0 w0.heap.size] w) (fun s_j1 => M.spec_l01From_j1 a0 s_l1 s_j1 = some t51) ?_ ?_
    · refine CW.regionL ?_
      refine OW.cons (OP.val (v := (.int .i64 s_l1.2)) rfl (x_mv f64) ?_)
      refine OW.cons (OP.val (v := v1) rfl (x_mv f62) ?_)
      refine OW.cons (OP.val (v := (.int .i64 (a0.length : Int))) rfl (x_lenR Try.underlying32 rfl (hL.rdS 1 rfl h2)) ?_)
      refine OW.cons (OP.val (v := (.bool (decide (s_l1.2 < (a0.length : Int))))) rfl (x_lss rfl rfl) ?_)
      refine OW.cons (OP.val (v := (.bool (decide (s_l1.2 < (a0.length : Int))))) rfl (x_move) ?_)
      refine ifB_elim hm (fun hb87 hm => ?_) (fun hb87 hm => ?_)
      · refine OW.cons (OP.yes' rfl rfl hb87 (OP.val (v := (.int .i64 s_l1.2)) rfl (x_mv f64) ?_))
        refine OW.cons (OP.yes' rfl rfl hb87 (OP.val (v := (.bool (decide (s_l1.2 < 64)))) rfl (x_lss rfl rfl) ?_))
        refine OW.cons (OP.val (v := (.bool (decide (s_l1.2 < 64)))) rfl (x_pickT' rfl hb87 rfl) ?_)
        refine OW.nil ?_
        exact ⟨decide (s_l1.2 < 64), hm, ⟨f62, f63, f64, rfl, hL⟩⟩
      · refine OW.cons (OP.no' rfl rfl hb87 rfl ?_)
        refine OW.cons (OP.no' rfl rfl hb87 rfl ?_)
        refine OW.cons (OP.val (v := (.bool false)) rfl (x_pickF' rfl hb87 rfl) ?_)
        refine OW.nil ?_
        exact ⟨false, hm, ⟨f62, f63, f64, rfl, hL⟩⟩
    · intro s_j1 F66 wd67 hJ hm
      unfold M.spec_l01From_j1 at hm
      obtain ⟨f68, f69, f70, f71, hL⟩ := hJ
      refine CW.condM (t := s_j1) f71 hm (fun hb72 hm => ?_) (fun hb72 hm => ?_)
      · refine CW.skip ?_
        refine CW.seq ?_
        refine CW.block ?_
        refine CW.drawH (fun w' => Hp w0 [Ent.snap w0 w0.heap.size] w') Try_mixed ?_
        have hL := hL.call (Mod.drew _)
        have hS := (hL.sel [1] (by decide) rfl)
        refine DH.take 0 rfl (by kernel_rfl) (by kernel_rfl) (by kernel_rfl) rfl rfl hS (YH.val (v := (.pointer (some ⟨b4, 0, none⟩))) (fun w' hS' => x_mv f69)) ?_
        have hS := (hL.sel [1] (by decide) rfl)
        refine DH.take 1 rfl (by kernel_rfl) (by kernel_rfl) (by kernel_rfl) rfl rfl hS (YH.val (v := (.pointer (some ⟨b4, 0, none⟩))) (fun w' hS' => x_mv f69)) ?_
        have hS := (hL.sel [1] (by decide) rfl)
        refine DH.take 2 rfl (by kernel_rfl) (by kernel_rfl) (by kernel_rfl) rfl rfl hS (YH.val (v := (.pointer (some ⟨b4, 0, none⟩))) (fun w' hS' => x_nilCheck rfl)) ?_
        have hS := (hL.sel [1] (by decide) rfl)
        refine DH.take 3 rfl (by kernel_rfl) (by kernel_rfl) (by kernel_rfl) rfl rfl hS (YH.val (v := (.pointer (some ⟨b4, 2, none⟩))) (fun w' hS' => x_fieldAddr (fsz := 1) 0 2 2 Try.underlying90 rfl Try_T2 rfl rfl rfl)) ?_
        have hS := (hL.sel [1] (by decide) rfl)
        refine DH.take 6 rfl (by kernel_rfl) (by kernel_rfl) (by kernel_rfl) rfl rfl hS (YH.val (v := v1) (fun w' hS' => x_mv f68)) ?_
        have hS := (hL.sel [1] (by decide) rfl)
        refine DH.take 7 rfl (by kernel_rfl) (by kernel_rfl) (by kernel_rfl) rfl rfl hS (YH.val (v := (.int .i64 s_l1.2)) (fun w' hS' => x_mv f70)) ?_
        have hS := (hL.sel [1] (by decide) rfl)
        obtain ⟨x80, ha81, hm⟩ := bndE hm
        obtain ⟨hz82, ha81⟩ := idxE ha81
        obtain ⟨b83, q84, hix85⟩ := rdL_ix (hL.rdS 1 rfl h2) hz82 ha81
        refine DH.take 8 rfl (by kernel_rfl) (by kernel_rfl) (by kernel_rfl) rfl rfl hS (YH.val (v := (.pointer (some ⟨b83, q84, none⟩))) (fun w' hS' => x_ix Try.underlying32 Try_T5 rfl rfl hix85)) ?_
        have hS := (hL.sel [1] (by decide) rfl)
        refine DH.take 9 rfl (by kernel_rfl) (by kernel_rfl) (by kernel_rfl) rfl rfl hS (YH.val (v := (.int .u8 (x80.toNat : Int))) (fun w' hS' => x_load1 Try.underlying5 rfl rfl (rdF_cells (hS'.rdS 0 rfl h2) hix85 ha81 0 _ rfl))) ?_
        have hS := (hL.sel [1] (by decide) rfl)
        refine DH.take 10 rfl (by kernel_rfl) (by kernel_rfl) (by kernel_rfl) rfl rfl hS (YH.val (v := (.int .i64 (IntKind.i64.wrap (x80.toNat : Int)))) (fun w' hS' => x_conv Try.underlying5 Try.underlying2 rfl)) ?_
        refine DH.only 4 rfl (by kernel_rfl) (OP.val (v := (.int .i64 s_l1.1)) rfl (x_load1 Try.underlying2 rfl rfl (hL.cellB 0 rfl rfl)) ?_)
        refine ⟨(hL.sel [1] (by decide) rfl), ?_⟩
        have hS := (hL.sel [1] (by decide) rfl)
        refine DH.take 5 rfl (by kernel_rfl) (by kernel_rfl) (by kernel_rfl) rfl rfl hS (YH.val (v := (.int .i64 (w64 (s_l1.1 * 53)))) (fun w' hS' => x_mul rfl rfl)) ?_
        have hS := (hL.sel [1] (by decide) rfl)
        refine DH.take 11 rfl (by kernel_rfl) (by kernel_rfl) (by kernel_rfl) rfl rfl hS (YH.val (v := (.int .i64 (w64 ((w64 (s_l1.1 * 53)) + (IntKind.i64.wrap (x80.toNat : Int)))))) (fun w' hS' => x_add rfl rfl)) ?_
        have hS := (hL.sel [1] (by decide) rfl)
        refine DH.take 12 rfl (by kernel_rfl) (by kernel_rfl) (by kernel_rfl) rfl rfl hS (YH.val (v := (.int .i64 ((w64 ((w64 (s_l1.1 * 53)) + (IntKind.i64.wrap (x80.toNat : Int)))).tmod 2147483647))) (fun w' hS' => x_rem rfl rfl (by decide))) ?_
        have hS := (hL.sel [1] (by decide) rfl)
        refine DH.take 13 rfl (by kernel_rfl) (by kernel_rfl) (by kernel_rfl) rfl rfl hS (YH.val (v := (.pointer (some ⟨b4, 0, none⟩))) (fun w' hS' => x_nilCheck rfl)) ?_
        have hS := (hL.sel [1] (by decide) rfl)
        refine DH.take 14 rfl (by kernel_rfl) (by kernel_rfl) (by kernel_rfl) rfl rfl hS (YH.val (v := (.pointer (some ⟨b4, 2, none⟩))) (fun w' hS' => x_fieldAddr (fsz := 1) 0 2 2 Try.underlying90 rfl Try_T2 rfl rfl rfl)) ?_
        refine DH.only 15 rfl (by kernel_rfl) (S_store (cs' := #[v1, (.int .i64 0), (.int .i64 ((w64 ((w64 (s_l1.1 * 53)) + (IntKind.i64.wrap (x80.toNat : Int)))).tmod 2147483647))]) hL 0 rfl Try_T2 rfl rfl rfl rfl rfl ?_)
        intro wd86 hL
        refine ⟨(hL.sel [1] (by decide) rfl), ?_⟩
        refine DH.done (by kernel_rfl) ?_
        refine CW.regionL ?_
        refine OW.cons (OP.val (v := (.int .i64 s_l1.2)) rfl (x_mv f70) ?_)
        refine OW.cons (OP.val (v := (.int .i64 (w64 (s_l1.2 + 1)))) rfl (x_add rfl rfl) ?_)
        refine OW.cons (OP.val (v := (.int .i64 (w64 (s_l1.2 + 1)))) rfl (x_assign) ?_)
        refine OW.nil ?_
        obtain rfl := Option.some.inj hm
        exact ⟨_, rfl, ⟨f68, f69, rfl, hL⟩⟩
      · refine CW.exit ?_
        refine XJ.hit ?_
        obtain rfl := Option.some.inj hm
        exact ⟨_, rfl, ⟨f68, f69, f70, hL⟩⟩

theorem M.spec_l01Next_ok (w0 : World) {b1 : Nat} {v2 : Value} (a0 : Src) (h3 : rdL (fun k => k < w0.heap.size ∧ ¬ (Ent.blk b1 90 #[v2, .int .i64 a0.at_, .int .i64 a0.seed]).S k) w0 v2 a0.code) (he4 : (Ent.blk b1 90 #[v2, .int .i64 a0.at_, .int .i64 a0.seed]).H w0) (a1 : Int) {r : (Int) × (Int × Int)} (hm : M.spec_l01Next a0 a1 = some r) :
    Calls Try.prog 60 #[(.pointer (some ⟨b1, 0, none⟩)), (.int .i64 a1)] w0 fun e w' => e = .returned (.int .i64 r.1) ∧ Mut w0 w' (Ent.blk b1 90 #[v2, .int .i64 a0.at_, .int .i64 a0.seed]).S [Ent.blk b1 90 #[v2, .int .i64 r.2.1, .int .i64 r.2.2]] := by
  unfold M.spec_l01Next at hm
  refine calls_CW (args := [(.pointer (some ⟨b1, 0, none⟩)), (.int .i64 a1)]) Try.func60 rfl rfl rfl ?_
  have hL := Hp.startIO he4
  refine CW.seq ?_
  refine CW.regionL ?_
  refine OW.cons (OP.val (v := (.int .i64 0)) rfl (x_assign) ?_)
  refine OW.nil ?_
  refine CW.seq ?_
  refine CW.seq ?_
  refine CW.regionL ?_
  refine OW.cons (OP.val (v := (.int .i64 a1)) rfl (x_move) ?_)
  refine OW.cons (OP.val (v := (.bool (decide (a1 ≤ 1)))) rfl (x_leq rfl rfl) ?_)
  refine OW.nil ?_
  refine CW.condM (t := decide (a1 ≤ 1)) rfl hm (fun hb5 hm => ?_) (fun hb5 hm => ?_)
  · refine CW.seq ?_
    refine CW.regionL ?_
    refine OW.cons (OP.val (v := (.int .i64 0)) rfl (x_assign) ?_)
    refine OW.nil ?_
    refine CW.ret ?_
    obtain rfl := Option.some.inj hm
    exact RR1 rfl rfl ⟨rfl, hL.mutOut 1 rfl [0] (by decide) (by decide) rfl⟩
  · refine CW.skip ?_
    refine CW.seq ?_
    refine CW.regionL ?_
    refine OW.cons (OP.val (v := (.pointer (some ⟨b1, 0, none⟩))) rfl (x_move) ?_)
    refine OW.cons (OP.val (v := (.pointer (some ⟨b1, 0, none⟩))) rfl (x_move) ?_)
    refine OW.cons (OP.val (v := (.pointer (some ⟨b1, 0, none⟩))) rfl (x_nilCheck rfl) ?_)
    refine OW.cons (OP.val (v := (.pointer (some ⟨b1, 2, none⟩))) rfl (x_fieldAddr (fsz := 1) 0 2 2 Try.underlying90 rfl Try_T2 rfl rfl rfl) ?_)
    refine OW.cons (OP.val (v := (.int .i64 a0.seed)) rfl (x_load1 Try.underlying2 rfl rfl (hL.cellB 0 rfl rfl)) ?_)
    refine OW.cons (OP.val (v := (.int .i64 (w64 (a0.seed * 48271)))) rfl (x_mul rfl rfl) ?_)
    refine OW.cons (OP.val (v := (.int .i64 (w64 ((w64 (a0.seed * 48271)) + 23)))) rfl (x_add rfl rfl) ?_)
    refine OW.cons (OP.val (v := (.int .i64 ((w64 ((w64 (a0.seed * 48271)) + 23)).tmod 2147483647))) rfl (x_rem rfl rfl (by decide)) ?_)
    refine OW.cons (OP.val (v := (.pointer (some ⟨b1, 0, none⟩))) rfl (x_nilCheck rfl) ?_)
    refine OW.cons (OP.val (v := (.pointer (some ⟨b1, 2, none⟩))) rfl (x_fieldAddr (fsz := 1) 0 2 2 Try.underlying90 rfl Try_T2 rfl rfl rfl) ?_)
    refine OW.cons (S_store (cs' := #[v2, (.int .i64 a0.at_), (.int .i64 ((w64 ((w64 (a0.seed * 48271)) + 23)).tmod 2147483647))]) hL 0 rfl Try_T2 rfl rfl rfl rfl rfl ?_)
    intro wd6 hL
    refine OW.nil ?_
    refine CW.seq ?_
    refine CW.regionL ?_
    refine OW.cons (OP.val (v := (.pointer (some ⟨b1, 0, none⟩))) rfl (x_move) ?_)
    refine OW.cons (OP.val (v := (.pointer (some ⟨b1, 0, none⟩))) rfl (x_nilCheck rfl) ?_)
    refine OW.cons (OP.val (v := (.pointer (some ⟨b1, 2, none⟩))) rfl (x_fieldAddr (fsz := 1) 0 2 2 Try.underlying90 rfl Try_T2 rfl rfl rfl) ?_)
    refine OW.cons (OP.val (v := (.int .i64 ((w64 ((w64 (a0.seed * 48271)) + 23)).tmod 2147483647))) rfl (x_load1 Try.underlying2 rfl rfl (hL.cellB 0 rfl rfl)) ?_)
    refine OW.cons (OP.val (v := (.int .i64 (w64 (((w64 ((w64 (a0.seed * 48271)) + 23)).tmod 2147483647).tdiv 17)))) rfl (x_quo rfl rfl (by decide)) ?_)
    refine OW.cons (OP.val (v := (.int .i64 (w64 (((w64 ((w64 (a0.seed * 48271)) + 23)).tmod 2147483647).tdiv 17)))) rfl (x_assign) ?_)
    refine OW.nil ?_
    refine CW.seqJ (fun (s_j1 : Int × Int) (F : Fr) (w : World) => F 1 = (.int .i64 a1) ∧ F 5 = (.int .i64 s_j1.2) ∧ Hp w0 [Ent.blk b1 90 #[v2, (.int .i64 s_j1.1), (.int .i64 ((w64 ((w64 (a0.seed * 48271)) + 23)).tmod 2147483647))], Ent.frz w0 (Ent.blk b1 90 #[v2, .int .i64 a0.at_, .int .i64 a0.seed]).S] w) (fun s_j1 => M.spec_l01Next_j1 a0 a1 s_j1 = some r) ?_ ?_
    · refine CW.seq ?_
      refine CW.draw Try_mixed ?_
      have hL := hL.call (Mod.drew _)
      refine DW.pre (fuel := 0) (fin := (((((((((((Array.replicate 10 false).setIfInBounds 0 true).setIfInBounds 1 true).setIfInBounds 2 true).setIfInBounds 3 true).setIfInBounds 4 true).setIfInBounds 5 true).setIfInBounds 6 true).setIfInBounds 7 true).setIfInBounds 8 true).setIfInBounds 9 true)) (C := fun w' => Mod None_ _ w') [0, 1, 2, 3, 4, 5, 6, 7, 8, 9] (Mod.refl _ _) (by kernel_rfl) (by kernel_rfl) ?_
      refine QW.cons rfl (QP.val (v := (.pointer (some ⟨b1, 0, none⟩))) rfl (fun w' hm' => x_move) ?_)
      refine QW.cons rfl (QP.val (v := (.pointer (some ⟨b1, 0, none⟩))) rfl (fun w' hm' => x_nilCheck rfl) ?_)
      refine QW.cons rfl (QP.val (v := (.pointer (some ⟨b1, 1, none⟩))) rfl (fun w' hm' => x_fieldAddr (fsz := 1) 0 1 1 Try.underlying90 rfl Try_T3 rfl rfl rfl) ?_)
      refine QW.cons rfl (QP.val (v := (.int .i64 a0.at_)) rfl (fun w' hm' => x_load1 Try.underlying3 rfl rfl ((hL.call hm').cellB 0 rfl rfl)) ?_)
      refine QW.cons rfl (QP.val (v := (.pointer (some ⟨b1, 0, none⟩))) rfl (fun w' hm' => x_move) ?_)
      refine QW.cons rfl (QP.val (v := (.pointer (some ⟨b1, 0, none⟩))) rfl (fun w' hm' => x_nilCheck rfl) ?_)
      refine QW.cons rfl (QP.val (v := (.pointer (some ⟨b1, 0, none⟩))) rfl (fun w' hm' => x_fieldAddr (fsz := 1) 0 0 0 Try.underlying90 rfl Try_T32 rfl rfl rfl) ?_)
      refine QW.cons rfl (QP.val (v := v2) rfl (fun w' hm' => x_load1 Try.underlying32 rfl rfl ((hL.call hm').cellB 0 rfl rfl)) ?_)
      refine QW.cons rfl (QP.val (v := (.int .i64 (a0.code.length : Int))) rfl (fun w' hm' => x_lenR Try.underlying32 rfl ((hL.call hm').rdZ 1 rfl h3)) ?_)
      refine QW.cons rfl (QP.val (v := (.bool (decide (a0.at_ < (a0.code.length : Int))))) rfl (fun w' hm' => x_lss rfl rfl) ?_)
      refine QW.nil ?_
      intro wd38 hmod
      have hL := hL.call hmod
      refine DW.done (by kernel_rfl) ?_
      refine CW.condM (t := decide (a0.at_ < (a0.code.length : Int))) rfl hm (fun hb39 hm => ?_) (fun hb39 hm => ?_)
      · refine CW.seq ?_
        refine CW.draw Try_mixed ?_
        have hL := hL.call (Mod.drew _)
        refine DW.pre (fuel := 0) (fin := (((((((((((((((Array.replicate 14 false).setIfInBounds 0 true).setIfInBounds 1 true).setIfInBounds 2 true).setIfInBounds 3 true).setIfInBounds 4 true).setIfInBounds 5 true).setIfInBounds 6 true).setIfInBounds 7 true).setIfInBounds 8 true).setIfInBounds 9 true).setIfInBounds 10 true).setIfInBounds 11 true).setIfInBounds 12 true).setIfInBounds 13 true)) (C := fun w' => Mod None_ _ w') [0, 1, 2, 3, 4, 5, 6, 7, 8, 9, 10, 11, 12, 13] (Mod.refl _ _) (by kernel_rfl) (by kernel_rfl) ?_
        refine QW.cons rfl (QP.val (v := (.int .i64 (w64 (((w64 ((w64 (a0.seed * 48271)) + 23)).tmod 2147483647).tdiv 17)))) rfl (fun w' hm' => x_move) ?_)
        refine QW.cons rfl (QP.val (v := (.pointer (some ⟨b1, 0, none⟩))) rfl (fun w' hm' => x_move) ?_)
        refine QW.cons rfl (QP.val (v := (.pointer (some ⟨b1, 0, none⟩))) rfl (fun w' hm' => x_nilCheck rfl) ?_)
        refine QW.cons rfl (QP.val (v := (.pointer (some ⟨b1, 0, none⟩))) rfl (fun w' hm' => x_fieldAddr (fsz := 1) 0 0 0 Try.underlying90 rfl Try_T32 rfl rfl rfl) ?_)
        refine QW.cons rfl (QP.val (v := v2) rfl (fun w' hm' => x_load1 Try.underlying32 rfl rfl ((hL.call hm').cellB 0 rfl rfl)) ?_)
        refine QW.cons rfl (QP.val (v := (.pointer (some ⟨b1, 0, none⟩))) rfl (fun w' hm' => x_move) ?_)
        refine QW.cons rfl (QP.val (v := (.pointer (some ⟨b1, 0, none⟩))) rfl (fun w' hm' => x_nilCheck rfl) ?_)
        refine QW.cons rfl (QP.val (v := (.pointer (some ⟨b1, 1, none⟩))) rfl (fun w' hm' => x_fieldAddr (fsz := 1) 0 1 1 Try.underlying90 rfl Try_T3 rfl rfl rfl) ?_)
        refine QW.cons rfl (QP.val (v := (.int .i64 a0.at_)) rfl (fun w' hm' => x_load1 Try.underlying3 rfl rfl ((hL.call hm').cellB 0 rfl rfl)) ?_)
        obtain ⟨x40, ha41, hm⟩ := bndE hm
        obtain ⟨hz42, ha41⟩ := idxE ha41
        obtain ⟨b43, q44, hix45⟩ := rdL_ix (hL.rdZ 1 rfl h3) hz42 ha41
        refine QW.cons rfl (QP.val (v := (.pointer (some ⟨b43, q44, none⟩))) rfl (fun w' hm' => x_ix Try.underlying32 Try_T5 rfl rfl hix45) ?_)
        refine QW.cons rfl (QP.val (v := (.int .u8 (x40.toNat : Int))) rfl (fun w' hm' => x_load1 Try.underlying5 rfl rfl (rdF_cells ((hL.call hm').rdZ 1 rfl h3) hix45 ha41 0 _ rfl)) ?_)
        refine QW.cons rfl (QP.val (v := (.int .i64 (IntKind.i64.wrap (x40.toNat : Int)))) rfl (fun w' hm' => x_conv Try.underlying5 Try.underlying2 rfl) ?_)
        refine QW.cons rfl (QP.val (v := (.int .i64 (w64 ((w64 (((w64 ((w64 (a0.seed * 48271)) + 23)).tmod 2147483647).tdiv 17)) + (IntKind.i64.wrap (x40.toNat : Int)))))) rfl (fun w' hm' => x_add rfl rfl) ?_)
        refine QW.cons rfl (QP.val (v := (.int .i64 (w64 ((w64 (((w64 ((w64 (a0.seed * 48271)) + 23)).tmod 2147483647).tdiv 17)) + (IntKind.i64.wrap (x40.toNat : Int)))))) rfl (fun w' hm' => x_assign) ?_)
        refine QW.nil ?_
        intro wd46 hmod
        have hL := hL.call hmod
        refine DW.done (by kernel_rfl) ?_
        refine CW.seq ?_
        refine CW.regionL ?_
        refine OW.cons (OP.val (v := (.pointer (some ⟨b1, 0, none⟩))) rfl (x_move) ?_)
        refine OW.cons (OP.val (v := (.pointer (some ⟨b1, 0, none⟩))) rfl (x_nilCheck rfl) ?_)
        refine OW.cons (OP.val (v := (.pointer (some ⟨b1, 1, none⟩))) rfl (x_fieldAddr (fsz := 1) 0 1 1 Try.underlying90 rfl Try_T3 rfl rfl rfl) ?_)
        refine OW.cons (OP.val (v := (.int .i64 a0.at_)) rfl (x_load1 Try.underlying3 rfl rfl (hL.cellB 0 rfl rfl)) ?_)
        refine OW.cons (OP.val (v := (.int .i64 (w64 (a0.at_ + 1)))) rfl (x_add rfl rfl) ?_)
        refine OW.cons (OP.val (v := (.pointer (some ⟨b1, 0, none⟩))) rfl (x_nilCheck rfl) ?_)
        refine OW.cons (OP.val (v := (.pointer (some ⟨b1, 1, none⟩))) rfl (x_fieldAddr (fsz := 1) 0 1 1 Try.underlying90 rfl Try_T3 rfl rfl rfl) ?_)
        refine OW.cons (S_store (cs' := #[v2, (.int .i64 (w64 (a0.at_ + 1))), (.int .i64 ((w64 ((w64 (a0.seed * 48271)) + 23)).tmod 2147483647))]) hL 0 rfl Try_T3 rfl rfl rfl rfl rfl ?_)
        intro wd47 hL
        refine OW.nil ?_
        refine CW.seqJ (fun (s_j2 : Bool) (F : Fr) (w : World) => F 0 = (.pointer (some ⟨b1, 0, none⟩)) ∧ F 1 = (.int .i64 a1) ∧ F 5 = (.int .i64 (w64 ((w64 (((w64 ((w64 (a0.seed * 48271)) + 23)).tmod 2147483647).tdiv 17)) + (IntKind.i64.wrap (x40.toNat : Int))))) ∧ F 62 = (.bool s_j2) ∧ Hp w0 [Ent.blk b1 90 #[v2, (.int .i64 (w64 (a0.at_ + 1))), (.int .i64 ((w64 ((w64 (a0.seed * 48271)) + 23)).tmod 2147483647))], Ent.frz w0 (Ent.blk b1 90 #[v2, .int .i64 a0.at_, .int .i64 a0.seed]).S] w) (fun s_j2 => M.spec_l01Next_j2 a0 a1 x40 s_j2 = some r) ?_ ?_
        · refine CW.regionL ?_
          refine OW.cons (OP.val (v := (.int .i64 a1)) rfl (x_move) ?_)
          refine OW.cons (OP.val (v := (.bool (decide (a1 ≤ 256)))) rfl (x_leq rfl rfl) ?_)
          refine OW.cons (OP.val (v := (.bool (decide (a1 ≤ 256)))) rfl (x_move) ?_)
          refine ifB_elim hm (fun hb63 hm => ?_) (fun hb63 hm => ?_)
          · refine OW.cons (OP.yes' rfl rfl hb63 (OP.val (v := (.pointer (some ⟨b1, 0, none⟩))) rfl (x_move) ?_))
            refine OW.cons (OP.yes' rfl rfl hb63 (OP.val (v := (.pointer (some ⟨b1, 0, none⟩))) rfl (x_nilCheck rfl) ?_))
            refine OW.cons (OP.yes' rfl rfl hb63 (OP.val (v := (.pointer (some ⟨b1, 1, none⟩))) rfl (x_fieldAddr (fsz := 1) 0 1 1 Try.underlying90 rfl Try_T3 rfl rfl rfl) ?_))
            refine OW.cons (OP.yes' rfl rfl hb63 (OP.val (v := (.int .i64 (w64 (a0.at_ + 1)))) rfl (x_load1 Try.underlying3 rfl rfl (hL.cellB 0 rfl rfl)) ?_))
            refine OW.cons (OP.yes' rfl rfl hb63 (OP.val (v := (.int .i64 ((w64 (a0.at_ + 1)).tmod 2))) rfl (x_rem rfl rfl (by decide)) ?_))
            refine OW.cons (OP.yes' rfl rfl hb63 (OP.val (v := (.bool (((w64 (a0.at_ + 1)).tmod 2) == 0))) rfl (x_eql rfl rfl) ?_))
            refine OW.cons (OP.val (v := (.bool (((w64 (a0.at_ + 1)).tmod 2) == 0))) rfl (x_pickT' rfl hb63 rfl) ?_)
            refine OW.nil ?_
            exact ⟨((w64 (a0.at_ + 1)).tmod 2) == 0, hm, ⟨rfl, rfl, rfl, rfl, hL⟩⟩
          · refine OW.cons (OP.no' rfl rfl hb63 rfl ?_)
            refine OW.cons (OP.no' rfl rfl hb63 rfl ?_)
            refine OW.cons (OP.no' rfl rfl hb63 rfl ?_)
            refine OW.cons (OP.no' rfl rfl hb63 rfl ?_)
            refine OW.cons (OP.no' rfl rfl hb63 rfl ?_)
            refine OW.cons (OP.no' rfl rfl hb63 rfl ?_)
            refine OW.cons (OP.val (v := (.bool false)) rfl (x_pickF' rfl hb63 rfl) ?_)
            refine OW.nil ?_
            exact ⟨false, hm, ⟨rfl, rfl, rfl, rfl, hL⟩⟩
        · intro s_j2 F49 wd50 hJ hm
          unfold M.spec_l01Next_j2 at hm
          obtain ⟨f51, f52, f53, f54, hL⟩ := hJ
          refine CW.condM (t := s_j2) f54 hm (fun hb55 hm => ?_) (fun hb55 hm => ?_)
          · refine CW.draw Try_mixed ?_
            have hL := hL.call (Mod.drew _)
            refine DW.pre (fuel := 0) (fin := ((((((((((((((Array.replicate 13 false).setIfInBounds 0 true).setIfInBounds 1 true).setIfInBounds 2 true).setIfInBounds 3 true).setIfInBounds 4 true).setIfInBounds 5 true).setIfInBounds 6 true).setIfInBounds 7 true).setIfInBounds 8 true).setIfInBounds 9 true).setIfInBounds 10 true).setIfInBounds 11 true).setIfInBounds 12 true)) (C := fun w' => Mod None_ _ w') [0, 1, 2, 3, 4, 5, 6, 7, 8, 9, 10, 11, 12] (Mod.refl _ _) (by kernel_rfl) (by kernel_rfl) ?_
            refine QW.cons rfl (QP.val (v := (.pointer (some ⟨b1, 0, none⟩))) rfl (fun w' hm' => x_mv f51) ?_)
            refine QW.cons rfl (QP.val (v := (.pointer (some ⟨b1, 0, none⟩))) rfl (fun w' hm' => x_nilCheck rfl) ?_)
            refine QW.cons rfl (QP.val (v := (.pointer (some ⟨b1, 0, none⟩))) rfl (fun w' hm' => x_fieldAddr (fsz := 1) 0 0 0 Try.underlying90 rfl Try_T32 rfl rfl rfl) ?_)
            refine QW.cons rfl (QP.val (v := v2) rfl (fun w' hm' => x_load1 Try.underlying32 rfl rfl ((hL.call hm').cellB 0 rfl rfl)) ?_)
            refine QW.cons rfl (QP.val (v := (.pointer (some ⟨b1, 0, none⟩))) rfl (fun w' hm' => x_mv f51) ?_)
            refine QW.cons rfl (QP.val (v := (.pointer (some ⟨b1, 0, none⟩))) rfl (fun w' hm' => x_nilCheck rfl) ?_)
            refine QW.cons rfl (QP.val (v := (.pointer (some ⟨b1, 1, none⟩))) rfl (fun w' hm' => x_fieldAddr (fsz := 1) 0 1 1 Try.underlying90 rfl Try_T3 rfl rfl rfl) ?_)
            refine QW.cons rfl (QP.val (v := (.int .i64 (w64 (a0.at_ + 1)))) rfl (fun w' hm' => x_load1 Try.underlying3 rfl rfl ((hL.call hm').cellB 0 rfl rfl)) ?_)
            refine QW.cons rfl (QP.val (v := (.int .i64 (w64 ((w64 (a0.at_ + 1)) - 1)))) rfl (fun w' hm' => x_sub rfl rfl) ?_)
            obtain ⟨x56, ha57, hm⟩ := bndE hm
            obtain ⟨hz58, ha57⟩ := idxE ha57
            obtain ⟨b59, q60, hix61⟩ := rdL_ix (hL.rdZ 1 rfl h3) hz58 ha57
            refine QW.cons rfl (QP.val (v := (.pointer (some ⟨b59, q60, none⟩))) rfl (fun w' hm' => x_ix Try.underlying32 Try_T5 rfl rfl hix61) ?_)
            refine QW.cons rfl (QP.val (v := (.int .u8 (x56.toNat : Int))) rfl (fun w' hm' => x_load1 Try.underlying5 rfl rfl (rdF_cells ((hL.call hm').rdZ 1 rfl h3) hix61 ha57 0 _ rfl)) ?_)
            refine QW.cons rfl (QP.val (v := (.int .i64 (IntKind.i64.wrap (x56.toNat : Int)))) rfl (fun w' hm' => x_conv Try.underlying5 Try.underlying2 rfl) ?_)
            refine QW.cons rfl (QP.val (v := (.int .i64 (IntKind.i64.wrap (x56.toNat : Int)))) rfl (fun w' hm' => x_assign) ?_)
            refine QW.nil ?_
            intro wd62 hmod
            have hL := hL.call hmod
            refine DW.done (by kernel_rfl) ?_
            exact ⟨(w64 (a0.at_ + 1), IntKind.i64.wrap (x56.toNat : Int)), hm, ⟨f52, rfl, hL⟩⟩
          · refine CW.skip ?_
            exact ⟨(w64 (a0.at_ + 1), w64 ((w64 (((w64 ((w64 (a0.seed * 48271)) + 23)).tmod 2147483647).tdiv 17)) + (IntKind.i64.wrap (x40.toNat : Int)))), hm, ⟨f52, f53, hL⟩⟩
      · refine CW.skip ?_
        exact ⟨(a0.at_, w64 (((w64 ((w64 (a0.seed * 48271)) + 23)).tmod 2147483647).tdiv 17)), hm, ⟨rfl, rfl, hL⟩⟩
    · intro s_j1 F33 wd34 hJ hm
      unfold M.spec_l01Next_j1 at hm
      obtain ⟨f35, f36, hL⟩ := hJ
      refine CW.seq ?_
      refine CW.regionL ?_
      refine OW.cons (OP.val (v := (.int .i64 s_j1.2)) rfl (x_mv f36) ?_)
      refine OW.cons (OP.val (v := (.int .i64 a1)) rfl (x_mv f35) ?_)
      obtain ⟨hc37, hm⟩ := chkE hm
      refine OW.cons (OP.val (v := (.int .i64 (s_j1.2.tmod a1))) rfl (x_rem rfl rfl hc37) ?_)
      refine OW.cons (OP.val (v := (.int .i64 (s_j1.2.tmod a1))) rfl (x_assign) ?_)
      refine OW.nil ?_
      refine CW.ret ?_
      obtain rfl := Option.some.inj hm
      exact RR1 rfl rfl ⟨rfl, hL.mutOut 1 rfl [0] (by decide) (by decide) rfl⟩

theorem M.spec_l24Draw_ok (w0 : World) {b1 : Nat} {v2 : Value} (a0 : Src) (h3 : rdL (fun k => k < w0.heap.size ∧ ¬ (Ent.blk b1 90 #[v2, .int .i64 a0.at_, .int .i64 a0.seed]).S k) w0 v2 a0.code) (he4 : (Ent.blk b1 90 #[v2, .int .i64 a0.at_, .int .i64 a0.seed]).H w0) {r : ((List CurvePoint)) × (Int × Int)} (hm : M.spec_l24Draw a0 = some r) :
    Calls Try.prog 48 #[(.pointer (some ⟨b1, 0, none⟩))] w0 fun e w' => ∃ (rv0 : Value) (rS0 : Nat → Prop), e = .returned rv0 ∧ Mut w0 w' (Ent.blk b1 90 #[v2, .int .i64 a0.at_, .int .i64 a0.seed]).S [Ent.blk b1 90 #[v2, .int .i64 r.2.1, .int .i64 r.2.2], Ent.own 63 rS0 rv0 r.1] := by
  unfold M.spec_l24Draw at hm
  refine calls_CW (args := [(.pointer (some ⟨b1, 0, none⟩))]) Try.func48 rfl rfl rfl ?_
  have hL := Hp.startIO he4
  refine CW.seq ?_
  refine CW.regionL ?_
  refine OW.cons (OP.val (v := (.slice none 0 0)) rfl (x_assign) ?_)
  refine OW.nil ?_
  refine CW.seq ?_
  refine CW.regionL ?_
  refine OW.cons (S_lit ([] : List CurvePoint) hL Try.underlying26 Try_T63 rfl (by decide) (by first | (simp [Instr.fill, madeCells, Value.cells, ev, upd, Flat.enc, Flat.sz]; done) | rfl | kernel_rfl) rfl rfl ?_)
  intro wd5 v6 S7 hL
  refine OW.cons (OP.val (v := v6) rfl (x_assign) ?_)
  refine OW.nil ?_
  refine CW.seq ?_
  refine CW.regionL ?_
  refine OW.cons (OP.val (v := (.pointer (some ⟨b1, 0, none⟩))) rfl (x_move) ?_)
  obtain ⟨x8, hx9, hm⟩ := bndE hm
  refine OW.cons (OP.call rfl (x_call (vs := [(.pointer (some ⟨b1, 0, none⟩)), (.int .i64 60)]) Try_C60 ⟨rfl, rfl, trivial⟩) (M.spec_l01Next_ok _ (Src.mk a0.code a0.at_ a0.seed) (hL.exZ 2 1 (by decide) rfl rfl h3) (hL.get 1 rfl) 60 hx9) ?_)
  rintro e10 wd11 ⟨rfl, hF12⟩
  refine ⟨_, rfl, ?_⟩
  have hL := hL.mut 1 rfl hF12
  simp only [List.cons_append, List.nil_append, List.set_cons_zero, List.set_cons_succ] at hL
  refine OW.cons (OP.val (v := (.pointer (some ⟨b1, 0, none⟩))) rfl (x_move) ?_)
  obtain ⟨x13, hx14, hm⟩ := bndE hm
  refine OW.cons (OP.call rfl (x_call (vs := [(.pointer (some ⟨b1, 0, none⟩)), (.int .i64 4000)]) Try_C60 ⟨rfl, rfl, trivial⟩) (M.spec_l01Next_ok _ (Src.mk a0.code x8.2.1 x8.2.2) (hL.exZ 2 1 (by decide) rfl rfl h3) (hL.get 1 rfl) 4000 hx14) ?_)
  rintro e15 wd16 ⟨rfl, hF17⟩
  refine ⟨_, rfl, ?_⟩
  have hL := hL.mut 1 rfl hF17
  simp only [List.cons_append, List.nil_append, List.set_cons_zero, List.set_cons_succ] at hL
  refine OW.cons (OP.val (v := (.int .i64 (w64 (3000 + x13.1)))) rfl (x_add rfl rfl) ?_)
  refine OW.cons (OP.val (v := (.int .i64 x8.1)) rfl (x_assign) ?_)
  refine OW.cons (OP.val (v := (.int .i64 (w64 (3000 + x13.1)))) rfl (x_assign) ?_)
  refine OW.nil ?_
  refine CW.seq ?_
  refine CW.seq ?_
  refine CW.regionL ?_
  refine OW.cons (OP.val (v := (.pointer (some ⟨b1, 0, none⟩))) rfl (x_move) ?_)
  obtain ⟨x18, hx19, hm⟩ := bndE hm
  refine OW.cons (OP.call rfl (x_call (vs := [(.pointer (some ⟨b1, 0, none⟩)), (.int .i64 5)]) Try_C60 ⟨rfl, rfl, trivial⟩) (M.spec_l01Next_ok _ (Src.mk a0.code x13.2.1 x13.2.2) (hL.exZ 2 1 (by decide) rfl rfl h3) (hL.get 1 rfl) 5 hx19) ?_)
  rintro e20 wd21 ⟨rfl, hF22⟩
  refine ⟨_, rfl, ?_⟩
  have hL := hL.mut 1 rfl hF22
  simp only [List.cons_append, List.nil_append, List.set_cons_zero, List.set_cons_succ] at hL
  refine OW.cons (OP.val (v := (.int .i64 (w64 (2 + x18.1)))) rfl (x_add rfl rfl) ?_)
  refine OW.cons (OP.val (v := (.int .i64 (w64 (2 + x18.1)))) rfl (x_assign) ?_)
  refine OW.nil ?_
  obtain ⟨o65, ho66, hm⟩ := bndE hm
  refine CW.loopB (fun (s_l1 : Int × Int × (List CurvePoint) × Int × Int × Int) (F : Fr) (w : World) => ∃ (v61 : Value) (S62 : Nat → Prop), F 0 = (.pointer (some ⟨b1, 0, none⟩)) ∧ F 3 = v61 ∧ F 4 = (.int .i64 s_l1.2.2.2.1) ∧ F 5 = (.int .i64 s_l1.2.2.2.2.1) ∧ F 6 = (.int .i64 s_l1.2.2.2.2.2) ∧ Hp w0 [Ent.own 63 S62 v61 s_l1.2.2.1, Ent.blk b1 90 #[v2, (.int .i64 s_l1.1), (.int .i64 s_l1.2.1)], Ent.frz w0 (Ent.blk b1 90 #[v2, .int .i64 a0.at_, .int .i64 a0.seed]).S] w) (fun o => outc o (fun x => some x) (fun s => M.spec_l24Draw_a1 a0 s) = some r) ho66 hm ⟨v6, S7, rfl, rfl, rfl, rfl, rfl, hL⟩ ?_ ?_
  · intro s_l1 F67 wd68 hJ hm
    have hm : M.spec_l24Draw_a1 a0 s_l1 = some r := hm
    unfold M.spec_l24Draw_a1 at hm
    obtain ⟨v61, S62, f69, f70, f71, f72, f73, hL⟩ := hJ
    refine CW.seq ?_
    refine CW.regionL ?_
    refine OW.cons (OP.val (v := (.pointer (some ⟨b1, 0, none⟩))) rfl (x_mv f69) ?_)
    refine OW.cons (OP.val (v := v61) rfl (x_mv f70) ?_)
    refine OW.cons (OP.val (v := (.int .i64 (s_l1.2.2.1.length : Int))) rfl (x_lenR Try.underlying26 rfl (hL.rdO 0 rfl)) ?_)
    obtain ⟨x74, hx75, hm⟩ := bndE hm
    refine OW.cons (OP.call rfl (x_call (vs := [(.pointer (some ⟨b1, 0, none⟩)), (.int .i64 (s_l1.2.2.1.length : Int))]) Try_C60 ⟨rfl, rfl, trivial⟩) (M.spec_l01Next_ok _ (Src.mk a0.code s_l1.1 s_l1.2.1) (hL.exZ 2 1 (by decide) rfl rfl h3) (hL.get 1 rfl) (s_l1.2.2.1.length : Int) hx75) ?_)
    rintro e76 wd77 ⟨rfl, hF78⟩
    refine ⟨_, rfl, ?_⟩
    have hL := hL.mut 1 rfl hF78
    simp only [List.cons_append, List.nil_append, List.set_cons_zero, List.set_cons_succ] at hL
    refine OW.cons (OP.val (v := (.int .i64 x74.1)) rfl (x_assign) ?_)
    refine OW.nil ?_
    refine CW.seqJ (fun (s_j1 : Int × Int × (List CurvePoint)) (F : Fr) (w : World) => ∃ (S184 : Nat → Prop), F 3 = v61 ∧ Hp w0 [Ent.own 63 S184 v61 s_j1.2.2, Ent.blk b1 90 #[v2, (.int .i64 s_j1.1), (.int .i64 s_j1.2.1)], Ent.frz w0 (Ent.blk b1 90 #[v2, .int .i64 a0.at_, .int .i64 a0.seed]).S] w) (fun s_j1 => M.spec_l24Draw_j1 s_j1 = some r) ?_ ?_
    · refine CW.seq ?_
      refine CW.regionL ?_
      refine OW.cons (OP.val (v := (.pointer (some ⟨b1, 0, none⟩))) rfl (x_mv f69) ?_)
      obtain ⟨x188, hx189, hm⟩ := bndE hm
      refine OW.cons (OP.call rfl (x_call (vs := [(.pointer (some ⟨b1, 0, none⟩)), (.int .i64 30)]) Try_C60 ⟨rfl, rfl, trivial⟩) (M.spec_l01Next_ok _ (Src.mk a0.code x74.2.1 x74.2.2) (hL.exZ 2 1 (by decide) rfl rfl h3) (hL.get 1 rfl) 30 hx189) ?_)
      rintro e190 wd191 ⟨rfl, hF192⟩
      refine ⟨_, rfl, ?_⟩
      have hL := hL.mut 1 rfl hF192
      simp only [List.cons_append, List.nil_append, List.set_cons_zero, List.set_cons_succ] at hL
      refine OW.nil ?_
      refine CW.blockJ (fun (s_j2 : Int × Int × (List CurvePoint)) (F : Fr) (w : World) => ∃ (S241 : Nat → Prop), F 3 = v61 ∧ Hp w0 [Ent.own 63 S241 v61 s_j2.2.2, Ent.blk b1 90 #[v2, (.int .i64 s_j2.1), (.int .i64 s_j2.2.1)], Ent.frz w0 (Ent.blk b1 90 #[v2, .int .i64 a0.at_, .int .i64 a0.seed]).S] w) (fun s_j2 => M.spec_l24Draw_j2 s_j2 = some r) ?_ ?_
      · refine CW.seq ?_
        refine CW.regionL ?_
        refine OW.cons (OP.val (v := (.bool (x188.1 == 0))) rfl (x_eql rfl rfl) ?_)
        refine OW.cons (OP.val (v := (.bool (x188.1 == 0))) rfl (x_assign) ?_)
        refine OW.nil ?_
        refine CW.condM (t := x188.1 == 0) rfl hm (fun hb245 hm => ?_) (fun hb245 hm => ?_)
        · refine CW.regionL ?_
          refine OW.cons (OP.val (v := v61) rfl (x_mv f70) ?_)
          refine OW.cons (OP.val (v := (.int .i64 x74.1)) rfl (x_move) ?_)
          refine OW.cons (S_lit ([(-1), 0, 1000, 1001] : List Int) hL Try.underlying91 Try_T2 rfl (by decide) (by first | (simp [Instr.fill, madeCells, Value.cells, ev, upd, Flat.enc, Flat.sz]; done) | rfl | kernel_rfl) rfl rfl ?_)
          intro wd246 v247 S248 hL
          refine OW.cons (OP.val (v := (.pointer (some ⟨b1, 0, none⟩))) rfl (x_mv f69) ?_)
          obtain ⟨x249, hx250, hm⟩ := bndE hm
          refine OW.cons (OP.call rfl (x_call (vs := [(.pointer (some ⟨b1, 0, none⟩)), (.int .i64 4)]) Try_C60 ⟨rfl, rfl, trivial⟩) (M.spec_l01Next_ok _ (Src.mk a0.code x188.2.1 x188.2.2) (hL.exZ 3 2 (by decide) rfl rfl h3) (hL.get 2 rfl) 4 hx250) ?_)
          rintro e251 wd252 ⟨rfl, hF253⟩
          refine ⟨_, rfl, ?_⟩
          have hL := hL.mut 2 rfl hF253
          simp only [List.cons_append, List.nil_append, List.set_cons_zero, List.set_cons_succ] at hL
          obtain ⟨x254, ha255, hm⟩ := bndE hm
          obtain ⟨hz256, ha255⟩ := idxE ha255
          obtain ⟨b257, q258, hix259⟩ := rdL_ix (hL.rdO 0 rfl) hz256 ha255
          refine OW.cons (OP.val (v := (.pointer (some ⟨b257, q258, none⟩))) rfl (x_ix Try.underlying91 Try_T2 rfl rfl hix259) ?_)
          refine OW.cons (OP.val (v := (.int .i64 x254)) rfl (x_load1 Try.underlying2 rfl rfl (rdF_cells (hL.rdO 0 rfl) hix259 ha255 0 _ rfl)) ?_)
          obtain ⟨x260, ha261, hm⟩ := bndE hm
          obtain ⟨hz262, ha261⟩ := idxE ha261
          obtain ⟨b263, q264, hix265⟩ := rdL_ix (hL.rdO 1 rfl) hz262 ha261
          refine OW.cons (OP.val (v := (.pointer (some ⟨b263, q264, none⟩))) rfl (x_ix Try.underlying26 Try_T63 rfl rfl hix265) ?_)
          refine OW.cons (OP.val (v := (.pointer (some ⟨b263, q264, none⟩))) rfl (x_fieldAddr (fsz := 1) q264 0 q264 Try.underlying63 rfl Try_T2 rfl rfl rfl) ?_)
          refine OW.cons (S_storeX (j := 0) (CurvePoint.mk x254 x260.Pace) hL 1 rfl Try_T2 hix265 ha261 rfl rfl rfl rfl rfl rfl ?_)
          intro wd266 hL
          refine OW.nil ?_
          have hL := hL.sel [1, 2, 3] (by decide) rfl
          exact ⟨(x249.2.1, x249.2.2, s_l1.2.2.1.set (x74.1 : Int).toNat (CurvePoint.mk x254 x260.Pace)), hm, ⟨S62, f70, hL⟩⟩
        · refine CW.seq ?_
          refine CW.regionL ?_
          refine OW.cons (OP.val (v := (.bool (x188.1 == 1))) rfl (x_eql rfl rfl) ?_)
          refine OW.cons (OP.val (v := (.bool (x188.1 == 1))) rfl (x_assign) ?_)
          refine OW.nil ?_
          refine CW.condM (t := x188.1 == 1) rfl hm (fun hb267 hm => ?_) (fun hb267 hm => ?_)
          · refine CW.regionL ?_
            refine OW.cons (OP.val (v := v61) rfl (x_mv f70) ?_)
            refine OW.cons (OP.val (v := (.int .i64 x74.1)) rfl (x_move) ?_)
            refine OW.cons (S_lit ([0, 1, 1000000, 1000001] : List Int) hL Try.underlying91 Try_T2 rfl (by decide) (by first | (simp [Instr.fill, madeCells, Value.cells, ev, upd, Flat.enc, Flat.sz]; done) | rfl | kernel_rfl) rfl rfl ?_)
            intro wd268 v269 S270 hL
            refine OW.cons (OP.val (v := (.pointer (some ⟨b1, 0, none⟩))) rfl (x_mv f69) ?_)
            obtain ⟨x271, hx272, hm⟩ := bndE hm
            refine OW.cons (OP.call rfl (x_call (vs := [(.pointer (some ⟨b1, 0, none⟩)), (.int .i64 4)]) Try_C60 ⟨rfl, rfl, trivial⟩) (M.spec_l01Next_ok _ (Src.mk a0.code x188.2.1 x188.2.2) (hL.exZ 3 2 (by decide) rfl rfl h3) (hL.get 2 rfl) 4 hx272) ?_)
            rintro e273 wd274 ⟨rfl, hF275⟩
            refine ⟨_, rfl, ?_⟩
            have hL := hL.mut 2 rfl hF275
            simp only [List.cons_append, List.nil_append, List.set_cons_zero, List.set_cons_succ] at hL
            obtain ⟨x276, ha277, hm⟩ := bndE hm
            obtain ⟨hz278, ha277⟩ := idxE ha277
            obtain ⟨b279, q280, hix281⟩ := rdL_ix (hL.rdO 0 rfl) hz278 ha277
            refine OW.cons (OP.val (v := (.pointer (some ⟨b279, q280, none⟩))) rfl (x_ix Try.underlying91 Try_T2 rfl rfl hix281) ?_)
            refine OW.cons (OP.val (v := (.int .i64 x276)) rfl (x_load1 Try.underlying2 rfl rfl (rdF_cells (hL.rdO 0 rfl) hix281 ha277 0 _ rfl)) ?_)
            obtain ⟨x282, ha283, hm⟩ := bndE hm
            obtain ⟨hz284, ha283⟩ := idxE ha283
            obtain ⟨b285, q286, hix287⟩ := rdL_ix (hL.rdO 1 rfl) hz284 ha283
            refine OW.cons (OP.val (v := (.pointer (some ⟨b285, q286, none⟩))) rfl (x_ix Try.underlying26 Try_T63 rfl rfl hix287) ?_)
            refine OW.cons (OP.val (v := (.pointer (some ⟨b285, q286 + 1, none⟩))) rfl (x_fieldAddr (fsz := 1) q286 1 (q286 + 1) Try.underlying63 rfl Try_T2 rfl rfl rfl) ?_)
            refine OW.cons (S_storeX (j := 1) (CurvePoint.mk x282.Wind x276) hL 1 rfl Try_T2 hix287 ha283 rfl rfl rfl rfl rfl rfl ?_)
            intro wd288 hL
            refine OW.nil ?_
            have hL := hL.sel [1, 2, 3] (by decide) rfl
            exact ⟨(x271.2.1, x271.2.2, s_l1.2.2.1.set (x74.1 : Int).toNat (CurvePoint.mk x282.Wind x276)), hm, ⟨S62, f70, hL⟩⟩
          · refine CW.seq ?_
            refine CW.regionL ?_
            refine OW.cons (OP.val (v := (.bool (x188.1 == 2))) rfl (x_eql rfl rfl) ?_)
            refine OW.cons (OP.val (v := (.bool (x188.1 == 2))) rfl (x_assign) ?_)
            refine OW.nil ?_
            refine CW.condM (t := x188.1 == 2) rfl hm (fun hb289 hm => ?_) (fun hb289 hm => ?_)
            · refine CW.seq ?_
              refine CW.regionL ?_
              refine OW.cons (OP.val (v := v61) rfl (x_mv f70) ?_)
              obtain ⟨hc290, hm⟩ := chkE hm
              obtain ⟨v291, hs292⟩ := subV_of (hL.rdO 0 rfl) hc290
              refine OW.cons (OP.val (v := v291) rfl (x_slice0 Try.underlying26 Try_T63 rfl rfl hs292) ?_)
              refine OW.cons (OP.val (v := v291) rfl (x_assign) ?_)
              refine OW.nil ?_
              refine CW.ret ?_
              have hL := hL.prefix 0 rfl hs292
              obtain rfl := Option.some.inj hm
              exact RR1 rfl rfl ⟨v291, S62, rfl, hL.mutOut 2 rfl [1, 0] (by decide) (by decide) rfl⟩
            · refine CW.skip ?_
              exact ⟨(x188.2.1, x188.2.2, s_l1.2.2.1), hm, ⟨S62, f70, hL⟩⟩
      · intro s_j2 F242 wd243 hJ hm
        unfold M.spec_l24Draw_j2 at hm
        obtain ⟨S241, f244, hL⟩ := hJ
        exact ⟨(s_j2.1, s_j2.2.1, s_j2.2.2), hm, ⟨S241, f244, hL⟩⟩
    · intro s_j1 F185 wd186 hJ hm
      unfold M.spec_l24Draw_j1 at hm
      obtain ⟨S184, f187, hL⟩ := hJ
      refine CW.seq ?_
      refine CW.regionL ?_
      refine OW.cons (OP.val (v := v61) rfl (x_mv f187) ?_)
      refine OW.cons (OP.val (v := v61) rfl (x_assign) ?_)
      refine OW.nil ?_
      refine CW.ret ?_
      obtain rfl := Option.some.inj hm
      exact RR1 rfl rfl ⟨v61, S184, rfl, hL.mutOut 2 rfl [1, 0] (by decide) (by decide) rfl⟩
  · intro s_l1 F293 wd294 t63 hJ hm hr64
    unfold M.spec_l24Draw_l1 at hm
    obtain ⟨v61, S62, f295, f296, f297, f298, f299, hL⟩ := hJ
    refine CW.seq ?_
    refine CW.seq ?_
    refine CW.regionL ?_
    refine OW.cons (OP.val (v := (.int .i64 s_l1.2.2.2.2.2)) rfl (x_mv f299) ?_)
    refine OW.cons (OP.val (v := (.bool (decide (0 < s_l1.2.2.2.2.2)))) rfl (x_gtr rfl rfl) ?_)
    refine OW.nil ?_
    refine CW.condM (t := decide (0 < s_l1.2.2.2.2.2)) rfl hm (fun hb300 hm => ?_) (fun hb300 hm => ?_)
    · refine CW.skip ?_
      refine CW.seq ?_
      refine CW.block ?_
      refine CW.seq ?_
      refine CW.regionL ?_
      refine OW.cons (OP.val (v := v61) rfl (x_mv f296) ?_)
      refine OW.cons (OP.val (v := (.int .i64 s_l1.2.2.2.1)) rfl (x_mv f297) ?_)
      refine OW.cons (OP.val (v := (.int .i64 s_l1.2.2.2.2.1)) rfl (x_mv f298) ?_)
      refine OW.cons (OP.val (v := (.agg #[(.int .i64 s_l1.2.2.2.1), (.int .i64 s_l1.2.2.2.2.1)])) rfl (x_build Try_B63 (ps := [(0, (.int .i64 s_l1.2.2.2.1)), (1, (.int .i64 s_l1.2.2.2.2.1))]) ⟨⟨rfl, rfl⟩, ⟨rfl, rfl⟩, trivial⟩ (by simp [Instr.fill, cells_int, cells_bool, cells_string, cells_agg, cells_slice, cells_pointer])) ?_)
      refine OW.cons (S_lit ([(CurvePoint.mk s_l1.2.2.2.1 s_l1.2.2.2.2.1)] : List CurvePoint) hL Try.underlying26 Try_T63 rfl (by decide) (by first | (simp [Instr.fill, madeCells, Value.cells, ev, upd, Flat.enc, Flat.sz]; done) | rfl | kernel_rfl) rfl rfl ?_)
      intro wd301 v302 S303 hL
      obtain ⟨hc304, hm⟩ := chkE hm
      refine OW.cons (S_append (ys := ([(CurvePoint.mk s_l1.2.2.2.1 s_l1.2.2.2.2.1)] : List CurvePoint)) hL 1 rfl Try.underlying26 Try_T63 rfl rfl rfl (hL.rdO 0 rfl) hc304 (by decide) rfl ?_)
      intro wd305 v306 S307 hL
      refine OW.cons (OP.val (v := v306) rfl (x_assign) ?_)
      refine OW.nil ?_
      refine CW.seq ?_
      refine CW.regionL ?_
      refine OW.cons (OP.val (v := (.int .i64 s_l1.2.2.2.1)) rfl (x_mv f297) ?_)
      refine OW.cons (OP.val (v := (.int .i64 (w64 (s_l1.2.2.2.1 + 1)))) rfl (x_add rfl rfl) ?_)
      refine OW.cons (OP.val (v := (.pointer (some ⟨b1, 0, none⟩))) rfl (x_mv f295) ?_)
      obtain ⟨x308, hx309, hm⟩ := bndE hm
      refine OW.cons (OP.call rfl (x_call (vs := [(.pointer (some ⟨b1, 0, none⟩)), (.int .i64 60)]) Try_C60 ⟨rfl, rfl, trivial⟩) (M.spec_l01Next_ok _ (Src.mk a0.code s_l1.1 s_l1.2.1) (hL.exZ 3 2 (by decide) rfl rfl h3) (hL.get 2 rfl) 60 hx309) ?_)
      rintro e310 wd311 ⟨rfl, hF312⟩
      refine ⟨_, rfl, ?_⟩
      have hL := hL.mut 2 rfl hF312
      simp only [List.cons_append, List.nil_append, List.set_cons_zero, List.set_cons_succ] at hL
      refine OW.cons (OP.val (v := (.int .i64 (w64 ((w64 (s_l1.2.2.2.1 + 1)) + x308.1)))) rfl (x_add rfl rfl) ?_)
      refine OW.cons (OP.val (v := (.int .i64 (w64 ((w64 (s_l1.2.2.2.1 + 1)) + x308.1)))) rfl (x_assign) ?_)
      refine OW.nil ?_
      refine CW.regionL ?_
      refine OW.cons (OP.val (v := (.int .i64 s_l1.2.2.2.2.1)) rfl (x_mv f298) ?_)
      refine OW.cons (OP.val (v := (.int .i64 (w64 (s_l1.2.2.2.2.1 - 1)))) rfl (x_sub rfl rfl) ?_)
      refine OW.cons (OP.val (v := (.pointer (some ⟨b1, 0, none⟩))) rfl (x_mv f295) ?_)
      obtain ⟨x313, hx314, hm⟩ := bndE hm
      refine OW.cons (OP.call rfl (x_call (vs := [(.pointer (some ⟨b1, 0, none⟩)), (.int .i64 500)]) Try_C60 ⟨rfl, rfl, trivial⟩) (M.spec_l01Next_ok _ (Src.mk a0.code x308.2.1 x308.2.2) (hL.exZ 3 2 (by decide) rfl rfl h3) (hL.get 2 rfl) 500 hx314) ?_)
      rintro e315 wd316 ⟨rfl, hF317⟩
      refine ⟨_, rfl, ?_⟩
      have hL := hL.mut 2 rfl hF317
      simp only [List.cons_append, List.nil_append, List.set_cons_zero, List.set_cons_succ] at hL
      refine OW.cons (OP.val (v := (.int .i64 (w64 ((w64 (s_l1.2.2.2.2.1 - 1)) - x313.1)))) rfl (x_sub rfl rfl) ?_)
      refine OW.cons (OP.val (v := (.int .i64 (max 1 (w64 ((w64 (s_l1.2.2.2.2.1 - 1)) - x313.1))))) rfl (x_max2 rfl rfl) ?_)
      refine OW.cons (OP.val (v := (.int .i64 (max 1 (w64 ((w64 (s_l1.2.2.2.2.1 - 1)) - x313.1))))) rfl (x_assign) ?_)
      refine OW.nil ?_
      refine CW.regionL ?_
      refine OW.cons (OP.val (v := (.int .i64 s_l1.2.2.2.2.2)) rfl (x_mv f299) ?_)
      refine OW.cons (OP.val (v := (.int .i64 (w64 (s_l1.2.2.2.2.2 - 1)))) rfl (x_sub rfl rfl) ?_)
      refine OW.cons (OP.val (v := (.int .i64 (w64 (s_l1.2.2.2.2.2 - 1)))) rfl (x_assign) ?_)
      refine OW.nil ?_
      have hL := hL.sel [1, 2, 3] (by decide) rfl
      obtain rfl := Option.some.inj hm
      exact ⟨_, rfl, ⟨v306, S307, f295, rfl, rfl, rfl, rfl, hL⟩⟩
    · refine CW.exit ?_
      refine XJ.hit ?_
      obtain rfl := Option.some.inj hm
      exact ⟨_, rfl, ⟨v61, S62, f295, f296, f297, f298, f299, hL⟩⟩

theorem M.spec_l23DrawDistance_ok (w0 : World) {b1 : Nat} {v2 : Value} (a0 : Src) (h3 : rdL (fun k => k < w0.heap.size ∧ ¬ (Ent.blk b1 90 #[v2, .int .i64 a0.at_, .int .i64 a0.seed]).S k) w0 v2 a0.code) (he4 : (Ent.blk b1 90 #[v2, .int .i64 a0.at_, .int .i64 a0.seed]).H w0) {r : (Int) × (Int × Int)} (hm : M.spec_l23DrawDistance a0 = some r) :
    Calls Try.prog 61 #[(.pointer (some ⟨b1, 0, none⟩))] w0 fun e w' => e = .returned (.int .i64 r.1) ∧ Mut w0 w' (Ent.blk b1 90 #[v2, .int .i64 a0.at_, .int .i64 a0.seed]).S [Ent.blk b1 90 #[v2, .int .i64 r.2.1, .int .i64 r.2.2]] := by
  unfold M.spec_l23DrawDistance at hm
  refine calls_CW (args := [(.pointer (some ⟨b1, 0, none⟩))]) Try.func61 rfl rfl rfl ?_
  have hL := Hp.startIO he4
  refine CW.seq ?_
  refine CW.regionL ?_
  refine OW.cons (OP.val (v := (.int .i64 0)) rfl (x_assign) ?_)
  refine OW.nil ?_
  refine CW.seq ?_
  refine CW.seq ?_
  refine CW.regionL ?_
  refine OW.cons (OP.val (v := (.pointer (some ⟨b1, 0, none⟩))) rfl (x_move) ?_)
  obtain ⟨x5, hx6, hm⟩ := bndE hm
  refine OW.cons (OP.call rfl (x_call (vs := [(.pointer (some ⟨b1, 0, none⟩)), (.int .i64 24)]) Try_C60 ⟨rfl, rfl, trivial⟩) (M.spec_l01Next_ok _ (Src.mk a0.code a0.at_ a0.seed) (hL.exZ 1 0 (by decide) rfl rfl h3) (hL.get 0 rfl) 24 hx6) ?_)
  rintro e7 wd8 ⟨rfl, hF9⟩
  refine ⟨_, rfl, ?_⟩
  have hL := hL.mut 0 rfl hF9
  simp only [List.cons_append, List.nil_append, List.set_cons_zero, List.set_cons_succ] at hL
  refine OW.cons (OP.val (v := (.bool (x5.1 == 0))) rfl (x_eql rfl rfl) ?_)
  refine OW.nil ?_
  refine CW.condM (t := x5.1 == 0) rfl hm (fun hb10 hm => ?_) (fun hb10 hm => ?_)
  · refine CW.seq ?_
    refine CW.regionL ?_
    refine OW.cons (S_lit ([0, 1, 10000000, 10000001] : List Int) hL Try.underlying91 Try_T2 rfl (by decide) (by first | (simp [Instr.fill, madeCells, Value.cells, ev, upd, Flat.enc, Flat.sz]; done) | rfl | kernel_rfl) rfl rfl ?_)
    intro wd11 v12 S13 hL
    refine OW.cons (OP.val (v := (.pointer (some ⟨b1, 0, none⟩))) rfl (x_move) ?_)
    obtain ⟨x14, hx15, hm⟩ := bndE hm
    refine OW.cons (OP.call rfl (x_call (vs := [(.pointer (some ⟨b1, 0, none⟩)), (.int .i64 4)]) Try_C60 ⟨rfl, rfl, trivial⟩) (M.spec_l01Next_ok _ (Src.mk a0.code x5.2.1 x5.2.2) (hL.exZ 2 1 (by decide) rfl rfl h3) (hL.get 1 rfl) 4 hx15) ?_)
    rintro e16 wd17 ⟨rfl, hF18⟩
    refine ⟨_, rfl, ?_⟩
    have hL := hL.mut 1 rfl hF18
    simp only [List.cons_append, List.nil_append, List.set_cons_zero, List.set_cons_succ] at hL
    obtain ⟨x19, ha20, hm⟩ := bndE hm
    obtain ⟨hz21, ha20⟩ := idxE ha20
    obtain ⟨b22, q23, hix24⟩ := rdL_ix (hL.rdO 0 rfl) hz21 ha20
    refine OW.cons (OP.val (v := (.pointer (some ⟨b22, q23, none⟩))) rfl (x_ix Try.underlying91 Try_T2 rfl rfl hix24) ?_)
    refine OW.cons (OP.val (v := (.int .i64 x19)) rfl (x_load1 Try.underlying2 rfl rfl (rdF_cells (hL.rdO 0 rfl) hix24 ha20 0 _ rfl)) ?_)
    refine OW.cons (OP.val (v := (.int .i64 x19)) rfl (x_assign) ?_)
    refine OW.nil ?_
    refine CW.ret ?_
    obtain rfl := Option.some.inj hm
    exact RR1 rfl rfl ⟨rfl, hL.mutOut 2 rfl [1] (by decide) (by decide) rfl⟩
  · refine CW.skip ?_
    refine CW.seq ?_
    refine CW.regionL ?_
    refine OW.cons (OP.val (v := (.pointer (some ⟨b1, 0, none⟩))) rfl (x_move) ?_)
    obtain ⟨x25, hx26, hm⟩ := bndE hm
    refine OW.cons (OP.call rfl (x_call (vs := [(.pointer (some ⟨b1, 0, none⟩)), (.int .i64 60000)]) Try_C60 ⟨rfl, rfl, trivial⟩) (M.spec_l01Next_ok _ (Src.mk a0.code x5.2.1 x5.2.2) (hL.exZ 1 0 (by decide) rfl rfl h3) (hL.get 0 rfl) 60000 hx26) ?_)
    rintro e27 wd28 ⟨rfl, hF29⟩
    refine ⟨_, rfl, ?_⟩
    have hL := hL.mut 0 rfl hF29
    simp only [List.cons_append, List.nil_append, List.set_cons_zero, List.set_cons_succ] at hL
    refine OW.cons (OP.val (v := (.int .i64 (w64 (1 + x25.1)))) rfl (x_add rfl rfl) ?_)
    refine OW.cons (OP.val (v := (.int .i64 (w64 (1 + x25.1)))) rfl (x_assign) ?_)
    refine OW.nil ?_
    refine CW.ret ?_
    obtain rfl := Option.some.inj hm
    exact RR1 rfl rfl ⟨rfl, hL.mutOut 1 rfl [0] (by decide) (by decide) rfl⟩

theorem M.spec_l22DrawTime_ok (w0 : World) {b1 : Nat} {v2 : Value} (a0 : Src) (h3 : rdL (fun k => k < w0.heap.size ∧ ¬ (Ent.blk b1 90 #[v2, .int .i64 a0.at_, .int .i64 a0.seed]).S k) w0 v2 a0.code) (he4 : (Ent.blk b1 90 #[v2, .int .i64 a0.at_, .int .i64 a0.seed]).H w0) {r : (Int) × (Int × Int)} (hm : M.spec_l22DrawTime a0 = some r) :
    Calls Try.prog 69 #[(.pointer (some ⟨b1, 0, none⟩))] w0 fun e w' => e = .returned (.int .i64 r.1) ∧ Mut w0 w' (Ent.blk b1 90 #[v2, .int .i64 a0.at_, .int .i64 a0.seed]).S [Ent.blk b1 90 #[v2, .int .i64 r.2.1, .int .i64 r.2.2]] := by
  unfold M.spec_l22DrawTime at hm
  refine calls_CW (args := [(.pointer (some ⟨b1, 0, none⟩))]) Try.func69 rfl rfl rfl ?_
  have hL := Hp.startIO he4
  refine CW.seq ?_
  refine CW.regionL ?_
  refine OW.cons (OP.val (v := (.int .i64 0)) rfl (x_assign) ?_)
  refine OW.nil ?_
  refine CW.seq ?_
  refine CW.seq ?_
  refine CW.regionL ?_
  refine OW.cons (OP.val (v := (.pointer (some ⟨b1, 0, none⟩))) rfl (x_move) ?_)
  obtain ⟨x5, hx6, hm⟩ := bndE hm
  refine OW.cons (OP.call rfl (x_call (vs := [(.pointer (some ⟨b1, 0, none⟩)), (.int .i64 20)]) Try_C60 ⟨rfl, rfl, trivial⟩) (M.spec_l01Next_ok _ (Src.mk a0.code a0.at_ a0.seed) (hL.exZ 1 0 (by decide) rfl rfl h3) (hL.get 0 rfl) 20 hx6) ?_)
  rintro e7 wd8 ⟨rfl, hF9⟩
  refine ⟨_, rfl, ?_⟩
  have hL := hL.mut 0 rfl hF9
  simp only [List.cons_append, List.nil_append, List.set_cons_zero, List.set_cons_succ] at hL
  refine OW.cons (OP.val (v := (.bool (x5.1 == 0))) rfl (x_eql rfl rfl) ?_)
  refine OW.nil ?_
  refine CW.condM (t := x5.1 == 0) rfl hm (fun hb10 hm => ?_) (fun hb10 hm => ?_)
  · refine CW.seq ?_
    refine CW.regionL ?_
    refine OW.cons (S_lit ([0, 1, 1000000000, 1000000001] : List Int) hL Try.underlying91 Try_T2 rfl (by decide) (by first | (simp [Instr.fill, madeCells, Value.cells, ev, upd, Flat.enc, Flat.sz]; done) | rfl | kernel_rfl) rfl rfl ?_)
    intro wd11 v12 S13 hL
    refine OW.cons (OP.val (v := (.pointer (some ⟨b1, 0, none⟩))) rfl (x_move) ?_)
    obtain ⟨x14, hx15, hm⟩ := bndE hm
    refine OW.cons (OP.call rfl (x_call (vs := [(.pointer (some ⟨b1, 0, none⟩)), (.int .i64 4)]) Try_C60 ⟨rfl, rfl, trivial⟩) (M.spec_l01Next_ok _ (Src.mk a0.code x5.2.1 x5.2.2) (hL.exZ 2 1 (by decide) rfl rfl h3) (hL.get 1 rfl) 4 hx15) ?_)
    rintro e16 wd17 ⟨rfl, hF18⟩
    refine ⟨_, rfl, ?_⟩
    have hL := hL.mut 1 rfl hF18
    simp only [List.cons_append, List.nil_append, List.set_cons_zero, List.set_cons_succ] at hL
    obtain ⟨x19, ha20, hm⟩ := bndE hm
    obtain ⟨hz21, ha20⟩ := idxE ha20
    obtain ⟨b22, q23, hix24⟩ := rdL_ix (hL.rdO 0 rfl) hz21 ha20
    refine OW.cons (OP.val (v := (.pointer (some ⟨b22, q23, none⟩))) rfl (x_ix Try.underlying91 Try_T2 rfl rfl hix24) ?_)
    refine OW.cons (OP.val (v := (.int .i64 x19)) rfl (x_load1 Try.underlying2 rfl rfl (rdF_cells (hL.rdO 0 rfl) hix24 ha20 0 _ rfl)) ?_)
    refine OW.cons (OP.val (v := (.int .i64 x19)) rfl (x_assign) ?_)
    refine OW.nil ?_
    refine CW.ret ?_
    obtain rfl := Option.some.inj hm
    exact RR1 rfl rfl ⟨rfl, hL.mutOut 2 rfl [1] (by decide) (by decide) rfl⟩
  · refine CW.skip ?_
    refine CW.seq ?_
    refine CW.regionL ?_
    refine OW.cons (OP.val (v := (.pointer (some ⟨b1, 0, none⟩))) rfl (x_move) ?_)
    obtain ⟨x25, hx26, hm⟩ := bndE hm
    refine OW.cons (OP.call rfl (x_call (vs := [(.pointer (some ⟨b1, 0, none⟩)), (.int .i64 80000)]) Try_C60 ⟨rfl, rfl, trivial⟩) (M.spec_l01Next_ok _ (Src.mk a0.code x5.2.1 x5.2.2) (hL.exZ 1 0 (by decide) rfl rfl h3) (hL.get 0 rfl) 80000 hx26) ?_)
    rintro e27 wd28 ⟨rfl, hF29⟩
    refine ⟨_, rfl, ?_⟩
    have hL := hL.mut 0 rfl hF29
    simp only [List.cons_append, List.nil_append, List.set_cons_zero, List.set_cons_succ] at hL
    refine OW.cons (OP.val (v := (.int .i64 (w64 (1 + x25.1)))) rfl (x_add rfl rfl) ?_)
    refine OW.cons (OP.val (v := (.int .i64 (w64 (1 + x25.1)))) rfl (x_assign) ?_)
    refine OW.nil ?_
    refine CW.ret ?_
    obtain rfl := Option.some.inj hm
    exact RR1 rfl rfl ⟨rfl, hL.mutOut 1 rfl [0] (by decide) (by decide) rfl⟩

theorem M.spec_l24DrawTime_ok (w0 : World) {b1 : Nat} {v2 : Value} (a0 : Src) (h3 : rdL (fun k => k < w0.heap.size ∧ ¬ (Ent.blk b1 90 #[v2, .int .i64 a0.at_, .int .i64 a0.seed]).S k) w0 v2 a0.code) (he4 : (Ent.blk b1 90 #[v2, .int .i64 a0.at_, .int .i64 a0.seed]).H w0) (a1 : List CurvePoint) {v5 : Value} (h6 : rdL (fun k => k < w0.heap.size ∧ ¬ (Ent.blk b1 90 #[v2, .int .i64 a0.at_, .int .i64 a0.seed]).S k) w0 v5 a1) {r : (Int × Int) × (Int × Int)} (hm : M.spec_l24DrawTime a0 a1 = some r) :
    Calls Try.prog 49 #[(.pointer (some ⟨b1, 0, none⟩)), v5] w0 fun e w' => e = .returned (.tuple #[(.int .i64 r.1.1), (.int .i64 r.1.2)]) ∧ Mut w0 w' (Ent.blk b1 90 #[v2, .int .i64 a0.at_, .int .i64 a0.seed]).S [Ent.blk b1 90 #[v2, .int .i64 r.2.1, .int .i64 r.2.2]] := by
  unfold M.spec_l24DrawTime at hm
  refine calls_CW (args := [(.pointer (some ⟨b1, 0, none⟩)), v5]) Try.func49 rfl rfl rfl ?_
  have hL := Hp.startIO he4
  refine CW.seq ?_
  refine CW.regionL ?_
  refine OW.cons (OP.val (v := (.int .i64 0)) rfl (x_assign) ?_)
  refine OW.cons (OP.val (v := (.int .i64 0)) rfl (x_assign) ?_)
  refine OW.nil ?_
  refine CW.seq ?_
  refine CW.regionL ?_
  refine OW.cons (OP.val (v := (.pointer (some ⟨b1, 0, none⟩))) rfl (x_move) ?_)
  obtain ⟨x7, hx8, hm⟩ := bndE hm
  refine OW.cons (OP.call rfl (x_call (vs := [(.pointer (some ⟨b1, 0, none⟩))]) Try_C61 ⟨rfl, trivial⟩) (M.spec_l23DrawDistance_ok _ (Src.mk a0.code a0.at_ a0.seed) (hL.exZ 1 0 (by decide) rfl rfl h3) (hL.get 0 rfl) hx8) ?_)
  rintro e9 wd10 ⟨rfl, hF11⟩
  refine ⟨_, rfl, ?_⟩
  have hL := hL.mut 0 rfl hF11
  simp only [List.cons_append, List.nil_append, List.set_cons_zero, List.set_cons_succ] at hL
  refine OW.cons (OP.val (v := (.int .i64 x7.1)) rfl (x_assign) ?_)
  refine OW.nil ?_
  refine CW.seq ?_
  refine CW.seqJ (fun (s_j1 : Int × Int × Bool) (F : Fr) (w : World) => F 0 = (.pointer (some ⟨b1, 0, none⟩)) ∧ F 1 = v5 ∧ F 6 = (.int .i64 x7.1) ∧ F 21 = (.bool s_j1.2.2) ∧ Hp w0 [Ent.blk b1 90 #[v2, (.int .i64 s_j1.1), (.int .i64 s_j1.2.1)], Ent.frz w0 (Ent.blk b1 90 #[v2, .int .i64 a0.at_, .int .i64 a0.seed]).S] w) (fun s_j1 => M.spec_l24DrawTime_j1 a0 a1 x7 s_j1 = some r) ?_ ?_
  · refine CW.regionL ?_
    refine OW.cons (OP.val (v := v5) rfl (x_move) ?_)
    obtain ⟨x56, hx57, hm⟩ := bndE hm
    refine OW.cons (OP.call rfl (x_call (vs := [v5]) Try_C35 ⟨rfl, trivial⟩) (M.spec_IsCurve_ok _ a1 (hL.rdZ 1 rfl h6) hx57) ?_)
    rintro e58 wd59 ⟨rfl, hF60⟩
    refine ⟨_, rfl, ?_⟩
    have hL := hL.pushAll hF60
    simp only [List.cons_append, List.nil_append, List.set_cons_zero, List.set_cons_succ] at hL
    refine OW.cons (OP.val (v := (.bool (!x56))) rfl (x_not rfl) ?_)
    refine OW.cons (OP.val (v := (.bool (!x56))) rfl (x_move) ?_)
    refine ifB_elim hm (fun hb61 hm => ?_) (fun hb61 hm => ?_)
    · refine OW.cons (OP.no' rfl rfl hb61 rfl ?_)
      refine OW.cons (OP.no' rfl rfl hb61 rfl ?_)
      refine OW.cons (OP.no' rfl rfl hb61 rfl ?_)
      refine OW.cons (OP.val (v := (.bool true)) rfl (x_pickT' rfl hb61 rfl) ?_)
      refine OW.cons (OP.val (v := (.bool true)) rfl (x_move) ?_)
      refine OW.cons (OP.no' rfl rfl rfl rfl ?_)
      refine OW.cons (OP.no' rfl rfl rfl rfl ?_)
      refine OW.cons (OP.no' rfl rfl rfl rfl ?_)
      refine OW.cons (OP.val (v := (.bool true)) rfl (x_pickT' rfl rfl rfl) ?_)
      refine OW.nil ?_
      exact ⟨(x7.2.1, x7.2.2, true), hm, ⟨rfl, rfl, rfl, rfl, hL⟩⟩
    · refine OW.cons (OP.yes' rfl rfl hb61 (OP.val (v := (.int .i64 x7.1)) rfl (x_move) ?_))
      obtain ⟨x62, hx63, hm⟩ := bndE hm
      refine OW.cons (OP.yes' rfl rfl hb61 (OP.call rfl (x_call (vs := [(.int .i64 x7.1)]) Try_C37 ⟨rfl, trivial⟩) (M.spec_l23Distance_ok _ x7.1 hx63) ?_))
      rintro e64 wd65 ⟨rfl, hF66⟩
      refine ⟨_, rfl, ?_⟩
      have hL := hL.pushAll hF66
      simp only [List.cons_append, List.nil_append, List.set_cons_zero, List.set_cons_succ] at hL
      refine OW.cons (OP.yes' rfl rfl hb61 (OP.val (v := (.bool (!x62))) rfl (x_not rfl) ?_))
      refine OW.cons (OP.val (v := (.bool (!x62))) rfl (x_pickF' rfl hb61 rfl) ?_)
      refine OW.cons (OP.val (v := (.bool (!x62))) rfl (x_move) ?_)
      refine ifB_elim hm (fun hb67 hm => ?_) (fun hb67 hm => ?_)
      · refine OW.cons (OP.no' rfl rfl hb67 rfl ?_)
        refine OW.cons (OP.no' rfl rfl hb67 rfl ?_)
        refine OW.cons (OP.no' rfl rfl hb67 rfl ?_)
        refine OW.cons (OP.val (v := (.bool true)) rfl (x_pickT' rfl hb67 rfl) ?_)
        refine OW.nil ?_
        exact ⟨(x7.2.1, x7.2.2, true), hm, ⟨rfl, rfl, rfl, rfl, hL⟩⟩
      · refine OW.cons (OP.yes' rfl rfl hb67 (OP.val (v := (.pointer (some ⟨b1, 0, none⟩))) rfl (x_move) ?_))
        obtain ⟨x68, hx69, hm⟩ := bndE hm
        refine OW.cons (OP.yes' rfl rfl hb67 (OP.call rfl (x_call (vs := [(.pointer (some ⟨b1, 0, none⟩)), (.int .i64 16)]) Try_C60 ⟨rfl, rfl, trivial⟩) (M.spec_l01Next_ok _ (Src.mk a0.code x7.2.1 x7.2.2) (hL.exZ 1 0 (by decide) rfl rfl h3) (hL.get 0 rfl) 16 hx69) ?_))
        rintro e70 wd71 ⟨rfl, hF72⟩
        refine ⟨_, rfl, ?_⟩
        have hL := hL.mut 0 rfl hF72
        simp only [List.cons_append, List.nil_append, List.set_cons_zero, List.set_cons_succ] at hL
        refine OW.cons (OP.yes' rfl rfl hb67 (OP.val (v := (.bool (x68.1 == 0))) rfl (x_eql rfl rfl) ?_))
        refine OW.cons (OP.val (v := (.bool (x68.1 == 0))) rfl (x_pickF' rfl hb67 rfl) ?_)
        refine OW.nil ?_
        exact ⟨(x68.2.1, x68.2.2, x68.1 == 0), hm, ⟨rfl, rfl, rfl, rfl, hL⟩⟩
  · intro s_j1 F29 wd30 hJ hm
    unfold M.spec_l24DrawTime_j1 at hm
    obtain ⟨f31, f32, f33, f34, hL⟩ := hJ
    refine CW.condM (t := s_j1.2.2) f34 hm (fun hb35 hm => ?_) (fun hb35 hm => ?_)
    · refine CW.seq ?_
      refine CW.regionL ?_
      refine OW.cons (OP.val (v := (.pointer (some ⟨b1, 0, none⟩))) rfl (x_mv f31) ?_)
      obtain ⟨x36, hx37, hm⟩ := bndE hm
      refine OW.cons (OP.call rfl (x_call (vs := [(.pointer (some ⟨b1, 0, none⟩))]) Try_C69 ⟨rfl, trivial⟩) (M.spec_l22DrawTime_ok _ (Src.mk a0.code s_j1.1 s_j1.2.1) (hL.exZ 1 0 (by decide) rfl rfl h3) (hL.get 0 rfl) hx37) ?_)
      rintro e38 wd39 ⟨rfl, hF40⟩
      refine ⟨_, rfl, ?_⟩
      have hL := hL.mut 0 rfl hF40
      simp only [List.cons_append, List.nil_append, List.set_cons_zero, List.set_cons_succ] at hL
      refine OW.cons (OP.val (v := (.int .i64 x7.1)) rfl (x_mv f33) ?_)
      refine OW.cons (OP.val (v := (.int .i64 x36.1)) rfl (x_assign) ?_)
      refine OW.cons (OP.val (v := (.int .i64 x7.1)) rfl (x_assign) ?_)
      refine OW.nil ?_
      refine CW.ret ?_
      obtain rfl := Option.some.inj hm
      exact RR2 rfl rfl rfl ⟨rfl, hL.mutOut 1 rfl [0] (by decide) (by decide) rfl⟩
    · refine CW.skip ?_
      refine CW.seq ?_
      refine CW.regionL ?_
      refine OW.cons (OP.val (v := v5) rfl (x_mv f32) ?_)
      refine OW.cons (OP.val (v := (.pointer (some ⟨b1, 0, none⟩))) rfl (x_mv f31) ?_)
      obtain ⟨x41, hx42, hm⟩ := bndE hm
      refine OW.cons (OP.call rfl (x_call (vs := [(.pointer (some ⟨b1, 0, none⟩)), (.int .i64 300)]) Try_C60 ⟨rfl, rfl, trivial⟩) (M.spec_l01Next_ok _ (Src.mk a0.code s_j1.1 s_j1.2.1) (hL.exZ 1 0 (by decide) rfl rfl h3) (hL.get 0 rfl) 300 hx42) ?_)
      rintro e43 wd44 ⟨rfl, hF45⟩
      refine ⟨_, rfl, ?_⟩
      have hL := hL.mut 0 rfl hF45
      simp only [List.cons_append, List.nil_append, List.set_cons_zero, List.set_cons_succ] at hL
      refine OW.cons (OP.val (v := (.int .i64 x7.1)) rfl (x_mv f33) ?_)
      obtain ⟨x46, hx47, hm⟩ := bndE hm
      refine OW.cons (OP.call rfl (x_call (vs := [v5, (.int .i64 x41.1), (.int .i64 x7.1)]) Try_C68 ⟨rfl, rfl, rfl, trivial⟩) (M.spec_l24Time_ok _ a1 (hL.rdZ 1 rfl h6) x41.1 x7.1 hx47) ?_)
      rintro e48 wd49 ⟨rfl, hF50⟩
      refine ⟨_, rfl, ?_⟩
      have hL := hL.pushAll hF50
      simp only [List.cons_append, List.nil_append, List.set_cons_zero, List.set_cons_succ] at hL
      refine OW.cons (OP.val (v := (.pointer (some ⟨b1, 0, none⟩))) rfl (x_mv f31) ?_)
      obtain ⟨x51, hx52, hm⟩ := bndE hm
      refine OW.cons (OP.call rfl (x_call (vs := [(.pointer (some ⟨b1, 0, none⟩)), (.int .i64 200)]) Try_C60 ⟨rfl, rfl, trivial⟩) (M.spec_l01Next_ok _ (Src.mk a0.code x41.2.1 x41.2.2) (hL.exZ 1 0 (by decide) rfl rfl h3) (hL.get 0 rfl) 200 hx52) ?_)
      rintro e53 wd54 ⟨rfl, hF55⟩
      refine ⟨_, rfl, ?_⟩
      have hL := hL.mut 0 rfl hF55
      simp only [List.cons_append, List.nil_append, List.set_cons_zero, List.set_cons_succ] at hL
      refine OW.cons (OP.val (v := (.int .i64 (w64 (x46 + x51.1)))) rfl (x_add rfl rfl) ?_)
      refine OW.cons (OP.val (v := (.int .i64 (w64 ((w64 (x46 + x51.1)) - 60)))) rfl (x_sub rfl rfl) ?_)
      refine OW.cons (OP.val (v := (.int .i64 (min 1000000000 (w64 ((w64 (x46 + x51.1)) - 60))))) rfl (x_min2 rfl rfl) ?_)
      refine OW.cons (OP.val (v := (.int .i64 (max 1 (min 1000000000 (w64 ((w64 (x46 + x51.1)) - 60)))))) rfl (x_max2 rfl rfl) ?_)
      refine OW.cons (OP.val (v := (.int .i64 x7.1)) rfl (x_mv f33) ?_)
      refine OW.cons (OP.val (v := (.int .i64 (max 1 (min 1000000000 (w64 ((w64 (x46 + x51.1)) - 60)))))) rfl (x_assign) ?_)
      refine OW.cons (OP.val (v := (.int .i64 x7.1)) rfl (x_assign) ?_)
      refine OW.nil ?_
      refine CW.ret ?_
      obtain rfl := Option.some.inj hm
      exact RR2 rfl rfl rfl ⟨rfl, hL.mutOut 1 rfl [0] (by decide) (by decide) rfl⟩

theorem M.spec_DrawImpliedWind_ok (w0 : World) (a0 : List UInt8) {v1 : Value} (h2 : rdL (· < w0.heap.size) w0 v1 a0) {r : (List CurvePoint) × Int × Int} (hm : M.spec_DrawImpliedWind a0 = some r) :
    Calls Try.prog 17 #[v1] w0 fun e w' => ∃ (rv0 : Value) (rS0 : Nat → Prop), e = .returned (.tuple #[rv0, (.int .i64 r.2.1), (.int .i64 r.2.2)]) ∧ Fresh w0 w' [Ent.own 63 rS0 rv0 r.1] := by
  unfold M.spec_DrawImpliedWind at hm
  refine calls_CW (args := [v1]) Try.func17 rfl rfl rfl ?_
  have hL := Hp.start w0
  refine CW.seq ?_
  refine CW.regionL ?_
  refine OW.cons (OP.val (v := (.slice none 0 0)) rfl (x_assign) ?_)
  refine OW.cons (OP.val (v := (.int .i64 0)) rfl (x_assign) ?_)
  refine OW.cons (OP.val (v := (.int .i64 0)) rfl (x_assign) ?_)
  refine OW.nil ?_
  refine CW.seq ?_
  refine CW.regionL ?_
  refine OW.cons (OP.val (v := v1) rfl (x_move) ?_)
  obtain ⟨x3, hx4, hm⟩ := bndE hm
  refine OW.cons (OP.call rfl (x_call (vs := [v1]) Try_C47 ⟨rfl, trivial⟩) (M.spec_l01From_ok _ a0 (hL.rdS 0 rfl h2) hx4) ?_)
  rintro e6 wd7 ⟨b5, rfl, hF8⟩
  refine ⟨_, rfl, ?_⟩
  have hL := hL.pushAll hF8
  simp only [List.cons_append, List.nil_append, List.set_cons_zero, List.set_cons_succ] at hL
  refine OW.cons (OP.val (v := (.pointer (some ⟨b5, 0, none⟩))) rfl (x_assign) ?_)
  refine OW.nil ?_
  refine CW.seq ?_
  refine CW.regionL ?_
  refine OW.cons (OP.val (v := (.pointer (some ⟨b5, 0, none⟩))) rfl (x_move) ?_)
  obtain ⟨x9, hx10, hm⟩ := bndE hm
  refine OW.cons (OP.call rfl (x_call (vs := [(.pointer (some ⟨b5, 0, none⟩))]) Try_C48 ⟨rfl, trivial⟩) (M.spec_l24Draw_ok _ (Src.mk a0 x3.1 x3.2) (hL.exS 1 0 (by decide) rfl rfl h2) (hL.get 0 rfl) hx10) ?_)
  rintro e13 wd14 ⟨v12, S11, rfl, hF15⟩
  refine ⟨_, rfl, ?_⟩
  have hL := hL.mut 0 rfl hF15
  simp only [List.cons_append, List.nil_append, List.set_cons_zero, List.set_cons_succ] at hL
  refine OW.cons (OP.val (v := v12) rfl (x_assign) ?_)
  refine OW.nil ?_
  refine CW.seq ?_
  refine CW.regionL ?_
  refine OW.cons (OP.val (v := (.pointer (some ⟨b5, 0, none⟩))) rfl (x_move) ?_)
  refine OW.cons (OP.val (v := v12) rfl (x_move) ?_)
  obtain ⟨x16, hx17, hm⟩ := bndE hm
  refine OW.cons (OP.call rfl (x_call (vs := [(.pointer (some ⟨b5, 0, none⟩)), v12]) Try_C49 ⟨rfl, rfl, trivial⟩) (M.spec_l24DrawTime_ok _ (Src.mk a0 x9.2.1 x9.2.2) (hL.exS 2 1 (by decide) rfl rfl h2) (hL.get 1 rfl) x9.1 (hL.exO 0 1 (by decide) rfl rfl) hx17) ?_)
  rintro e18 wd19 ⟨rfl, hF20⟩
  refine ⟨_, rfl, ?_⟩
  have hL := hL.mut 1 rfl hF20
  simp only [List.cons_append, List.nil_append, List.set_cons_zero, List.set_cons_succ] at hL
  refine OW.cons (OP.val (v := (.tuple #[(.int .i64 x16.1.1), (.int .i64 x16.1.2)])) rfl (x_move) ?_)
  refine OW.cons (OP.val (v := (.int .i64 x16.1.1)) rfl (x_extract rfl rfl) ?_)
  refine OW.cons (OP.val (v := (.int .i64 x16.1.2)) rfl (x_extract rfl rfl) ?_)
  refine OW.cons (OP.val (v := (.int .i64 x16.1.1)) rfl (x_assign) ?_)
  refine OW.cons (OP.val (v := (.int .i64 x16.1.2)) rfl (x_assign) ?_)
  refine OW.nil ?_
  refine CW.seq ?_
  refine CW.regionL ?_
  refine OW.cons (OP.val (v := v12) rfl (x_move) ?_)
  refine OW.cons (OP.val (v := (.int .i64 x16.1.1)) rfl (x_move) ?_)
  refine OW.cons (OP.val (v := (.int .i64 x16.1.2)) rfl (x_move) ?_)
  refine OW.cons (OP.val (v := v12) rfl (x_assign) ?_)
  refine OW.cons (OP.val (v := (.int .i64 x16.1.1)) rfl (x_assign) ?_)
  refine OW.cons (OP.val (v := (.int .i64 x16.1.2)) rfl (x_assign) ?_)
  refine OW.nil ?_
  refine CW.ret ?_
  obtain rfl := Option.some.inj hm
  exact RR3 rfl rfl rfl rfl ⟨v12, S11, rfl, hL.fresh 2 rfl [0] (by decide) (by decide) rfl⟩

theorem M.impl_isStrength_ok (w0 : World) (a0 : Int) {r : Bool} (hm : M.impl_isStrength a0 = some r) :
    Calls Try.prog 50 #[(.int .i64 a0)] w0 fun e w' => e = .returned (.bool r) ∧ Fresh w0 w' [] := by
  unfold M.impl_isStrength at hm
  refine calls_CW (args := [(.int .i64 a0)]) Try.func50 rfl rfl rfl ?_
  have hL := Hp.start w0
  refine CW.seq ?_
  refine CW.regionL ?_
  refine OW.cons (OP.val (v := (.bool false)) rfl (x_assign) ?_)
  refine OW.nil ?_
  refine CW.seq ?_
  refine CW.regionL ?_
  refine OW.cons (OP.val (v := (.int .i64 a0)) rfl (x_move) ?_)
  obtain ⟨x1, hx2, hm⟩ := bndE hm
  refine OW.cons (OP.call rfl (x_call (vs := [(.int .i64 a0), (.int .i64 0), (.int .i64 1000)]) Try_C54 ⟨rfl, rfl, rfl, trivial⟩) (M.impl_within_ok _ a0 0 1000 hx2) ?_)
  rintro e3 wd4 ⟨rfl, hF5⟩
  refine ⟨_, rfl, ?_⟩
  have hL := hL.pushAll hF5
  simp only [List.cons_append, List.nil_append, List.set_cons_zero, List.set_cons_succ] at hL
  refine OW.cons (OP.val (v := (.bool x1)) rfl (x_assign) ?_)
  refine OW.nil ?_
  refine CW.ret ?_
  obtain rfl := Option.some.inj hm
  exact RR1 rfl rfl ⟨rfl, hL.fresh 0 rfl [] (by decide) (by decide) rfl⟩

theorem M.impl_CurveTime_ok (w0 : World) (a0 : List CurvePoint) {v1 : Value} (h2 : rdL (· < w0.heap.size) w0 v1 a0) (a1 : Int) (a2 : Int) {r : Int × Int} (hm : M.impl_CurveTime a0 a1 a2 = some r) :
    Calls Try.prog 18 #[v1, (.int .i64 a1), (.int .i64 a2)] w0 fun e w' => e = .returned (.tuple #[(.int .i64 r.1), (.int .i64 r.2)]) ∧ Fresh w0 w' [] := by
  unfold M.impl_CurveTime at hm
  refine calls_CW (args := [v1, (.int .i64 a1), (.int .i64 a2)]) Try.func18 rfl rfl rfl ?_
  have hL := Hp.start w0
  refine CW.seq ?_
  refine CW.regionL ?_
  refine OW.cons (OP.val (v := (.int .i64 0)) rfl (x_assign) ?_)
  refine OW.cons (OP.val (v := (.int .i64 0)) rfl (x_assign) ?_)
  refine OW.nil ?_
  refine CW.seq ?_
  refine CW.seq ?_
  refine CW.regionL ?_
  refine OW.cons (OP.val (v := v1) rfl (x_move) ?_)
  obtain ⟨x3, hx4, hm⟩ := bndE hm
  refine OW.cons (OP.call rfl (x_call (vs := [v1]) Try_C40 ⟨rfl, trivial⟩) (M.impl_IsCurve_ok _ a0 (hL.rdS 0 rfl h2) hx4) ?_)
  rintro e5 wd6 ⟨rfl, hF7⟩
  refine ⟨_, rfl, ?_⟩
  have hL := hL.pushAll hF7
  simp only [List.cons_append, List.nil_append, List.set_cons_zero, List.set_cons_succ] at hL
  refine OW.cons (OP.val (v := (.bool (!x3))) rfl (x_not rfl) ?_)
  refine OW.nil ?_
  refine CW.condM (t := !x3) rfl hm (fun hb8 hm => ?_) (fun hb8 hm => ?_)
  · refine CW.seq ?_
    refine CW.regionL ?_
    refine OW.cons (OP.val (v := (.int .i64 0)) rfl (x_assign) ?_)
    refine OW.cons (OP.val (v := (.int .i64 1)) rfl (x_assign) ?_)
    refine OW.nil ?_
    refine CW.ret ?_
    obtain rfl := Option.some.inj hm
    exact RR2 rfl rfl rfl ⟨rfl, hL.fresh 0 rfl [] (by decide) (by decide) rfl⟩
  · refine CW.skip ?_
    refine CW.seq ?_
    refine CW.seqJ (fun (s_j1 : Bool) (F : Fr) (w : World) => F 0 = v1 ∧ F 1 = (.int .i64 a1) ∧ F 2 = (.int .i64 a2) ∧ F 18 = (.bool s_j1) ∧ Hp w0 [Ent.snap w0 w0.heap.size] w) (fun s_j1 => M.impl_CurveTime_j1 a0 a1 a2 s_j1 = some r) ?_ ?_
    · refine CW.regionL ?_
      refine OW.cons (OP.val (v := (.int .i64 a1)) rfl (x_move) ?_)
      obtain ⟨x32, hx33, hm⟩ := bndE hm
      refine OW.cons (OP.call rfl (x_call (vs := [(.int .i64 a1)]) Try_C50 ⟨rfl, trivial⟩) (M.impl_isStrength_ok _ a1 hx33) ?_)
      rintro e34 wd35 ⟨rfl, hF36⟩
      refine ⟨_, rfl, ?_⟩
      have hL := hL.pushAll hF36
      simp only [List.cons_append, List.nil_append, List.set_cons_zero, List.set_cons_succ] at hL
      refine OW.cons (OP.val (v := (.bool (!x32))) rfl (x_not rfl) ?_)
      refine OW.cons (OP.val (v := (.bool (!x32))) rfl (x_move) ?_)
      refine ifB_elim hm (fun hb37 hm => ?_) (fun hb37 hm => ?_)
      · refine OW.cons (OP.no' rfl rfl hb37 rfl ?_)
        refine OW.cons (OP.no' rfl rfl hb37 rfl ?_)
        refine OW.cons (OP.no' rfl rfl hb37 rfl ?_)
        refine OW.cons (OP.val (v := (.bool true)) rfl (x_pickT' rfl hb37 rfl) ?_)
        refine OW.nil ?_
        exact ⟨true, hm, ⟨rfl, rfl, rfl, rfl, hL⟩⟩
      · refine OW.cons (OP.yes' rfl rfl hb37 (OP.val (v := (.int .i64 a2)) rfl (x_move) ?_))
        obtain ⟨x38, hx39, hm⟩ := bndE hm
        refine OW.cons (OP.yes' rfl rfl hb37 (OP.call rfl (x_call (vs := [(.int .i64 a2)]) Try_C42 ⟨rfl, trivial⟩) (M.impl_isDistance_ok _ a2 hx39) ?_))
        rintro e40 wd41 ⟨rfl, hF42⟩
        refine ⟨_, rfl, ?_⟩
        have hL := hL.pushAll hF42
        simp only [List.cons_append, List.nil_append, List.set_cons_zero, List.set_cons_succ] at hL
        refine OW.cons (OP.yes' rfl rfl hb37 (OP.val (v := (.bool (!x38))) rfl (x_not rfl) ?_))
        refine OW.cons (OP.val (v := (.bool (!x38))) rfl (x_pickF' rfl hb37 rfl) ?_)
        refine OW.nil ?_
        exact ⟨!x38, hm, ⟨rfl, rfl, rfl, rfl, hL⟩⟩
    · intro s_j1 F20 wd21 hJ hm
      unfold M.impl_CurveTime_j1 at hm
      obtain ⟨f22, f23, f24, f25, hL⟩ := hJ
      refine CW.condM (t := s_j1) f25 hm (fun hb26 hm => ?_) (fun hb26 hm => ?_)
      · refine CW.seq ?_
        refine CW.regionL ?_
        refine OW.cons (OP.val (v := (.int .i64 0)) rfl (x_assign) ?_)
        refine OW.cons (OP.val (v := (.int .i64 2)) rfl (x_assign) ?_)
        refine OW.nil ?_
        refine CW.ret ?_
        obtain rfl := Option.some.inj hm
        exact RR2 rfl rfl rfl ⟨rfl, hL.fresh 0 rfl [] (by decide) (by decide) rfl⟩
      · refine CW.skip ?_
        refine CW.seq ?_
        refine CW.regionL ?_
        refine OW.cons (OP.val (v := v1) rfl (x_mv f22) ?_)
        refine OW.cons (OP.val (v := (.int .i64 a1)) rfl (x_mv f23) ?_)
        refine OW.cons (OP.val (v := (.int .i64 a2)) rfl (x_mv f24) ?_)
        obtain ⟨x27, hx28, hm⟩ := bndE hm
        refine OW.cons (OP.call rfl (x_call (vs := [v1, (.int .i64 a1), (.int .i64 a2)]) Try_C51 ⟨rfl, rfl, rfl, trivial⟩) (M.impl_curveTime_ok _ a0 (hL.rdS 0 rfl h2) a1 a2 hx28) ?_)
        rintro e29 wd30 ⟨rfl, hF31⟩
        refine ⟨_, rfl, ?_⟩
        have hL := hL.pushAll hF31
        simp only [List.cons_append, List.nil_append, List.set_cons_zero, List.set_cons_succ] at hL
        refine OW.cons (OP.val (v := (.int .i64 x27)) rfl (x_assign) ?_)
        refine OW.cons (OP.val (v := (.int .i64 0)) rfl (x_assign) ?_)
        refine OW.nil ?_
        refine CW.ret ?_
        obtain rfl := Option.some.inj hm
        exact RR2 rfl rfl rfl ⟨rfl, hL.fresh 0 rfl [] (by decide) (by decide) rfl⟩

theorem M.laws_FnImplied_ok (w0 : World) (a0 : List UInt8) {v1 : Value} (h2 : rdL (· < w0.heap.size) w0 v1 a0) {r : Bool} (hm : M.laws_FnImplied a0 = some r) :
    Calls Try.prog 5 #[v1] w0 fun e w' => e = .returned (.bool r) ∧ Fresh w0 w' [] := by
  unfold M.laws_FnImplied at hm
  refine calls_CW (args := [v1]) Try.func5 rfl rfl rfl ?_
  have hL := Hp.start w0
  refine CW.seq ?_
  refine CW.regionL ?_
  refine OW.cons (OP.val (v := (.bool false)) rfl (x_assign) ?_)
  refine OW.nil ?_
  refine CW.seq ?_
  refine CW.seq ?_
  refine CW.regionL ?_
  refine OW.cons (OP.val (v := v1) rfl (x_move) ?_)
  obtain ⟨x3, hx4, hm⟩ := bndE hm
  refine OW.cons (OP.call rfl (x_call (vs := [v1]) Try_C16 ⟨rfl, trivial⟩) (M.laws_big_ok _ a0 (hL.rdS 0 rfl h2) hx4) ?_)
  rintro e5 wd6 ⟨rfl, hF7⟩
  refine ⟨_, rfl, ?_⟩
  have hL := hL.pushAll hF7
  simp only [List.cons_append, List.nil_append, List.set_cons_zero, List.set_cons_succ] at hL
  refine OW.nil ?_
  refine CW.condM (t := x3) rfl hm (fun hb8 hm => ?_) (fun hb8 hm => ?_)
  · refine CW.seq ?_
    refine CW.regionL ?_
    refine OW.cons (OP.val (v := (.bool true)) rfl (x_assign) ?_)
    refine OW.nil ?_
    refine CW.ret ?_
    obtain rfl := Option.some.inj hm
    exact RR1 rfl rfl ⟨rfl, hL.fresh 0 rfl [] (by decide) (by decide) rfl⟩
  · refine CW.skip ?_
    refine CW.seq ?_
    refine CW.regionL ?_
    refine OW.cons (OP.val (v := v1) rfl (x_move) ?_)
    obtain ⟨x9, hx10, hm⟩ := bndE hm
    refine OW.cons (OP.call rfl (x_call (vs := [v1]) Try_C17 ⟨rfl, trivial⟩) (M.spec_DrawImpliedWind_ok _ a0 (hL.rdS 0 rfl h2) hx10) ?_)
    rintro e13 wd14 ⟨v12, S11, rfl, hF15⟩
    refine ⟨_, rfl, ?_⟩
    have hL := hL.pushAll hF15
    simp only [List.cons_append, List.nil_append, List.set_cons_zero, List.set_cons_succ] at hL
    refine OW.cons (OP.val (v := (.tuple #[v12, (.int .i64 x9.2.1), (.int .i64 x9.2.2)])) rfl (x_move) ?_)
    refine OW.cons (OP.val (v := v12) rfl (x_extract rfl rfl) ?_)
    refine OW.cons (OP.val (v := (.int .i64 x9.2.1)) rfl (x_extract rfl rfl) ?_)
    refine OW.cons (OP.val (v := (.int .i64 x9.2.2)) rfl (x_extract rfl rfl) ?_)
    refine OW.cons (OP.val (v := v12) rfl (x_assign) ?_)
    refine OW.cons (OP.val (v := (.int .i64 x9.2.1)) rfl (x_assign) ?_)
    refine OW.cons (OP.val (v := (.int .i64 x9.2.2)) rfl (x_assign) ?_)
    refine OW.nil ?_
    refine CW.seq ?_
    refine CW.regionL ?_
    refine OW.cons (OP.val (v := v12) rfl (x_move) ?_)
    refine OW.cons (OP.val (v := (.int .i64 x9.2.1)) rfl (x_move) ?_)
    refine OW.cons (OP.val (v := (.int .i64 x9.2.2)) rfl (x_move) ?_)
    obtain ⟨x16, hx17, hm⟩ := bndE hm
    refine OW.cons (OP.call rfl (x_call (vs := [v12, (.int .i64 x9.2.1), (.int .i64 x9.2.2)]) Try_C12 ⟨rfl, rfl, rfl, trivial⟩) (M.impl_ImpliedWind_ok _ x9.1 (hL.rdO 0 rfl) x9.2.1 x9.2.2 hx17) ?_)
    rintro e18 wd19 ⟨rfl, hF20⟩
    refine ⟨_, rfl, ?_⟩
    have hL := hL.pushAll hF20
    simp only [List.cons_append, List.nil_append, List.set_cons_zero, List.set_cons_succ] at hL
    refine OW.cons (OP.val (v := (.tuple #[(.int .i64 x16.1), (.int .i64 x16.2)])) rfl (x_move) ?_)
    refine OW.cons (OP.val (v := (.int .i64 x16.1)) rfl (x_extract rfl rfl) ?_)
    refine OW.cons (OP.val (v := (.int .i64 x16.2)) rfl (x_extract rfl rfl) ?_)
    refine OW.cons (OP.val (v := (.int .i64 x16.1)) rfl (x_assign) ?_)
    refine OW.cons (OP.val (v := (.int .i64 x16.2)) rfl (x_assign) ?_)
    refine OW.nil ?_
    refine CW.seq ?_
    refine CW.regionL ?_
    refine OW.cons (OP.val (v := v12) rfl (x_move) ?_)
    refine OW.cons (OP.val (v := (.int .i64 x9.2.1)) rfl (x_move) ?_)
    refine OW.cons (OP.val (v := (.int .i64 x9.2.2)) rfl (x_move) ?_)
    obtain ⟨x21, hx22, hm⟩ := bndE hm
    refine OW.cons (OP.call rfl (x_call (vs := [v12, (.int .i64 x9.2.1), (.int .i64 x9.2.2)]) Try_C10 ⟨rfl, rfl, rfl, trivial⟩) (M.spec_ImpliedWind_ok _ x9.1 (hL.rdO 0 rfl) x9.2.1 x9.2.2 hx22) ?_)
    rintro e23 wd24 ⟨rfl, hF25⟩
    refine ⟨_, rfl, ?_⟩
    have hL := hL.pushAll hF25
    simp only [List.cons_append, List.nil_append, List.set_cons_zero, List.set_cons_succ] at hL
    refine OW.cons (OP.val (v := (.tuple #[(.int .i64 x21.1), (.int .i64 x21.2)])) rfl (x_move) ?_)
    refine OW.cons (OP.val (v := (.int .i64 x21.1)) rfl (x_extract rfl rfl) ?_)
    refine OW.cons (OP.val (v := (.int .i64 x21.2)) rfl (x_extract rfl rfl) ?_)
    refine OW.cons (OP.val (v := (.int .i64 x21.1)) rfl (x_assign) ?_)
    refine OW.cons (OP.val (v := (.int .i64 x21.2)) rfl (x_assign) ?_)
    refine OW.nil ?_
    refine CW.seq ?_
    refine CW.seqJ (fun (s_j1 : Bool) (F : Fr) (w : World) => F 3 = v12 ∧ F 4 = (.int .i64 x9.2.1) ∧ F 5 = (.int .i64 x9.2.2) ∧ F 6 = (.int .i64 x16.1) ∧ F 7 = (.int .i64 x16.2) ∧ F 45 = (.bool s_j1) ∧ Hp w0 [Ent.own 63 S11 v12 x9.1, Ent.snap w0 w0.heap.size] w) (fun s_j1 => M.laws_FnImplied_j1 x9 x16 s_j1 = some r) ?_ ?_
    · refine CW.regionL ?_
      refine OW.cons (OP.val (v := (.int .i64 x16.2)) rfl (x_move) ?_)
      refine OW.cons (OP.val (v := (.int .i64 x21.2)) rfl (x_move) ?_)
      refine OW.cons (OP.val (v := (.bool (x16.2 != x21.2))) rfl (x_neq rfl rfl) ?_)
      refine OW.cons (OP.val (v := (.bool (x16.2 != x21.2))) rfl (x_move) ?_)
      refine ifB_elim hm (fun hb93 hm => ?_) (fun hb93 hm => ?_)
      · refine OW.cons (OP.no' rfl rfl hb93 rfl ?_)
        refine OW.cons (OP.no' rfl rfl hb93 rfl ?_)
        refine OW.cons (OP.no' rfl rfl hb93 rfl ?_)
        refine OW.cons (OP.val (v := (.bool true)) rfl (x_pickT' rfl hb93 rfl) ?_)
        refine OW.nil ?_
        exact ⟨true, hm, ⟨rfl, rfl, rfl, rfl, rfl, rfl, hL⟩⟩
      · refine OW.cons (OP.yes' rfl rfl hb93 (OP.val (v := (.int .i64 x16.1)) rfl (x_move) ?_))
        refine OW.cons (OP.yes' rfl rfl hb93 (OP.val (v := (.int .i64 x21.1)) rfl (x_move) ?_))
        refine OW.cons (OP.yes' rfl rfl hb93 (OP.val (v := (.bool (x16.1 != x21.1))) rfl (x_neq rfl rfl) ?_))
        refine OW.cons (OP.val (v := (.bool (x16.1 != x21.1))) rfl (x_pickF' rfl hb93 rfl) ?_)
        refine OW.nil ?_
        exact ⟨x16.1 != x21.1, hm, ⟨rfl, rfl, rfl, rfl, rfl, rfl, hL⟩⟩
    · intro s_j1 F27 wd28 hJ hm
      unfold M.laws_FnImplied_j1 at hm
      obtain ⟨f29, f30, f31, f32, f33, f34, hL⟩ := hJ
      refine CW.condM (t := s_j1) f34 hm (fun hb35 hm => ?_) (fun hb35 hm => ?_)
      · refine CW.seq ?_
        refine CW.regionL ?_
        refine OW.cons (OP.val (v := (.bool false)) rfl (x_assign) ?_)
        refine OW.nil ?_
        refine CW.ret ?_
        obtain rfl := Option.some.inj hm
        exact RR1 rfl rfl ⟨rfl, hL.fresh 1 rfl [] (by decide) (by decide) rfl⟩
      · refine CW.skip ?_
        refine CW.seq ?_
        refine CW.seqJ (fun (s_j2 : Bool) (F : Fr) (w : World) => F 3 = v12 ∧ F 4 = (.int .i64 x9.2.1) ∧ F 5 = (.int .i64 x9.2.2) ∧ F 6 = (.int .i64 x16.1) ∧ F 7 = (.int .i64 x16.2) ∧ F 51 = (.bool s_j2) ∧ Hp w0 [Ent.own 63 S11 v12 x9.1, Ent.snap w0 w0.heap.size] w) (fun s_j2 => M.laws_FnImplied_j2 x9 x16 s_j2 = some r) ?_ ?_
        · refine CW.regionL ?_
          refine OW.cons (OP.val (v := (.int .i64 x16.2)) rfl (x_mv f33) ?_)
          refine OW.cons (OP.val (v := (.bool (x16.2 == 1))) rfl (x_eql rfl rfl) ?_)
          refine OW.cons (OP.val (v := (.bool (x16.2 == 1))) rfl (x_move) ?_)
          refine ifB_elim hm (fun hb92 hm => ?_) (fun hb92 hm => ?_)
          · refine OW.cons (OP.no' rfl rfl hb92 rfl ?_)
            refine OW.cons (OP.no' rfl rfl hb92 rfl ?_)
            refine OW.cons (OP.val (v := (.bool true)) rfl (x_pickT' rfl hb92 rfl) ?_)
            refine OW.nil ?_
            exact ⟨true, hm, ⟨f29, f30, f31, f32, f33, rfl, hL⟩⟩
          · refine OW.cons (OP.yes' rfl rfl hb92 (OP.val (v := (.int .i64 x16.2)) rfl (x_mv f33) ?_))
            refine OW.cons (OP.yes' rfl rfl hb92 (OP.val (v := (.bool (x16.2 == 2))) rfl (x_eql rfl rfl) ?_))
            refine OW.cons (OP.val (v := (.bool (x16.2 == 2))) rfl (x_pickF' rfl hb92 rfl) ?_)
            refine OW.nil ?_
            exact ⟨x16.2 == 2, hm, ⟨f29, f30, f31, f32, f33, rfl, hL⟩⟩
        · intro s_j2 F37 wd38 hJ hm
          unfold M.laws_FnImplied_j2 at hm
          obtain ⟨f39, f40, f41, f42, f43, f44, hL⟩ := hJ
          refine CW.condM (t := s_j2) f44 hm (fun hb45 hm => ?_) (fun hb45 hm => ?_)
          · refine CW.seq ?_
            refine CW.regionL ?_
            refine OW.cons (OP.val (v := (.bool true)) rfl (x_assign) ?_)
            refine OW.nil ?_
            refine CW.ret ?_
            obtain rfl := Option.some.inj hm
            exact RR1 rfl rfl ⟨rfl, hL.fresh 1 rfl [] (by decide) (by decide) rfl⟩
          · refine CW.skip ?_
            refine CW.seq ?_
            refine CW.regionL ?_
            refine OW.cons (OP.val (v := v12) rfl (x_mv f39) ?_)
            refine OW.cons (OP.val (v := v12) rfl (x_mv f39) ?_)
            refine OW.cons (OP.val (v := (.int .i64 x9.2.1)) rfl (x_mv f40) ?_)
            refine OW.cons (OP.val (v := (.int .i64 x9.2.2)) rfl (x_mv f41) ?_)
            obtain ⟨x46, hx47, hm⟩ := bndE hm
            refine OW.cons (OP.call rfl (x_call (vs := [v12, v12, (.int .i64 x9.2.1), (.int .i64 x9.2.2)]) Try_C15 ⟨rfl, rfl, rfl, rfl, trivial⟩) (M.impl_CurveCorrected_ok _ x9.1 (hL.rdO 0 rfl) x9.1 (hL.rdO 0 rfl) x9.2.1 x9.2.2 hx47) ?_)
            rintro e48 wd49 ⟨rfl, hF50⟩
            refine ⟨_, rfl, ?_⟩
            have hL := hL.pushAll hF50
            simp only [List.cons_append, List.nil_append, List.set_cons_zero, List.set_cons_succ] at hL
            refine OW.cons (OP.val (v := (.tuple #[(.int .i64 x46.1), (.int .i64 x46.2)])) rfl (x_move) ?_)
            refine OW.cons (OP.val (v := (.int .i64 x46.1)) rfl (x_extract rfl rfl) ?_)
            refine OW.cons (OP.val (v := (.int .i64 x46.2)) rfl (x_extract rfl rfl) ?_)
            refine OW.cons (OP.val (v := (.int .i64 x46.1)) rfl (x_assign) ?_)
            refine OW.cons (OP.val (v := (.int .i64 x46.2)) rfl (x_assign) ?_)
            refine OW.nil ?_
            refine CW.seq ?_
            refine CW.seqJ (fun (s_j3 : Bool) (F : Fr) (w : World) => F 3 = v12 ∧ F 4 = (.int .i64 x9.2.1) ∧ F 5 = (.int .i64 x9.2.2) ∧ F 6 = (.int .i64 x16.1) ∧ F 7 = (.int .i64 x16.2) ∧ F 10 = (.int .i64 x46.1) ∧ F 66 = (.bool s_j3) ∧ Hp w0 [Ent.own 63 S11 v12 x9.1, Ent.snap w0 w0.heap.size] w) (fun s_j3 => M.laws_FnImplied_j3 x9 x16 x46 s_j3 = some r) ?_ ?_
            · refine CW.regionL ?_
              refine OW.cons (OP.val (v := (.int .i64 x46.2)) rfl (x_move) ?_)
              refine OW.cons (OP.val (v := (.bool (x46.2 != 0))) rfl (x_neq rfl rfl) ?_)
              refine OW.cons (OP.val (v := (.bool (x46.2 != 0))) rfl (x_move) ?_)
              refine ifB_elim hm (fun hb91 hm => ?_) (fun hb91 hm => ?_)
              · refine OW.cons (OP.no' rfl rfl hb91 rfl ?_)
                refine OW.cons (OP.no' rfl rfl hb91 rfl ?_)
                refine OW.cons (OP.no' rfl rfl hb91 rfl ?_)
                refine OW.cons (OP.val (v := (.bool true)) rfl (x_pickT' rfl hb91 rfl) ?_)
                refine OW.nil ?_
                exact ⟨true, hm, ⟨f39, f40, f41, f42, f43, rfl, rfl, hL⟩⟩
              · refine OW.cons (OP.yes' rfl rfl hb91 (OP.val (v := (.int .i64 x46.1)) rfl (x_move) ?_))
                refine OW.cons (OP.yes' rfl rfl hb91 (OP.val (v := (.int .i64 x9.2.1)) rfl (x_mv f40) ?_))
                refine OW.cons (OP.yes' rfl rfl hb91 (OP.val (v := (.bool (decide (x9.2.1 < x46.1)))) rfl (x_gtr rfl rfl) ?_))
                refine OW.cons (OP.val (v := (.bool (decide (x9.2.1 < x46.1)))) rfl (x_pickF' rfl hb91 rfl) ?_)
                refine OW.nil ?_
                exact ⟨decide (x9.2.1 < x46.1), hm, ⟨f39, f40, f41, f42, f43, rfl, rfl, hL⟩⟩
            · intro s_j3 F52 wd53 hJ hm
              unfold M.laws_FnImplied_j3 at hm
              obtain ⟨f54, f55, f56, f57, f58, f59, f60, hL⟩ := hJ
              refine CW.condM (t := s_j3) f60 hm (fun hb61 hm => ?_) (fun hb61 hm => ?_)
              · refine CW.seq ?_
                refine CW.regionL ?_
                refine OW.cons (OP.val (v := (.bool false)) rfl (x_assign) ?_)
                refine OW.nil ?_
                refine CW.ret ?_
                obtain rfl := Option.some.inj hm
                exact RR1 rfl rfl ⟨rfl, hL.fresh 1 rfl [] (by decide) (by decide) rfl⟩
              · refine CW.skip ?_
                refine CW.seq ?_
                refine CW.seq ?_
                refine CW.regionL ?_
                refine OW.cons (OP.val (v := (.int .i64 x16.2)) rfl (x_mv f58) ?_)
                refine OW.cons (OP.val (v := (.bool (x16.2 != 0))) rfl (x_neq rfl rfl) ?_)
                refine OW.nil ?_
                refine CW.condM (t := x16.2 != 0) rfl hm (fun hb62 hm => ?_) (fun hb62 hm => ?_)
                · refine CW.seq ?_
                  refine CW.regionL ?_
                  refine OW.cons (OP.val (v := (.int .i64 x46.1)) rfl (x_mv f59) ?_)
                  refine OW.cons (OP.val (v := (.int .i64 x9.2.1)) rfl (x_mv f55) ?_)
                  refine OW.cons (OP.val (v := (.bool (x46.1 == x9.2.1))) rfl (x_eql rfl rfl) ?_)
                  refine OW.cons (OP.val (v := (.bool (x46.1 == x9.2.1))) rfl (x_assign) ?_)
                  refine OW.nil ?_
                  refine CW.ret ?_
                  obtain rfl := Option.some.inj hm
                  exact RR1 rfl rfl ⟨rfl, hL.fresh 1 rfl [] (by decide) (by decide) rfl⟩
                · refine CW.skip ?_
                  refine CW.seq ?_
                  refine CW.regionL ?_
                  refine OW.cons (OP.val (v := v12) rfl (x_mv f54) ?_)
                  refine OW.cons (OP.val (v := (.int .i64 x16.1)) rfl (x_mv f57) ?_)
                  refine OW.cons (OP.val (v := (.int .i64 x9.2.2)) rfl (x_mv f56) ?_)
                  obtain ⟨x63, hx64, hm⟩ := bndE hm
                  refine OW.cons (OP.call rfl (x_call (vs := [v12, (.int .i64 x16.1), (.int .i64 x9.2.2)]) Try_C18 ⟨rfl, rfl, rfl, trivial⟩) (M.impl_CurveTime_ok _ x9.1 (hL.rdO 0 rfl) x16.1 x9.2.2 hx64) ?_)
                  rintro e65 wd66 ⟨rfl, hF67⟩
                  refine ⟨_, rfl, ?_⟩
                  have hL := hL.pushAll hF67
                  simp only [List.cons_append, List.nil_append, List.set_cons_zero, List.set_cons_succ] at hL
                  refine OW.cons (OP.val (v := (.tuple #[(.int .i64 x63.1), (.int .i64 x63.2)])) rfl (x_move) ?_)
                  refine OW.cons (OP.val (v := (.int .i64 x63.1)) rfl (x_extract rfl rfl) ?_)
                  refine OW.cons (OP.val (v := (.int .i64 x63.2)) rfl (x_extract rfl rfl) ?_)
                  refine OW.cons (OP.val (v := (.int .i64 x63.1)) rfl (x_assign) ?_)
                  refine OW.cons (OP.val (v := (.int .i64 x63.2)) rfl (x_assign) ?_)
                  refine OW.nil ?_
                  refine CW.seq ?_
                  refine CW.seqJ (fun (s_j4 : Bool) (F : Fr) (w : World) => F 3 = v12 ∧ F 4 = (.int .i64 x9.2.1) ∧ F 5 = (.int .i64 x9.2.2) ∧ F 6 = (.int .i64 x16.1) ∧ F 90 = (.bool s_j4) ∧ Hp w0 [Ent.own 63 S11 v12 x9.1, Ent.snap w0 w0.heap.size] w) (fun s_j4 => M.laws_FnImplied_j4 x9 x16 s_j4 = some r) ?_ ?_
                  · refine CW.regionL ?_
                    refine OW.cons (OP.val (v := (.int .i64 x63.2)) rfl (x_move) ?_)
                    refine OW.cons (OP.val (v := (.bool (x63.2 != 0))) rfl (x_neq rfl rfl) ?_)
                    refine OW.cons (OP.val (v := (.bool (x63.2 != 0))) rfl (x_move) ?_)
                    refine ifB_elim hm (fun hb89 hm => ?_) (fun hb89 hm => ?_)
                    · refine OW.cons (OP.no' rfl rfl hb89 rfl ?_)
                      refine OW.cons (OP.no' rfl rfl hb89 rfl ?_)
                      refine OW.cons (OP.no' rfl rfl hb89 rfl ?_)
                      refine OW.cons (OP.val (v := (.bool true)) rfl (x_pickT' rfl hb89 rfl) ?_)
                      refine OW.cons (OP.val (v := (.bool true)) rfl (x_move) ?_)
                      refine OW.cons (OP.no' rfl rfl rfl rfl ?_)
                      refine OW.cons (OP.no' rfl rfl rfl rfl ?_)
                      refine OW.cons (OP.no' rfl rfl rfl rfl ?_)
                      refine OW.cons (OP.val (v := (.bool true)) rfl (x_pickT' rfl rfl rfl) ?_)
                      refine OW.nil ?_
                      exact ⟨true, hm, ⟨f54, f55, f56, f57, rfl, hL⟩⟩
                    · refine OW.cons (OP.yes' rfl rfl hb89 (OP.val (v := (.int .i64 x63.1)) rfl (x_move) ?_))
                      refine OW.cons (OP.yes' rfl rfl hb89 (OP.val (v := (.int .i64 x9.2.1)) rfl (x_mv f55) ?_))
                      refine OW.cons (OP.yes' rfl rfl hb89 (OP.val (v := (.bool (decide (x9.2.1 < x63.1)))) rfl (x_gtr rfl rfl) ?_))
                      refine OW.cons (OP.val (v := (.bool (decide (x9.2.1 < x63.1)))) rfl (x_pickF' rfl hb89 rfl) ?_)
                      refine OW.cons (OP.val (v := (.bool (decide (x9.2.1 < x63.1)))) rfl (x_move) ?_)
                      refine ifB_elim hm (fun hb90 hm => ?_) (fun hb90 hm => ?_)
                      · refine OW.cons (OP.no' rfl rfl hb90 rfl ?_)
                        refine OW.cons (OP.no' rfl rfl hb90 rfl ?_)
                        refine OW.cons (OP.no' rfl rfl hb90 rfl ?_)
                        refine OW.cons (OP.val (v := (.bool true)) rfl (x_pickT' rfl hb90 rfl) ?_)
                        refine OW.nil ?_
                        exact ⟨true, hm, ⟨f54, f55, f56, f57, rfl, hL⟩⟩
                      · refine OW.cons (OP.yes' rfl rfl hb90 (OP.val (v := (.int .i64 x63.1)) rfl (x_move) ?_))
                        refine OW.cons (OP.yes' rfl rfl hb90 (OP.val (v := (.int .i64 x46.1)) rfl (x_mv f59) ?_))
                        refine OW.cons (OP.yes' rfl rfl hb90 (OP.val (v := (.bool (x63.1 != x46.1))) rfl (x_neq rfl rfl) ?_))
                        refine OW.cons (OP.val (v := (.bool (x63.1 != x46.1))) rfl (x_pickF' rfl hb90 rfl) ?_)
                        refine OW.nil ?_
                        exact ⟨x63.1 != x46.1, hm, ⟨f54, f55, f56, f57, rfl, hL⟩⟩
                  · intro s_j4 F70 wd71 hJ hm
                    unfold M.laws_FnImplied_j4 at hm
                    obtain ⟨f72, f73, f74, f75, f76, hL⟩ := hJ
                    refine CW.condM (t := s_j4) f76 hm (fun hb77 hm => ?_) (fun hb77 hm => ?_)
                    · refine CW.seq ?_
                      refine CW.regionL ?_
                      refine OW.cons (OP.val (v := (.bool false)) rfl (x_assign) ?_)
                      refine OW.nil ?_
                      refine CW.ret ?_
                      obtain rfl := Option.some.inj hm
                      exact RR1 rfl rfl ⟨rfl, hL.fresh 1 rfl [] (by decide) (by decide) rfl⟩
                    · refine CW.skip ?_
                      refine CW.seq ?_
                      refine CW.seq ?_
                      refine CW.regionL ?_
                      refine OW.cons (OP.val (v := (.int .i64 x16.1)) rfl (x_mv f75) ?_)
                      refine OW.cons (OP.val (v := (.bool (x16.1 == 0))) rfl (x_eql rfl rfl) ?_)
                      refine OW.nil ?_
                      refine CW.condM (t := x16.1 == 0) rfl hm (fun hb78 hm => ?_) (fun hb78 hm => ?_)
                      · refine CW.seq ?_
                        refine CW.regionL ?_
                        refine OW.cons (OP.val (v := (.bool true)) rfl (x_assign) ?_)
                        refine OW.nil ?_
                        refine CW.ret ?_
                        obtain rfl := Option.some.inj hm
                        exact RR1 rfl rfl ⟨rfl, hL.fresh 1 rfl [] (by decide) (by decide) rfl⟩
                      · refine CW.skip ?_
                        refine CW.seq ?_
                        refine CW.regionL ?_
                        refine OW.cons (OP.val (v := v12) rfl (x_mv f72) ?_)
                        refine OW.cons (OP.val (v := (.int .i64 x16.1)) rfl (x_mv f75) ?_)
                        refine OW.cons (OP.val (v := (.int .i64 (w64 (x16.1 - 1)))) rfl (x_sub rfl rfl) ?_)
                        refine OW.cons (OP.val (v := (.int .i64 x9.2.2)) rfl (x_mv f74) ?_)
                        obtain ⟨x79, hx80, hm⟩ := bndE hm
                        refine OW.cons (OP.call rfl (x_call (vs := [v12, (.int .i64 (w64 (x16.1 - 1))), (.int .i64 x9.2.2)]) Try_C18 ⟨rfl, rfl, rfl, trivial⟩) (M.impl_CurveTime_ok _ x9.1 (hL.rdO 0 rfl) (w64 (x16.1 - 1)) x9.2.2 hx80) ?_)
                        rintro e81 wd82 ⟨rfl, hF83⟩
                        refine ⟨_, rfl, ?_⟩
                        have hL := hL.pushAll hF83
                        simp only [List.cons_append, List.nil_append, List.set_cons_zero, List.set_cons_succ] at hL
                        refine OW.cons (OP.val (v := (.tuple #[(.int .i64 x79.1), (.int .i64 x79.2)])) rfl (x_move) ?_)
                        refine OW.cons (OP.val (v := (.int .i64 x79.1)) rfl (x_extract rfl rfl) ?_)
                        refine OW.cons (OP.val (v := (.int .i64 x79.2)) rfl (x_extract rfl rfl) ?_)
                        refine OW.cons (OP.val (v := (.int .i64 x79.1)) rfl (x_assign) ?_)
                        refine OW.cons (OP.val (v := (.int .i64 x79.2)) rfl (x_assign) ?_)
                        refine OW.nil ?_
                        refine CW.seqJ (fun (s_j5 : Bool) (F : Fr) (w : World) => F 2 = (.bool s_j5) ∧ Hp w0 [Ent.snap w0 w0.heap.size] w) (fun s_j5 => M.laws_FnImplied_j5 s_j5 = some r) ?_ ?_
                        · refine CW.regionL ?_
                          refine OW.cons (OP.val (v := (.int .i64 x79.2)) rfl (x_move) ?_)
                          refine OW.cons (OP.val (v := (.bool (x79.2 == 0))) rfl (x_eql rfl rfl) ?_)
                          refine OW.cons (OP.val (v := (.bool (x79.2 == 0))) rfl (x_move) ?_)
                          refine ifB_elim hm (fun hb88 hm => ?_) (fun hb88 hm => ?_)
                          · refine OW.cons (OP.yes' rfl rfl hb88 (OP.val (v := (.int .i64 x79.1)) rfl (x_move) ?_))
                            refine OW.cons (OP.yes' rfl rfl hb88 (OP.val (v := (.int .i64 x9.2.1)) rfl (x_mv f73) ?_))
                            refine OW.cons (OP.yes' rfl rfl hb88 (OP.val (v := (.bool (decide (x9.2.1 < x79.1)))) rfl (x_gtr rfl rfl) ?_))
                            refine OW.cons (OP.val (v := (.bool (decide (x9.2.1 < x79.1)))) rfl (x_pickT' rfl hb88 rfl) ?_)
                            refine OW.cons (OP.val (v := (.bool (decide (x9.2.1 < x79.1)))) rfl (x_assign) ?_)
                            refine OW.nil ?_
                            have hL := hL.sel [1] (by decide) rfl
                            exact ⟨decide (x9.2.1 < x79.1), hm, ⟨rfl, hL⟩⟩
                          · refine OW.cons (OP.no' rfl rfl hb88 rfl ?_)
                            refine OW.cons (OP.no' rfl rfl hb88 rfl ?_)
                            refine OW.cons (OP.no' rfl rfl hb88 rfl ?_)
                            refine OW.cons (OP.val (v := (.bool false)) rfl (x_pickF' rfl hb88 rfl) ?_)
                            refine OW.cons (OP.val (v := (.bool false)) rfl (x_assign) ?_)
                            refine OW.nil ?_
                            have hL := hL.sel [1] (by decide) rfl
                            exact ⟨false, hm, ⟨rfl, hL⟩⟩
                        · intro s_j5 F85 wd86 hJ hm
                          unfold M.laws_FnImplied_j5 at hm
                          obtain ⟨f87, hL⟩ := hJ
                          refine CW.ret ?_
                          obtain rfl := Option.some.inj hm
                          exact RR1 rfl f87 ⟨rfl, hL.fresh 0 rfl [] (by decide) (by decide) rfl⟩

end Go.Proofs.Ytkpabfpddkmlnaa
