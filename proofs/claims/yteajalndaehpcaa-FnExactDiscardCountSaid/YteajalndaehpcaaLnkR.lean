/- Links: each Go function returns what its model computes and leaves what was there. Printed by my generator. -/
import Derived.Test.YteajalndaehpcaaMod
import Derived.Test.YteajalndaehpcaaProg
import Derived.KernelRfl
namespace Go.Proofs.Yteajalndaehpcaa
set_option maxRecDepth 10000
open Go Go.RowKit Go.ChangeShapes Go.WideShapes
set_option linter.unusedVariables false

theorem Try_mixed : Try.prog.follows .mixedOrders = true := by kernel_rfl
theorem Try_T2 : TyI Try.prog 2 1 8 (.int .i64 0) := by unfold TyI; kernel_rfl
theorem Try_T23 : TyI Try.prog 23 4 32 (.agg #[.int .i64 0, .int .i64 0, .int .i64 0, .int .i64 0]) := by unfold TyI; kernel_rfl
theorem Try_T25 : TyI Try.prog 25 4 32 (.agg #[.int .i64 0, .int .i64 0, .int .i64 0, .int .i64 0]) := by unfold TyI; kernel_rfl
theorem Try_C7 : CallOK Try.prog 7 := ⟨_, _, Try.func7, rfl, by kernel_rfl⟩
theorem Try_C8 : CallOK Try.prog 8 := ⟨_, _, Try.func8, rfl, by kernel_rfl⟩
theorem Try_C9 : CallOK Try.prog 9 := ⟨_, _, Try.func9, rfl, by kernel_rfl⟩
theorem Try_C10 : CallOK Try.prog 10 := ⟨_, _, Try.func10, rfl, by kernel_rfl⟩
theorem Try_C11 : CallOK Try.prog 11 := ⟨_, _, Try.func11, rfl, by kernel_rfl⟩
theorem Try_C12 : CallOK Try.prog 12 := ⟨_, _, Try.func12, rfl, by kernel_rfl⟩
theorem Try_C13 : CallOK Try.prog 13 := ⟨_, _, Try.func13, rfl, by kernel_rfl⟩
theorem Try_C14 : CallOK Try.prog 14 := ⟨_, _, Try.func14, rfl, by kernel_rfl⟩
theorem Try_C15 : CallOK Try.prog 15 := ⟨_, _, Try.func15, rfl, by kernel_rfl⟩
theorem Try_C16 : CallOK Try.prog 16 := ⟨_, _, Try.func16, rfl, by kernel_rfl⟩
theorem Try_C17 : CallOK Try.prog 17 := ⟨_, _, Try.func17, rfl, by kernel_rfl⟩
theorem Try_C18 : CallOK Try.prog 18 := ⟨_, _, Try.func18, rfl, by kernel_rfl⟩
theorem Try_C19 : CallOK Try.prog 19 := ⟨_, _, Try.func19, rfl, by kernel_rfl⟩
theorem Try_C20 : CallOK Try.prog 20 := ⟨_, _, Try.func20, rfl, by kernel_rfl⟩
theorem Try_C21 : CallOK Try.prog 21 := ⟨_, _, Try.func21, rfl, by kernel_rfl⟩
theorem Try_C22 : CallOK Try.prog 22 := ⟨_, _, Try.func22, rfl, by kernel_rfl⟩
theorem Try_C23 : CallOK Try.prog 23 := ⟨_, _, Try.func23, rfl, by kernel_rfl⟩
theorem Try_C24 : CallOK Try.prog 24 := ⟨_, _, Try.func24, rfl, by kernel_rfl⟩
theorem Try_C25 : CallOK Try.prog 25 := ⟨_, _, Try.func25, rfl, by kernel_rfl⟩

theorem M.laws_toProgressRules_ok (w0 : World) (a0 : ProgressRules) {r : ProgressRules} (hm : M.laws_toProgressRules a0 = some r) :
    Calls Try.prog 8 #[(.agg #[(.int .i64 a0.Gain), (.int .i64 a0.Step), (.int .i64 a0.Low), (.int .i64 a0.High)])] w0 fun e w' => e = .returned (.agg #[(.int .i64 r.Gain), (.int .i64 r.Step), (.int .i64 r.Low), (.int .i64 r.High)]) ∧ Fresh w0 w' [] := by
  unfold M.laws_toProgressRules at hm
  refine calls_CW (args := [(.agg #[(.int .i64 a0.Gain), (.int .i64 a0.Step), (.int .i64 a0.Low), (.int .i64 a0.High)])]) Try.func8 rfl rfl rfl ?_
  have hL := Hp.start w0
  refine CW.seq ?_
  refine CW.regionL ?_
  refine OW.cons (S_box (cs := #[(.int .i64 a0.Gain), (.int .i64 a0.Step), (.int .i64 a0.Low), (.int .i64 a0.High)]) hL rfl rfl rfl ?_)
  intro w1 b2 hL
  refine OW.cons (S_alloc (cs := #[(.int .i64 0), (.int .i64 0), (.int .i64 0), (.int .i64 0)]) hL Try_T25 rfl rfl ?_)
  intro w3 b4 hL
  refine OW.nil ?_
  refine CW.seq ?_
  refine CW.regionL ?_
  refine OW.cons (S_alloc (cs := #[(.int .i64 0), (.int .i64 0), (.int .i64 0), (.int .i64 0)]) hL Try_T25 rfl rfl ?_)
  intro w5 b6 hL
  refine OW.nil ?_
  refine CW.seq ?_
  refine CW.regionL ?_
  refine OW.cons (OP.val (v := (.pointer (some ⟨b2, 0, none⟩))) rfl (x_fieldAddr (fsz := 1) 0 0 0 Try.underlying23 rfl Try_T2 rfl rfl rfl) ?_)
  refine OW.cons (OP.val (v := (.int .i64 a0.Gain)) rfl (x_load1 Try.underlying2 rfl rfl (hL.cellB 2 rfl rfl)) ?_)
  refine OW.cons (OP.val (v := (.pointer (some ⟨b6, 0, none⟩))) rfl (x_fieldAddr (fsz := 1) 0 0 0 Try.underlying25 rfl Try_T2 rfl rfl rfl) ?_)
  refine OW.cons (S_store (cs' := #[(.int .i64 a0.Gain), (.int .i64 0), (.int .i64 0), (.int .i64 0)]) hL 0 rfl Try_T2 rfl rfl rfl rfl rfl ?_)
  intro w7 hL
  refine OW.nil ?_
  refine CW.seq ?_
  refine CW.regionL ?_
  refine OW.cons (OP.val (v := (.pointer (some ⟨b2, 1, none⟩))) rfl (x_fieldAddr (fsz := 1) 0 1 1 Try.underlying23 rfl Try_T2 rfl rfl rfl) ?_)
  refine OW.cons (OP.val (v := (.int .i64 a0.Step)) rfl (x_load1 Try.underlying2 rfl rfl (hL.cellB 2 rfl rfl)) ?_)
  refine OW.cons (OP.val (v := (.pointer (some ⟨b6, 1, none⟩))) rfl (x_fieldAddr (fsz := 1) 0 1 1 Try.underlying25 rfl Try_T2 rfl rfl rfl) ?_)
  refine OW.cons (S_store (cs' := #[(.int .i64 a0.Gain), (.int .i64 a0.Step), (.int .i64 0), (.int .i64 0)]) hL 0 rfl Try_T2 rfl rfl rfl rfl rfl ?_)
  intro w8 hL
  refine OW.nil ?_
  refine CW.seq ?_
  refine CW.regionL ?_
  refine OW.cons (OP.val (v := (.pointer (some ⟨b2, 2, none⟩))) rfl (x_fieldAddr (fsz := 1) 0 2 2 Try.underlying23 rfl Try_T2 rfl rfl rfl) ?_)
  refine OW.cons (OP.val (v := (.int .i64 a0.Low)) rfl (x_load1 Try.underlying2 rfl rfl (hL.cellB 2 rfl rfl)) ?_)
  refine OW.cons (OP.val (v := (.pointer (some ⟨b6, 2, none⟩))) rfl (x_fieldAddr (fsz := 1) 0 2 2 Try.underlying25 rfl Try_T2 rfl rfl rfl) ?_)
  refine OW.cons (S_store (cs' := #[(.int .i64 a0.Gain), (.int .i64 a0.Step), (.int .i64 a0.Low), (.int .i64 0)]) hL 0 rfl Try_T2 rfl rfl rfl rfl rfl ?_)
  intro w9 hL
  refine OW.nil ?_
  refine CW.seq ?_
  refine CW.regionL ?_
  refine OW.cons (OP.val (v := (.pointer (some ⟨b2, 3, none⟩))) rfl (x_fieldAddr (fsz := 1) 0 3 3 Try.underlying23 rfl Try_T2 rfl rfl rfl) ?_)
  refine OW.cons (OP.val (v := (.int .i64 a0.High)) rfl (x_load1 Try.underlying2 rfl rfl (hL.cellB 2 rfl rfl)) ?_)
  refine OW.cons (OP.val (v := (.pointer (some ⟨b6, 3, none⟩))) rfl (x_fieldAddr (fsz := 1) 0 3 3 Try.underlying25 rfl Try_T2 rfl rfl rfl) ?_)
  refine OW.cons (S_store (cs' := #[(.int .i64 a0.Gain), (.int .i64 a0.Step), (.int .i64 a0.Low), (.int .i64 a0.High)]) hL 0 rfl Try_T2 rfl rfl rfl rfl rfl ?_)
  intro w10 hL
  refine OW.nil ?_
  refine CW.seq ?_
  refine CW.regionL ?_
  refine OW.cons (OP.val (v := (.agg #[(.int .i64 a0.Gain), (.int .i64 a0.Step), (.int .i64 a0.Low), (.int .i64 a0.High)])) rfl (x_loadN (cs := [(.int .i64 a0.Gain), (.int .i64 a0.Step), (.int .i64 a0.Low), (.int .i64 a0.High)]) Try.underlying25 Try_T25 rfl rfl (hL.cellsB 0 rfl (o := 0) (l := [(.int .i64 a0.Gain), (.int .i64 a0.Step), (.int .i64 a0.Low), (.int .i64 a0.High)]) (by intro j u hj; exact (by simpa using hj)))) ?_)
  refine OW.cons (S_storeN (l := [(.int .i64 a0.Gain), (.int .i64 a0.Step), (.int .i64 a0.Low), (.int .i64 a0.High)]) (cs' := #[(.int .i64 a0.Gain), (.int .i64 a0.Step), (.int .i64 a0.Low), (.int .i64 a0.High)]) hL 1 rfl Try_T25 rfl rfl (by simp [Value.oneCell']) rfl (by decide) rfl ?_)
  intro w11 hL
  refine OW.nil ?_
  refine CW.ret ?_
  obtain rfl := Option.some.inj hm
  exact RRc rfl rfl (run_loadBlk Try.underlying25 Try_T25 (hL.get 1 rfl) rfl) ⟨rfl, hL.fresh 3 rfl [] (by decide) (by decide) rfl⟩

theorem M.spec_l01In_ok (w0 : World) (a0 : Int) (a1 : Int) (a2 : Int) {r : Bool} (hm : M.spec_l01In a0 a1 a2 = some r) :
    Calls Try.prog 18 #[(.int .i64 a0), (.int .i64 a1), (.int .i64 a2)] w0 fun e w' => e = .returned (.bool r) ∧ Fresh w0 w' [] := by
  unfold M.spec_l01In at hm
  refine calls_CW (args := [(.int .i64 a0), (.int .i64 a1), (.int .i64 a2)]) Try.func18 rfl rfl rfl ?_
  have hL := Hp.start w0
  refine CW.seq ?_
  refine CW.regionL ?_
  refine OW.cons (OP.val (v := (.bool false)) rfl (x_assign) ?_)
  refine OW.nil ?_
  refine CW.seqJ (fun (s_j1 : Bool) (F : Fr) (w : World) => F 6 = (.bool s_j1) ∧ Hp w0 [Ent.snap w0 w0.heap.size] w) (fun s_j1 => M.spec_l01In_j1 s_j1 = some r) ?_ ?_
  · refine CW.regionL ?_
    refine OW.cons (OP.val (v := (.int .i64 a0)) rfl (x_move) ?_)
    refine OW.cons (OP.val (v := (.int .i64 a1)) rfl (x_move) ?_)
    refine OW.cons (OP.val (v := (.bool (decide (a1 ≤ a0)))) rfl (x_geq rfl rfl) ?_)
    refine OW.cons (OP.val (v := (.bool (decide (a1 ≤ a0)))) rfl (x_move) ?_)
    refine ifB_elim hm (fun hb5 hm => ?_) (fun hb5 hm => ?_)
    · refine OW.cons (OP.yes' rfl rfl hb5 (OP.val (v := (.int .i64 a0)) rfl (x_move) ?_))
      refine OW.cons (OP.yes' rfl rfl hb5 (OP.val (v := (.int .i64 a2)) rfl (x_move) ?_))
      refine OW.cons (OP.yes' rfl rfl hb5 (OP.val (v := (.bool (decide (a0 ≤ a2)))) rfl (x_leq rfl rfl) ?_))
      refine OW.cons (OP.val (v := (.bool (decide (a0 ≤ a2)))) rfl (x_pickT' rfl hb5 rfl) ?_)
      refine OW.cons (OP.val (v := (.bool (decide (a0 ≤ a2)))) rfl (x_assign) ?_)
      refine OW.nil ?_
      exact ⟨decide (a0 ≤ a2), hm, ⟨rfl, hL⟩⟩
    · refine OW.cons (OP.no' rfl rfl hb5 rfl ?_)
      refine OW.cons (OP.no' rfl rfl hb5 rfl ?_)
      refine OW.cons (OP.no' rfl rfl hb5 rfl ?_)
      refine OW.cons (OP.val (v := (.bool false)) rfl (x_pickF' rfl hb5 rfl) ?_)
      refine OW.cons (OP.val (v := (.bool false)) rfl (x_assign) ?_)
      refine OW.nil ?_
      exact ⟨false, hm, ⟨rfl, hL⟩⟩
  · intro s_j1 F2 w3 hJ hm
    unfold M.spec_l01In_j1 at hm
    obtain ⟨f4, hL⟩ := hJ
    refine CW.ret ?_
    obtain rfl := Option.some.inj hm
    exact RR1 rfl f4 ⟨rfl, hL.fresh 0 rfl [] (by decide) (by decide) rfl⟩

theorem M.spec_l22Factor_ok (w0 : World) (a0 : Int) {r : Bool} (hm : M.spec_l22Factor a0 = some r) :
    Calls Try.prog 19 #[(.int .i64 a0)] w0 fun e w' => e = .returned (.bool r) ∧ Fresh w0 w' [] := by
  unfold M.spec_l22Factor at hm
  refine calls_CW (args := [(.int .i64 a0)]) Try.func19 rfl rfl rfl ?_
  have hL := Hp.start w0
  refine CW.seq ?_
  refine CW.regionL ?_
  refine OW.cons (OP.val (v := (.bool false)) rfl (x_assign) ?_)
  refine OW.nil ?_
  refine CW.seq ?_
  refine CW.regionL ?_
  refine OW.cons (OP.val (v := (.int .i64 a0)) rfl (x_move) ?_)
  obtain ⟨x1, hx2, hm⟩ := bndE hm
  refine OW.cons (OP.call rfl (x_call (vs := [(.int .i64 a0), (.int .i64 1), (.int .i64 3000)]) Try_C18 ⟨rfl, rfl, rfl, trivial⟩) (M.spec_l01In_ok _ a0 1 3000 hx2) ?_)
  rintro e3 w4 ⟨rfl, hF5⟩
  refine ⟨_, rfl, ?_⟩
  have hL := hL.pushAll hF5
  simp only [List.nil_append] at hL
  refine OW.cons (OP.val (v := (.bool x1)) rfl (x_assign) ?_)
  refine OW.nil ?_
  refine CW.ret ?_
  obtain rfl := Option.some.inj hm
  exact RR1 rfl rfl ⟨rfl, hL.fresh 0 rfl [] (by decide) (by decide) rfl⟩

theorem M.spec_IsProgress_ok (w0 : World) (a0 : ProgressRules) {r : Bool} (hm : M.spec_IsProgress a0 = some r) :
    Calls Try.prog 7 #[(.agg #[(.int .i64 a0.Gain), (.int .i64 a0.Step), (.int .i64 a0.Low), (.int .i64 a0.High)])] w0 fun e w' => e = .returned (.bool r) ∧ Fresh w0 w' [] := by
  unfold M.spec_IsProgress at hm
  refine calls_CW (args := [(.agg #[(.int .i64 a0.Gain), (.int .i64 a0.Step), (.int .i64 a0.Low), (.int .i64 a0.High)])]) Try.func7 rfl rfl rfl ?_
  have hL := Hp.start w0
  refine CW.seq ?_
  refine CW.regionL ?_
  refine OW.cons (S_box (cs := #[(.int .i64 a0.Gain), (.int .i64 a0.Step), (.int .i64 a0.Low), (.int .i64 a0.High)]) hL rfl rfl rfl ?_)
  intro w1 b2 hL
  refine OW.cons (OP.val (v := (.bool false)) rfl (x_assign) ?_)
  refine OW.nil ?_
  refine CW.seqJ (fun (s_j1 : Bool) (F : Fr) (w : World) => F 2 = (.bool s_j1) ∧ Hp w0 [Ent.blk b2 25 #[(.int .i64 a0.Gain), (.int .i64 a0.Step), (.int .i64 a0.Low), (.int .i64 a0.High)], Ent.snap w0 w0.heap.size] w) (fun s_j1 => M.spec_IsProgress_j1 s_j1 = some r) ?_ ?_
  · refine CW.regionL ?_
    refine OW.cons (OP.val (v := (.pointer (some ⟨b2, 0, none⟩))) rfl (x_fieldAddr (fsz := 1) 0 0 0 Try.underlying25 rfl Try_T2 rfl rfl rfl) ?_)
    refine OW.cons (OP.val (v := (.int .i64 a0.Gain)) rfl (x_load1 Try.underlying2 rfl rfl (hL.cellB 0 rfl rfl)) ?_)
    obtain ⟨x30, hx31, hm⟩ := bndE hm
    refine OW.cons (OP.call rfl (x_call (vs := [(.int .i64 a0.Gain), (.int .i64 0), (.int .i64 1000)]) Try_C18 ⟨rfl, rfl, rfl, trivial⟩) (M.spec_l01In_ok _ a0.Gain 0 1000 hx31) ?_)
    rintro e32 w33 ⟨rfl, hF34⟩
    refine ⟨_, rfl, ?_⟩
    have hL := hL.pushAll hF34
    simp only [List.nil_append] at hL
    refine OW.cons (OP.val (v := (.bool x30)) rfl (x_move) ?_)
    refine ifB_elim hm (fun hb35 hm => ?_) (fun hb35 hm => ?_)
    · refine OW.cons (OP.yes' rfl rfl hb35 (OP.val (v := (.pointer (some ⟨b2, 1, none⟩))) rfl (x_fieldAddr (fsz := 1) 0 1 1 Try.underlying25 rfl Try_T2 rfl rfl rfl) ?_))
      refine OW.cons (OP.yes' rfl rfl hb35 (OP.val (v := (.int .i64 a0.Step)) rfl (x_load1 Try.underlying2 rfl rfl (hL.cellB 0 rfl rfl)) ?_))
      obtain ⟨x36, hx37, hm⟩ := bndE hm
      refine OW.cons (OP.yes' rfl rfl hb35 (OP.call rfl (x_call (vs := [(.int .i64 a0.Step), (.int .i64 0), (.int .i64 3000)]) Try_C18 ⟨rfl, rfl, rfl, trivial⟩) (M.spec_l01In_ok _ a0.Step 0 3000 hx37) ?_))
      rintro e38 w39 ⟨rfl, hF40⟩
      refine ⟨_, rfl, ?_⟩
      have hL := hL.pushAll hF40
      simp only [List.nil_append] at hL
      refine OW.cons (OP.val (v := (.bool x36)) rfl (x_pickT' rfl hb35 rfl) ?_)
      refine OW.cons (OP.val (v := (.bool x36)) rfl (x_move) ?_)
      refine ifB_elim hm (fun hb41 hm => ?_) (fun hb41 hm => ?_)
      · refine OW.cons (OP.yes' rfl rfl hb41 (OP.val (v := (.pointer (some ⟨b2, 2, none⟩))) rfl (x_fieldAddr (fsz := 1) 0 2 2 Try.underlying25 rfl Try_T2 rfl rfl rfl) ?_))
        refine OW.cons (OP.yes' rfl rfl hb41 (OP.val (v := (.int .i64 a0.Low)) rfl (x_load1 Try.underlying2 rfl rfl (hL.cellB 0 rfl rfl)) ?_))
        obtain ⟨x42, hx43, hm⟩ := bndE hm
        refine OW.cons (OP.yes' rfl rfl hb41 (OP.call rfl (x_call (vs := [(.int .i64 a0.Low)]) Try_C19 ⟨rfl, trivial⟩) (M.spec_l22Factor_ok _ a0.Low hx43) ?_))
        rintro e44 w45 ⟨rfl, hF46⟩
        refine ⟨_, rfl, ?_⟩
        have hL := hL.pushAll hF46
        simp only [List.nil_append] at hL
        refine OW.cons (OP.val (v := (.bool x42)) rfl (x_pickT' rfl hb41 rfl) ?_)
        refine OW.cons (OP.val (v := (.bool x42)) rfl (x_move) ?_)
        refine ifB_elim hm (fun hb47 hm => ?_) (fun hb47 hm => ?_)
        · refine OW.cons (OP.yes' rfl rfl hb47 (OP.val (v := (.pointer (some ⟨b2, 3, none⟩))) rfl (x_fieldAddr (fsz := 1) 0 3 3 Try.underlying25 rfl Try_T2 rfl rfl rfl) ?_))
          refine OW.cons (OP.yes' rfl rfl hb47 (OP.val (v := (.int .i64 a0.High)) rfl (x_load1 Try.underlying2 rfl rfl (hL.cellB 0 rfl rfl)) ?_))
          obtain ⟨x48, hx49, hm⟩ := bndE hm
          refine OW.cons (OP.yes' rfl rfl hb47 (OP.call rfl (x_call (vs := [(.int .i64 a0.High)]) Try_C19 ⟨rfl, trivial⟩) (M.spec_l22Factor_ok _ a0.High hx49) ?_))
          rintro e50 w51 ⟨rfl, hF52⟩
          refine ⟨_, rfl, ?_⟩
          have hL := hL.pushAll hF52
          simp only [List.nil_append] at hL
          refine OW.cons (OP.val (v := (.bool x48)) rfl (x_pickT' rfl hb47 rfl) ?_)
          refine OW.cons (OP.val (v := (.bool x48)) rfl (x_move) ?_)
          refine ifB_elim hm (fun hb53 hm => ?_) (fun hb53 hm => ?_)
          · refine OW.cons (OP.yes' rfl rfl hb53 (OP.val (v := (.pointer (some ⟨b2, 2, none⟩))) rfl (x_fieldAddr (fsz := 1) 0 2 2 Try.underlying25 rfl Try_T2 rfl rfl rfl) ?_))
            refine OW.cons (OP.yes' rfl rfl hb53 (OP.val (v := (.int .i64 a0.Low)) rfl (x_load1 Try.underlying2 rfl rfl (hL.cellB 0 rfl rfl)) ?_))
            refine OW.cons (OP.yes' rfl rfl hb53 (OP.val (v := (.pointer (some ⟨b2, 3, none⟩))) rfl (x_fieldAddr (fsz := 1) 0 3 3 Try.underlying25 rfl Try_T2 rfl rfl rfl) ?_))
            refine OW.cons (OP.yes' rfl rfl hb53 (OP.val (v := (.int .i64 a0.High)) rfl (x_load1 Try.underlying2 rfl rfl (hL.cellB 0 rfl rfl)) ?_))
            refine OW.cons (OP.yes' rfl rfl hb53 (OP.val (v := (.bool (decide (a0.Low ≤ a0.High)))) rfl (x_leq rfl rfl) ?_))
            refine OW.cons (OP.val (v := (.bool (decide (a0.Low ≤ a0.High)))) rfl (x_pickT' rfl hb53 rfl) ?_)
            refine OW.cons (OP.val (v := (.bool (decide (a0.Low ≤ a0.High)))) rfl (x_assign) ?_)
            refine OW.nil ?_
            exact ⟨decide (a0.Low ≤ a0.High), hm, ⟨rfl, hL⟩⟩
          · refine OW.cons (OP.no' rfl rfl hb53 rfl ?_)
            refine OW.cons (OP.no' rfl rfl hb53 rfl ?_)
            refine OW.cons (OP.no' rfl rfl hb53 rfl ?_)
            refine OW.cons (OP.no' rfl rfl hb53 rfl ?_)
            refine OW.cons (OP.no' rfl rfl hb53 rfl ?_)
            refine OW.cons (OP.val (v := (.bool false)) rfl (x_pickF' rfl hb53 rfl) ?_)
            refine OW.cons (OP.val (v := (.bool false)) rfl (x_assign) ?_)
            refine OW.nil ?_
            exact ⟨false, hm, ⟨rfl, hL⟩⟩
        · refine OW.cons (OP.no' rfl rfl hb47 rfl ?_)
          refine OW.cons (OP.no' rfl rfl hb47 rfl ?_)
          refine OW.cons (OP.no' rfl rfl hb47 rfl ?_)
          refine OW.cons (OP.val (v := (.bool false)) rfl (x_pickF' rfl hb47 rfl) ?_)
          refine OW.cons (OP.val (v := (.bool false)) rfl (x_move) ?_)
          refine OW.cons (OP.no' rfl rfl rfl rfl ?_)
          refine OW.cons (OP.no' rfl rfl rfl rfl ?_)
          refine OW.cons (OP.no' rfl rfl rfl rfl ?_)
          refine OW.cons (OP.no' rfl rfl rfl rfl ?_)
          refine OW.cons (OP.no' rfl rfl rfl rfl ?_)
          refine OW.cons (OP.val (v := (.bool false)) rfl (x_pickF' rfl rfl rfl) ?_)
          refine OW.cons (OP.val (v := (.bool false)) rfl (x_assign) ?_)
          refine OW.nil ?_
          exact ⟨false, hm, ⟨rfl, hL⟩⟩
      · refine OW.cons (OP.no' rfl rfl hb41 rfl ?_)
        refine OW.cons (OP.no' rfl rfl hb41 rfl ?_)
        refine OW.cons (OP.no' rfl rfl hb41 rfl ?_)
        refine OW.cons (OP.val (v := (.bool false)) rfl (x_pickF' rfl hb41 rfl) ?_)
        refine OW.cons (OP.val (v := (.bool false)) rfl (x_move) ?_)
        refine OW.cons (OP.no' rfl rfl rfl rfl ?_)
        refine OW.cons (OP.no' rfl rfl rfl rfl ?_)
        refine OW.cons (OP.no' rfl rfl rfl rfl ?_)
        refine OW.cons (OP.val (v := (.bool false)) rfl (x_pickF' rfl rfl rfl) ?_)
        refine OW.cons (OP.val (v := (.bool false)) rfl (x_move) ?_)
        refine OW.cons (OP.no' rfl rfl rfl rfl ?_)
        refine OW.cons (OP.no' rfl rfl rfl rfl ?_)
        refine OW.cons (OP.no' rfl rfl rfl rfl ?_)
        refine OW.cons (OP.no' rfl rfl rfl rfl ?_)
        refine OW.cons (OP.no' rfl rfl rfl rfl ?_)
        refine OW.cons (OP.val (v := (.bool false)) rfl (x_pickF' rfl rfl rfl) ?_)
        refine OW.cons (OP.val (v := (.bool false)) rfl (x_assign) ?_)
        refine OW.nil ?_
        exact ⟨false, hm, ⟨rfl, hL⟩⟩
    · refine OW.cons (OP.no' rfl rfl hb35 rfl ?_)
      refine OW.cons (OP.no' rfl rfl hb35 rfl ?_)
      refine OW.cons (OP.no' rfl rfl hb35 rfl ?_)
      refine OW.cons (OP.val (v := (.bool false)) rfl (x_pickF' rfl hb35 rfl) ?_)
      refine OW.cons (OP.val (v := (.bool false)) rfl (x_move) ?_)
      refine OW.cons (OP.no' rfl rfl rfl rfl ?_)
      refine OW.cons (OP.no' rfl rfl rfl rfl ?_)
      refine OW.cons (OP.no' rfl rfl rfl rfl ?_)
      refine OW.cons (OP.val (v := (.bool false)) rfl (x_pickF' rfl rfl rfl) ?_)
      refine OW.cons (OP.val (v := (.bool false)) rfl (x_move) ?_)
      refine OW.cons (OP.no' rfl rfl rfl rfl ?_)
      refine OW.cons (OP.no' rfl rfl rfl rfl ?_)
      refine OW.cons (OP.no' rfl rfl rfl rfl ?_)
      refine OW.cons (OP.val (v := (.bool false)) rfl (x_pickF' rfl rfl rfl) ?_)
      refine OW.cons (OP.val (v := (.bool false)) rfl (x_move) ?_)
      refine OW.cons (OP.no' rfl rfl rfl rfl ?_)
      refine OW.cons (OP.no' rfl rfl rfl rfl ?_)
      refine OW.cons (OP.no' rfl rfl rfl rfl ?_)
      refine OW.cons (OP.no' rfl rfl rfl rfl ?_)
      refine OW.cons (OP.no' rfl rfl rfl rfl ?_)
      refine OW.cons (OP.val (v := (.bool false)) rfl (x_pickF' rfl rfl rfl) ?_)
      refine OW.cons (OP.val (v := (.bool false)) rfl (x_assign) ?_)
      refine OW.nil ?_
      exact ⟨false, hm, ⟨rfl, hL⟩⟩
  · intro s_j1 F27 w28 hJ hm
    unfold M.spec_IsProgress_j1 at hm
    obtain ⟨f29, hL⟩ := hJ
    refine CW.ret ?_
    obtain rfl := Option.some.inj hm
    exact RR1 rfl f29 ⟨rfl, hL.fresh 1 rfl [] (by decide) (by decide) rfl⟩

theorem M.impl_within_ok (w0 : World) (a0 : Int) (a1 : Int) (a2 : Int) {r : Bool} (hm : M.impl_within a0 a1 a2 = some r) :
    Calls Try.prog 20 #[(.int .i64 a0), (.int .i64 a1), (.int .i64 a2)] w0 fun e w' => e = .returned (.bool r) ∧ Fresh w0 w' [] := by
  unfold M.impl_within at hm
  refine calls_CW (args := [(.int .i64 a0), (.int .i64 a1), (.int .i64 a2)]) Try.func20 rfl rfl rfl ?_
  have hL := Hp.start w0
  refine CW.seq ?_
  refine CW.regionL ?_
  refine OW.cons (OP.val (v := (.bool false)) rfl (x_assign) ?_)
  refine OW.nil ?_
  refine CW.seqJ (fun (s_j1 : Bool) (F : Fr) (w : World) => F 6 = (.bool s_j1) ∧ Hp w0 [Ent.snap w0 w0.heap.size] w) (fun s_j1 => M.impl_within_j1 s_j1 = some r) ?_ ?_
  · refine CW.regionL ?_
    refine OW.cons (OP.val (v := (.int .i64 a0)) rfl (x_move) ?_)
    refine OW.cons (OP.val (v := (.int .i64 a1)) rfl (x_move) ?_)
    refine OW.cons (OP.val (v := (.bool (decide (a1 ≤ a0)))) rfl (x_geq rfl rfl) ?_)
    refine OW.cons (OP.val (v := (.bool (decide (a1 ≤ a0)))) rfl (x_move) ?_)
    refine ifB_elim hm (fun hb5 hm => ?_) (fun hb5 hm => ?_)
    · refine OW.cons (OP.yes' rfl rfl hb5 (OP.val (v := (.int .i64 a0)) rfl (x_move) ?_))
      refine OW.cons (OP.yes' rfl rfl hb5 (OP.val (v := (.int .i64 a2)) rfl (x_move) ?_))
      refine OW.cons (OP.yes' rfl rfl hb5 (OP.val (v := (.bool (decide (a0 ≤ a2)))) rfl (x_leq rfl rfl) ?_))
      refine OW.cons (OP.val (v := (.bool (decide (a0 ≤ a2)))) rfl (x_pickT' rfl hb5 rfl) ?_)
      refine OW.cons (OP.val (v := (.bool (decide (a0 ≤ a2)))) rfl (x_assign) ?_)
      refine OW.nil ?_
      exact ⟨decide (a0 ≤ a2), hm, ⟨rfl, hL⟩⟩
    · refine OW.cons (OP.no' rfl rfl hb5 rfl ?_)
      refine OW.cons (OP.no' rfl rfl hb5 rfl ?_)
      refine OW.cons (OP.no' rfl rfl hb5 rfl ?_)
      refine OW.cons (OP.val (v := (.bool false)) rfl (x_pickF' rfl hb5 rfl) ?_)
      refine OW.cons (OP.val (v := (.bool false)) rfl (x_assign) ?_)
      refine OW.nil ?_
      exact ⟨false, hm, ⟨rfl, hL⟩⟩
  · intro s_j1 F2 w3 hJ hm
    unfold M.impl_within_j1 at hm
    obtain ⟨f4, hL⟩ := hJ
    refine CW.ret ?_
    obtain rfl := Option.some.inj hm
    exact RR1 rfl f4 ⟨rfl, hL.fresh 0 rfl [] (by decide) (by decide) rfl⟩

theorem M.impl_IsProgress_ok (w0 : World) (a0 : ProgressRules) {r : Bool} (hm : M.impl_IsProgress a0 = some r) :
    Calls Try.prog 9 #[(.agg #[(.int .i64 a0.Gain), (.int .i64 a0.Step), (.int .i64 a0.Low), (.int .i64 a0.High)])] w0 fun e w' => e = .returned (.bool r) ∧ Fresh w0 w' [] := by
  unfold M.impl_IsProgress at hm
  refine calls_CW (args := [(.agg #[(.int .i64 a0.Gain), (.int .i64 a0.Step), (.int .i64 a0.Low), (.int .i64 a0.High)])]) Try.func9 rfl rfl rfl ?_
  have hL := Hp.start w0
  refine CW.seq ?_
  refine CW.regionL ?_
  refine OW.cons (S_box (cs := #[(.int .i64 a0.Gain), (.int .i64 a0.Step), (.int .i64 a0.Low), (.int .i64 a0.High)]) hL rfl rfl rfl ?_)
  intro w1 b2 hL
  refine OW.cons (OP.val (v := (.bool false)) rfl (x_assign) ?_)
  refine OW.nil ?_
  refine CW.seqJ (fun (s_j1 : Bool) (F : Fr) (w : World) => F 2 = (.bool s_j1) ∧ Hp w0 [Ent.blk b2 25 #[(.int .i64 a0.Gain), (.int .i64 a0.Step), (.int .i64 a0.Low), (.int .i64 a0.High)], Ent.snap w0 w0.heap.size] w) (fun s_j1 => M.impl_IsProgress_j1 s_j1 = some r) ?_ ?_
  · refine CW.regionL ?_
    refine OW.cons (OP.val (v := (.pointer (some ⟨b2, 0, none⟩))) rfl (x_fieldAddr (fsz := 1) 0 0 0 Try.underlying25 rfl Try_T2 rfl rfl rfl) ?_)
    refine OW.cons (OP.val (v := (.int .i64 a0.Gain)) rfl (x_load1 Try.underlying2 rfl rfl (hL.cellB 0 rfl rfl)) ?_)
    obtain ⟨x24, hx25, hm⟩ := bndE hm
    refine OW.cons (OP.call rfl (x_call (vs := [(.int .i64 a0.Gain), (.int .i64 0), (.int .i64 1000)]) Try_C20 ⟨rfl, rfl, rfl, trivial⟩) (M.impl_within_ok _ a0.Gain 0 1000 hx25) ?_)
    rintro e26 w27 ⟨rfl, hF28⟩
    refine ⟨_, rfl, ?_⟩
    have hL := hL.pushAll hF28
    simp only [List.nil_append] at hL
    refine OW.cons (OP.val (v := (.bool x24)) rfl (x_move) ?_)
    refine ifB_elim hm (fun hb29 hm => ?_) (fun hb29 hm => ?_)
    · refine OW.cons (OP.yes' rfl rfl hb29 (OP.val (v := (.pointer (some ⟨b2, 1, none⟩))) rfl (x_fieldAddr (fsz := 1) 0 1 1 Try.underlying25 rfl Try_T2 rfl rfl rfl) ?_))
      refine OW.cons (OP.yes' rfl rfl hb29 (OP.val (v := (.int .i64 a0.Step)) rfl (x_load1 Try.underlying2 rfl rfl (hL.cellB 0 rfl rfl)) ?_))
      obtain ⟨x30, hx31, hm⟩ := bndE hm
      refine OW.cons (OP.yes' rfl rfl hb29 (OP.call rfl (x_call (vs := [(.int .i64 a0.Step), (.int .i64 0), (.int .i64 3000)]) Try_C20 ⟨rfl, rfl, rfl, trivial⟩) (M.impl_within_ok _ a0.Step 0 3000 hx31) ?_))
      rintro e32 w33 ⟨rfl, hF34⟩
      refine ⟨_, rfl, ?_⟩
      have hL := hL.pushAll hF34
      simp only [List.nil_append] at hL
      refine OW.cons (OP.val (v := (.bool x30)) rfl (x_pickT' rfl hb29 rfl) ?_)
      refine OW.cons (OP.val (v := (.bool x30)) rfl (x_move) ?_)
      refine ifB_elim hm (fun hb35 hm => ?_) (fun hb35 hm => ?_)
      · refine OW.cons (OP.yes' rfl rfl hb35 (OP.val (v := (.pointer (some ⟨b2, 2, none⟩))) rfl (x_fieldAddr (fsz := 1) 0 2 2 Try.underlying25 rfl Try_T2 rfl rfl rfl) ?_))
        refine OW.cons (OP.yes' rfl rfl hb35 (OP.val (v := (.int .i64 a0.Low)) rfl (x_load1 Try.underlying2 rfl rfl (hL.cellB 0 rfl rfl)) ?_))
        refine OW.cons (OP.yes' rfl rfl hb35 (OP.val (v := (.pointer (some ⟨b2, 3, none⟩))) rfl (x_fieldAddr (fsz := 1) 0 3 3 Try.underlying25 rfl Try_T2 rfl rfl rfl) ?_))
        refine OW.cons (OP.yes' rfl rfl hb35 (OP.val (v := (.int .i64 a0.High)) rfl (x_load1 Try.underlying2 rfl rfl (hL.cellB 0 rfl rfl)) ?_))
        obtain ⟨x36, hx37, hm⟩ := bndE hm
        refine OW.cons (OP.yes' rfl rfl hb35 (OP.call rfl (x_call (vs := [(.int .i64 a0.Low), (.int .i64 1), (.int .i64 a0.High)]) Try_C20 ⟨rfl, rfl, rfl, trivial⟩) (M.impl_within_ok _ a0.Low 1 a0.High hx37) ?_))
        rintro e38 w39 ⟨rfl, hF40⟩
        refine ⟨_, rfl, ?_⟩
        have hL := hL.pushAll hF40
        simp only [List.nil_append] at hL
        refine OW.cons (OP.val (v := (.bool x36)) rfl (x_pickT' rfl hb35 rfl) ?_)
        refine OW.cons (OP.val (v := (.bool x36)) rfl (x_move) ?_)
        refine ifB_elim hm (fun hb41 hm => ?_) (fun hb41 hm => ?_)
        · refine OW.cons (OP.yes' rfl rfl hb41 (OP.val (v := (.pointer (some ⟨b2, 3, none⟩))) rfl (x_fieldAddr (fsz := 1) 0 3 3 Try.underlying25 rfl Try_T2 rfl rfl rfl) ?_))
          refine OW.cons (OP.yes' rfl rfl hb41 (OP.val (v := (.int .i64 a0.High)) rfl (x_load1 Try.underlying2 rfl rfl (hL.cellB 0 rfl rfl)) ?_))
          refine OW.cons (OP.yes' rfl rfl hb41 (OP.val (v := (.bool (decide (a0.High ≤ 3000)))) rfl (x_leq rfl rfl) ?_))
          refine OW.cons (OP.val (v := (.bool (decide (a0.High ≤ 3000)))) rfl (x_pickT' rfl hb41 rfl) ?_)
          refine OW.cons (OP.val (v := (.bool (decide (a0.High ≤ 3000)))) rfl (x_assign) ?_)
          refine OW.nil ?_
          exact ⟨decide (a0.High ≤ 3000), hm, ⟨rfl, hL⟩⟩
        · refine OW.cons (OP.no' rfl rfl hb41 rfl ?_)
          refine OW.cons (OP.no' rfl rfl hb41 rfl ?_)
          refine OW.cons (OP.no' rfl rfl hb41 rfl ?_)
          refine OW.cons (OP.val (v := (.bool false)) rfl (x_pickF' rfl hb41 rfl) ?_)
          refine OW.cons (OP.val (v := (.bool false)) rfl (x_assign) ?_)
          refine OW.nil ?_
          exact ⟨false, hm, ⟨rfl, hL⟩⟩
      · refine OW.cons (OP.no' rfl rfl hb35 rfl ?_)
        refine OW.cons (OP.no' rfl rfl hb35 rfl ?_)
        refine OW.cons (OP.no' rfl rfl hb35 rfl ?_)
        refine OW.cons (OP.no' rfl rfl hb35 rfl ?_)
        refine OW.cons (OP.no' rfl rfl hb35 rfl ?_)
        refine OW.cons (OP.val (v := (.bool false)) rfl (x_pickF' rfl hb35 rfl) ?_)
        refine OW.cons (OP.val (v := (.bool false)) rfl (x_move) ?_)
        refine OW.cons (OP.no' rfl rfl rfl rfl ?_)
        refine OW.cons (OP.no' rfl rfl rfl rfl ?_)
        refine OW.cons (OP.no' rfl rfl rfl rfl ?_)
        refine OW.cons (OP.val (v := (.bool false)) rfl (x_pickF' rfl rfl rfl) ?_)
        refine OW.cons (OP.val (v := (.bool false)) rfl (x_assign) ?_)
        refine OW.nil ?_
        exact ⟨false, hm, ⟨rfl, hL⟩⟩
    · refine OW.cons (OP.no' rfl rfl hb29 rfl ?_)
      refine OW.cons (OP.no' rfl rfl hb29 rfl ?_)
      refine OW.cons (OP.no' rfl rfl hb29 rfl ?_)
      refine OW.cons (OP.val (v := (.bool false)) rfl (x_pickF' rfl hb29 rfl) ?_)
      refine OW.cons (OP.val (v := (.bool false)) rfl (x_move) ?_)
      refine OW.cons (OP.no' rfl rfl rfl rfl ?_)
      refine OW.cons (OP.no' rfl rfl rfl rfl ?_)
      refine OW.cons (OP.no' rfl rfl rfl rfl ?_)
      refine OW.cons (OP.no' rfl rfl rfl rfl ?_)
      refine OW.cons (OP.no' rfl rfl rfl rfl ?_)
      refine OW.cons (OP.val (v := (.bool false)) rfl (x_pickF' rfl rfl rfl) ?_)
      refine OW.cons (OP.val (v := (.bool false)) rfl (x_move) ?_)
      refine OW.cons (OP.no' rfl rfl rfl rfl ?_)
      refine OW.cons (OP.no' rfl rfl rfl rfl ?_)
      refine OW.cons (OP.no' rfl rfl rfl rfl ?_)
      refine OW.cons (OP.val (v := (.bool false)) rfl (x_pickF' rfl rfl rfl) ?_)
      refine OW.cons (OP.val (v := (.bool false)) rfl (x_assign) ?_)
      refine OW.nil ?_
      exact ⟨false, hm, ⟨rfl, hL⟩⟩
  · intro s_j1 F21 w22 hJ hm
    unfold M.impl_IsProgress_j1 at hm
    obtain ⟨f23, hL⟩ := hJ
    refine CW.ret ?_
    obtain rfl := Option.some.inj hm
    exact RR1 rfl f23 ⟨rfl, hL.fresh 1 rfl [] (by decide) (by decide) rfl⟩

theorem M.laws_FnExactIsProgress_ok (w0 : World) (a0 : ProgressRules) {r : Bool} (hm : M.laws_FnExactIsProgress a0 = some r) :
    Calls Try.prog 3 #[(.agg #[(.int .i64 a0.Gain), (.int .i64 a0.Step), (.int .i64 a0.Low), (.int .i64 a0.High)])] w0 fun e w' => e = .returned (.bool r) ∧ Fresh w0 w' [] := by
  unfold M.laws_FnExactIsProgress at hm
  refine calls_CW (args := [(.agg #[(.int .i64 a0.Gain), (.int .i64 a0.Step), (.int .i64 a0.Low), (.int .i64 a0.High)])]) Try.func3 rfl rfl rfl ?_
  have hL := Hp.start w0
  refine CW.seq ?_
  refine CW.regionL ?_
  refine OW.cons (S_box (cs := #[(.int .i64 a0.Gain), (.int .i64 a0.Step), (.int .i64 a0.Low), (.int .i64 a0.High)]) hL rfl rfl rfl ?_)
  intro w1 b2 hL
  refine OW.cons (OP.val (v := (.bool false)) rfl (x_assign) ?_)
  refine OW.nil ?_
  refine CW.seq ?_
  refine CW.regionL ?_
  refine OW.cons (OP.val (v := (.agg #[(.int .i64 a0.Gain), (.int .i64 a0.Step), (.int .i64 a0.Low), (.int .i64 a0.High)])) rfl (x_loadN (cs := [(.int .i64 a0.Gain), (.int .i64 a0.Step), (.int .i64 a0.Low), (.int .i64 a0.High)]) Try.underlying23 Try_T23 rfl rfl (hL.cellsB 0 rfl (o := 0) (l := [(.int .i64 a0.Gain), (.int .i64 a0.Step), (.int .i64 a0.Low), (.int .i64 a0.High)]) (by intro j u hj; exact (by simpa using hj)))) ?_)
  obtain ⟨x3, hx4, hm⟩ := bndE hm
  refine OW.cons (OP.call rfl (x_call (vs := [(.agg #[(.int .i64 a0.Gain), (.int .i64 a0.Step), (.int .i64 a0.Low), (.int .i64 a0.High)])]) Try_C8 ⟨rfl, trivial⟩) (M.laws_toProgressRules_ok _ a0 hx4) ?_)
  rintro e5 w6 ⟨rfl, hF7⟩
  refine ⟨_, rfl, ?_⟩
  have hL := hL.pushAll hF7
  simp only [List.nil_append] at hL
  obtain ⟨x8, hx9, hm⟩ := bndE hm
  refine OW.cons (OP.call rfl (x_call (vs := [(.agg #[(.int .i64 x3.Gain), (.int .i64 x3.Step), (.int .i64 x3.Low), (.int .i64 x3.High)])]) Try_C7 ⟨rfl, trivial⟩) (M.spec_IsProgress_ok _ x3 hx9) ?_)
  rintro e10 w11 ⟨rfl, hF12⟩
  refine ⟨_, rfl, ?_⟩
  have hL := hL.pushAll hF12
  simp only [List.nil_append] at hL
  refine OW.cons (OP.val (v := (.bool x8)) rfl (x_assign) ?_)
  refine OW.nil ?_
  refine CW.seq ?_
  refine CW.regionL ?_
  refine OW.cons (OP.val (v := (.agg #[(.int .i64 a0.Gain), (.int .i64 a0.Step), (.int .i64 a0.Low), (.int .i64 a0.High)])) rfl (x_loadN (cs := [(.int .i64 a0.Gain), (.int .i64 a0.Step), (.int .i64 a0.Low), (.int .i64 a0.High)]) Try.underlying23 Try_T23 rfl rfl (hL.cellsB 0 rfl (o := 0) (l := [(.int .i64 a0.Gain), (.int .i64 a0.Step), (.int .i64 a0.Low), (.int .i64 a0.High)]) (by intro j u hj; exact (by simpa using hj)))) ?_)
  obtain ⟨x13, hx14, hm⟩ := bndE hm
  refine OW.cons (OP.call rfl (x_call (vs := [(.agg #[(.int .i64 a0.Gain), (.int .i64 a0.Step), (.int .i64 a0.Low), (.int .i64 a0.High)])]) Try_C8 ⟨rfl, trivial⟩) (M.laws_toProgressRules_ok _ a0 hx14) ?_)
  rintro e15 w16 ⟨rfl, hF17⟩
  refine ⟨_, rfl, ?_⟩
  have hL := hL.pushAll hF17
  simp only [List.nil_append] at hL
  obtain ⟨x18, hx19, hm⟩ := bndE hm
  refine OW.cons (OP.call rfl (x_call (vs := [(.agg #[(.int .i64 x13.Gain), (.int .i64 x13.Step), (.int .i64 x13.Low), (.int .i64 x13.High)])]) Try_C9 ⟨rfl, trivial⟩) (M.impl_IsProgress_ok _ x13 hx19) ?_)
  rintro e20 w21 ⟨rfl, hF22⟩
  refine ⟨_, rfl, ?_⟩
  have hL := hL.pushAll hF22
  simp only [List.nil_append] at hL
  refine OW.cons (OP.val (v := (.bool x18)) rfl (x_assign) ?_)
  refine OW.nil ?_
  refine CW.seq ?_
  refine CW.seq ?_
  refine CW.regionL ?_
  refine OW.cons (OP.val (v := (.bool x18)) rfl (x_move) ?_)
  refine OW.cons (OP.val (v := (.bool x8)) rfl (x_move) ?_)
  refine OW.cons (OP.val (v := (.bool (x18 != x8))) rfl (x_neqB Try.underlying4 rfl rfl) ?_)
  refine OW.nil ?_
  refine CW.condM (t := x18 != x8) rfl hm (fun hb23 hm => ?_) (fun hb23 hm => ?_)
  · refine CW.seq ?_
    refine CW.regionL ?_
    refine OW.cons (OP.val (v := (.bool false)) rfl (x_assign) ?_)
    refine OW.nil ?_
    refine CW.ret ?_
    obtain rfl := Option.some.inj hm
    exact RR1 rfl rfl ⟨rfl, hL.fresh 1 rfl [] (by decide) (by decide) rfl⟩
  · refine CW.skip ?_
    refine CW.seq ?_
    refine CW.regionL ?_
    refine OW.cons (OP.val (v := (.bool true)) rfl (x_assign) ?_)
    refine OW.nil ?_
    refine CW.ret ?_
    obtain rfl := Option.some.inj hm
    exact RR1 rfl rfl ⟨rfl, hL.fresh 1 rfl [] (by decide) (by decide) rfl⟩

theorem M.laws_toInt64S_ok (w0 : World) (a0 : List Int) {v1 : Value} (h2 : rdL (· < w0.heap.size) w0 v1 a0) {r : (List Int)} (hm : M.laws_toInt64S a0 = some r) :
    Calls Try.prog 11 #[v1] w0 fun e w' => ∃ (rv0 : Value) (rS0 : Nat → Prop), e = .returned rv0 ∧ Fresh w0 w' [Ent.own 2 rS0 rv0 r] := by
  unfold M.laws_toInt64S at hm
  refine calls_CW (args := [v1]) Try.func11 rfl rfl rfl ?_
  have hL := Hp.start w0
  refine CW.seq ?_
  refine CW.regionL ?_
  refine OW.cons (OP.val (v := (.slice none 0 0)) rfl (x_assign) ?_)
  refine OW.nil ?_
  refine CW.seq ?_
  refine CW.regionL ?_
  refine OW.cons (OP.val (v := v1) rfl (x_move) ?_)
  refine OW.cons (OP.val (v := (.int .i64 (a0.length : Int))) rfl (x_lenR Try.underlying28 rfl (hL.rdS 0 rfl h2)) ?_)
  obtain ⟨hc3, hm⟩ := chkE hm
  refine OW.cons (S_make (α := Int) 0 hL Try.underlying28 Try_T2 rfl rfl rfl hc3 (by decide) rfl ?_)
  intro w4 v5 S6 hL
  refine OW.cons (OP.val (v := v5) rfl (x_assign) ?_)
  refine OW.nil ?_
  refine CW.seq ?_
  refine CW.seq ?_
  refine CW.regionL ?_
  refine OW.cons (OP.val (v := (.int .i64 0)) rfl (x_assign) ?_)
  refine OW.nil ?_
  obtain ⟨o41, ho42, hm⟩ := bndE hm
  refine CW.loopB (fun (s_l1 : (List Int) × Int) (F : Fr) (w : World) => ∃ (v37 : Value) (S38 : Nat → Prop), F 0 = v1 ∧ F 3 = v37 ∧ F 4 = (.int .i64 s_l1.2) ∧ Hp w0 [Ent.own 2 S38 v37 s_l1.1, Ent.snap w0 w0.heap.size] w) (fun o => outc o (fun x => some x) (fun s => M.laws_toInt64S_a1 s) = some r) ho42 hm ⟨v5, S6, rfl, rfl, rfl, hL⟩ ?_ ?_
  · intro s_l1 F43 w44 hJ hm
    have hm : M.laws_toInt64S_a1 s_l1 = some r := hm
    unfold M.laws_toInt64S_a1 at hm
    obtain ⟨v37, S38, f45, f46, f47, hL⟩ := hJ
    refine CW.seq ?_
    refine CW.regionL ?_
    refine OW.cons (OP.val (v := v37) rfl (x_mv f46) ?_)
    refine OW.cons (OP.val (v := v37) rfl (x_assign) ?_)
    refine OW.nil ?_
    refine CW.ret ?_
    obtain rfl := Option.some.inj hm
    exact RR1 rfl rfl ⟨v37, S38, rfl, hL.fresh 1 rfl [0] (by decide) (by decide) rfl⟩
  · intro s_l1 F48 w49 t39 hJ hm hr40
    unfold M.laws_toInt64S_l1 at hm
    obtain ⟨v37, S38, f50, f51, f52, hL⟩ := hJ
    refine CW.seq ?_
    refine CW.seq ?_
    refine CW.regionL ?_
    refine OW.cons (OP.val (v := (.int .i64 s_l1.2)) rfl (x_mv f52) ?_)
    refine OW.cons (OP.val (v := v1) rfl (x_mv f50) ?_)
    refine OW.cons (OP.val (v := (.int .i64 (a0.length : Int))) rfl (x_lenR Try.underlying28 rfl (hL.rdS 1 rfl h2)) ?_)
    refine OW.cons (OP.val (v := (.bool (decide (s_l1.2 < (a0.length : Int))))) rfl (x_lss rfl rfl) ?_)
    refine OW.nil ?_
    refine CW.condM (t := decide (s_l1.2 < (a0.length : Int))) rfl hm (fun hb53 hm => ?_) (fun hb53 hm => ?_)
    · refine CW.skip ?_
      refine CW.seq ?_
      refine CW.block ?_
      refine CW.regionL ?_
      refine OW.cons (OP.val (v := v37) rfl (x_mv f51) ?_)
      refine OW.cons (OP.val (v := (.int .i64 s_l1.2)) rfl (x_mv f52) ?_)
      refine OW.cons (OP.val (v := v1) rfl (x_mv f50) ?_)
      refine OW.cons (OP.val (v := (.int .i64 s_l1.2)) rfl (x_mv f52) ?_)
      obtain ⟨x54, ha55, hm⟩ := bndE hm
      obtain ⟨h056, ha55⟩ := idxE ha55
      obtain ⟨b57, q58, hix59⟩ := rdL_ix (hL.rdS 1 rfl h2) h056 ha55
      refine OW.cons (OP.val (v := (.pointer (some ⟨b57, q58, none⟩))) rfl (x_ix Try.underlying28 Try_T2 rfl rfl hix59) ?_)
      refine OW.cons (OP.val (v := (.int .i64 x54)) rfl (x_load1 Try.underlying2 rfl rfl (rdF_cells (hL.rdS 1 rfl h2) hix59 ha55 0 _ rfl)) ?_)
      obtain ⟨x60, ha61, hm⟩ := bndE hm
      obtain ⟨h062, ha61⟩ := idxE ha61
      obtain ⟨b63, q64, hix65⟩ := rdL_ix (hL.rdO 0 rfl) h062 ha61
      refine OW.cons (OP.val (v := (.pointer (some ⟨b63, q64, none⟩))) rfl (x_ix Try.underlying28 Try_T2 rfl rfl hix65) ?_)
      refine OW.cons (S_storeX (j := 0) x54 hL 0 rfl Try_T2 hix65 ha61 rfl rfl rfl rfl rfl rfl ?_)
      intro w66 hL
      refine OW.nil ?_
      refine CW.regionL ?_
      refine OW.cons (OP.val (v := (.int .i64 s_l1.2)) rfl (x_mv f52) ?_)
      refine OW.cons (OP.val (v := (.int .i64 (w64 (s_l1.2 + 1)))) rfl (x_add rfl rfl) ?_)
      refine OW.cons (OP.val (v := (.int .i64 (w64 (s_l1.2 + 1)))) rfl (x_assign) ?_)
      refine OW.nil ?_
      obtain rfl := Option.some.inj hm
      exact ⟨_, rfl, ⟨v37, S38, f50, f51, rfl, hL⟩⟩
    · refine CW.exit ?_
      refine XJ.hit ?_
      obtain rfl := Option.some.inj hm
      exact ⟨_, rfl, ⟨v37, S38, f50, f51, f52, hL⟩⟩

theorem M.spec_IsDiscardRule_ok (w0 : World) (a0 : List Int) {v1 : Value} (h2 : rdL (· < w0.heap.size) w0 v1 a0) {r : Bool} (hm : M.spec_IsDiscardRule a0 = some r) :
    Calls Try.prog 10 #[v1] w0 fun e w' => e = .returned (.bool r) ∧ Fresh w0 w' [] := by
  unfold M.spec_IsDiscardRule at hm
  refine calls_CW (args := [v1]) Try.func10 rfl rfl rfl ?_
  have hL := Hp.start w0
  refine CW.seq ?_
  refine CW.regionL ?_
  refine OW.cons (OP.val (v := (.bool false)) rfl (x_assign) ?_)
  refine OW.nil ?_
  refine CW.seq ?_
  refine CW.seq ?_
  refine CW.regionL ?_
  refine OW.cons (OP.val (v := v1) rfl (x_move) ?_)
  refine OW.cons (OP.val (v := (.int .i64 (a0.length : Int))) rfl (x_lenR Try.underlying28 rfl (hL.rdS 0 rfl h2)) ?_)
  refine OW.cons (OP.val (v := (.bool (decide (3 < (a0.length : Int))))) rfl (x_gtr rfl rfl) ?_)
  refine OW.nil ?_
  refine CW.condM (t := decide (3 < (a0.length : Int))) rfl hm (fun hb3 hm => ?_) (fun hb3 hm => ?_)
  · refine CW.seq ?_
    refine CW.regionL ?_
    refine OW.cons (OP.val (v := (.bool false)) rfl (x_assign) ?_)
    refine OW.nil ?_
    refine CW.ret ?_
    obtain rfl := Option.some.inj hm
    exact RR1 rfl rfl ⟨rfl, hL.fresh 0 rfl [] (by decide) (by decide) rfl⟩
  · refine CW.skip ?_
    refine CW.seq ?_
    refine CW.seq ?_
    refine CW.regionL ?_
    refine OW.cons (OP.val (v := (.int .i64 0)) rfl (x_assign) ?_)
    refine OW.nil ?_
    obtain ⟨o120, ho121, hm⟩ := bndE hm
    refine CW.loopB (fun (s_l1 : Int) (F : Fr) (w : World) => F 0 = v1 ∧ F 3 = (.int .i64 s_l1) ∧ Hp w0 [Ent.snap w0 w0.heap.size] w) (fun o => outc o (fun x => some x) (fun s => M.spec_IsDiscardRule_a1 s) = some r) ho121 hm ⟨rfl, rfl, hL⟩ ?_ ?_
    · intro s_l1 F122 w123 hJ hm
      have hm : M.spec_IsDiscardRule_a1 s_l1 = some r := hm
      unfold M.spec_IsDiscardRule_a1 at hm
      obtain ⟨f124, f125, hL⟩ := hJ
      refine CW.seq ?_
      refine CW.regionL ?_
      refine OW.cons (OP.val (v := (.bool true)) rfl (x_assign) ?_)
      refine OW.nil ?_
      refine CW.ret ?_
      obtain rfl := Option.some.inj hm
      exact RR1 rfl rfl ⟨rfl, hL.fresh 0 rfl [] (by decide) (by decide) rfl⟩
    · intro s_l1 F126 w127 t118 hJ hm hr119
      unfold M.spec_IsDiscardRule_l1 at hm
      obtain ⟨f128, f129, hL⟩ := hJ
      refine CW.seq ?_
      refine CW.seq ?_
      refine CW.regionL ?_
      refine OW.cons (OP.val (v := (.int .i64 s_l1)) rfl (x_mv f129) ?_)
      refine OW.cons (OP.val (v := v1) rfl (x_mv f128) ?_)
      refine OW.cons (OP.val (v := (.int .i64 (a0.length : Int))) rfl (x_lenR Try.underlying28 rfl (hL.rdS 0 rfl h2)) ?_)
      refine OW.cons (OP.val (v := (.bool (decide (s_l1 < (a0.length : Int))))) rfl (x_lss rfl rfl) ?_)
      refine OW.nil ?_
      refine CW.condM (t := decide (s_l1 < (a0.length : Int))) rfl hm (fun hb130 hm => ?_) (fun hb130 hm => ?_)
      · refine CW.skip ?_
        refine CW.seq ?_
        refine CW.block ?_
        refine CW.seqJ (fun (s_j1 : Bool) (F : Fr) (w : World) => F 0 = v1 ∧ F 3 = (.int .i64 s_l1) ∧ F 34 = (.bool s_j1) ∧ Hp w0 [Ent.snap w0 w0.heap.size] w) (fun s_j1 => M.spec_IsDiscardRule_j1 s_l1 s_j1 = some t118) ?_ ?_
        · refine CW.draw Try_mixed ?_
          have hL := hL.call (Mod.drew _)
          refine DW.pre (fuel := 0) (fin := (((((((((((((((((((((((Array.replicate 22 false).setIfInBounds 0 true).setIfInBounds 1 true).setIfInBounds 2 true).setIfInBounds 3 true).setIfInBounds 4 true).setIfInBounds 5 true).setIfInBounds 6 true).setIfInBounds 7 true).setIfInBounds 8 true).setIfInBounds 9 true).setIfInBounds 10 true).setIfInBounds 11 true).setIfInBounds 12 true).setIfInBounds 13 true).setIfInBounds 14 true).setIfInBounds 15 true).setIfInBounds 16 true).setIfInBounds 17 true).setIfInBounds 18 true).setIfInBounds 19 true).setIfInBounds 20 true).setIfInBounds 21 true)) (C := fun w' => Mod None_ _ w') [0, 1, 2, 3, 4, 5, 6, 7, 8, 9, 10, 11, 12, 13, 14, 15, 16, 17, 18, 19, 20, 21] (Mod.refl _ _) (by kernel_rfl) (by kernel_rfl) ?_
          refine QW.cons rfl (QP.val (v := v1) rfl (fun w' hm' => x_mv f128) ?_)
          refine QW.cons rfl (QP.val (v := (.int .i64 s_l1)) rfl (fun w' hm' => x_mv f129) ?_)
          obtain ⟨x162, ha163, hm⟩ := bndE hm
          obtain ⟨h0164, ha163⟩ := idxE ha163
          obtain ⟨b165, q166, hix167⟩ := rdL_ix (hL.rdS 0 rfl h2) h0164 ha163
          refine QW.cons rfl (QP.val (v := (.pointer (some ⟨b165, q166, none⟩))) rfl (fun w' hm' => x_ix Try.underlying28 Try_T2 rfl rfl hix167) ?_)
          refine QW.cons rfl (QP.val (v := (.int .i64 x162)) rfl (fun w' hm' => x_load1 Try.underlying2 rfl rfl (rdF_cells ((hL.call hm').rdS 0 rfl h2) hix167 ha163 0 _ rfl)) ?_)
          obtain ⟨x168, hx169, hm⟩ := bndE hm
          refine QW.cons rfl (QP.call (v := (.bool x168)) rfl (fun w' hm' => x_call (vs := [(.int .i64 x162), (.int .i64 1), (.int .i64 12)]) Try_C18 ⟨rfl, rfl, rfl, trivial⟩) (fun w' hm' => (M.spec_l01In_ok w' x162 1 12 hx169).mono (fun e w'' h => ⟨h.1, hm'.trans h.2.mod⟩)) ?_)
          refine QW.cons rfl (QP.val (v := (.bool (!x168))) rfl (fun w' hm' => x_not rfl) ?_)
          refine QW.cons rfl (QP.val (v := (.bool (!x168))) rfl (fun w' hm' => x_move) ?_)
          refine ifB_elim hm (fun hb170 hm => ?_) (fun hb170 hm => ?_)
          · refine QW.cons rfl (QP.no' rfl rfl hb170 rfl ?_)
            refine QW.cons rfl (QP.no' rfl rfl hb170 rfl ?_)
            refine QW.cons rfl (QP.no' rfl rfl hb170 rfl ?_)
            refine QW.cons rfl (QP.noU rfl rfl rfl ?_)
            refine QW.cons rfl (QP.noU rfl rfl rfl ?_)
            refine QW.cons rfl (QP.noU rfl rfl rfl ?_)
            refine QW.cons rfl (QP.noU rfl rfl rfl ?_)
            refine QW.cons rfl (QP.noU rfl rfl rfl ?_)
            refine QW.cons rfl (QP.noU rfl rfl rfl ?_)
            refine QW.cons rfl (QP.noU rfl rfl rfl ?_)
            refine QW.cons rfl (QP.noU rfl rfl rfl ?_)
            refine QW.cons rfl (QP.noU rfl rfl rfl ?_)
            refine QW.cons rfl (QP.noU rfl rfl rfl ?_)
            refine QW.cons rfl (QP.no' rfl rfl hb170 rfl ?_)
            refine QW.cons rfl (QP.val (v := (.bool true)) rfl (fun w' hm' => x_pickT' rfl hb170 rfl) ?_)
            refine QW.nil ?_
            intro w171 hmod
            have hL := hL.call hmod
            refine DW.done (by kernel_rfl) ?_
            exact ⟨true, hm, ⟨f128, f129, rfl, hL⟩⟩
          · refine QW.cons rfl (QP.yes' rfl rfl hb170 (QP.val (v := (.int .i64 s_l1)) rfl (fun w' hm' => x_mv f129) ?_))
            refine QW.cons rfl (QP.yes' rfl rfl hb170 (QP.val (v := (.bool (decide (0 < s_l1)))) rfl (fun w' hm' => x_gtr rfl rfl) ?_))
            refine QW.cons rfl (QP.yes' rfl rfl hb170 (QP.val (v := (.bool (decide (0 < s_l1)))) rfl (fun w' hm' => x_move) ?_))
            refine ifB_elim hm (fun hb172 hm => ?_) (fun hb172 hm => ?_)
            · refine QW.cons rfl (QP.yes' rfl rfl hb172 (QP.val (v := v1) rfl (fun w' hm' => x_mv f128) ?_))
              refine QW.cons rfl (QP.yes' rfl rfl hb172 (QP.val (v := (.int .i64 s_l1)) rfl (fun w' hm' => x_mv f129) ?_))
              refine QW.cons rfl (QP.yes' rfl rfl hb172 (QP.val (v := (.int .i64 (w64 (s_l1 - 1)))) rfl (fun w' hm' => x_sub rfl rfl) ?_))
              obtain ⟨x173, ha174, hm⟩ := bndE hm
              obtain ⟨h0175, ha174⟩ := idxE ha174
              obtain ⟨b176, q177, hix178⟩ := rdL_ix (hL.rdS 0 rfl h2) h0175 ha174
              refine QW.cons rfl (QP.yes' rfl rfl hb172 (QP.val (v := (.pointer (some ⟨b176, q177, none⟩))) rfl (fun w' hm' => x_ix Try.underlying28 Try_T2 rfl rfl hix178) ?_))
              refine QW.cons rfl (QP.yes' rfl rfl hb172 (QP.val (v := (.int .i64 x173)) rfl (fun w' hm' => x_load1 Try.underlying2 rfl rfl (rdF_cells ((hL.call hm').rdS 0 rfl h2) hix178 ha174 0 _ rfl)) ?_))
              refine QW.cons rfl (QP.yes' rfl rfl hb172 (QP.val (v := v1) rfl (fun w' hm' => x_mv f128) ?_))
              refine QW.cons rfl (QP.yes' rfl rfl hb172 (QP.val (v := (.int .i64 s_l1)) rfl (fun w' hm' => x_mv f129) ?_))
              obtain ⟨x179, ha180, hm⟩ := bndE hm
              obtain ⟨h0181, ha180⟩ := idxE ha180
              obtain ⟨b182, q183, hix184⟩ := rdL_ix (hL.rdS 0 rfl h2) h0181 ha180
              refine QW.cons rfl (QP.yes' rfl rfl hb172 (QP.val (v := (.pointer (some ⟨b182, q183, none⟩))) rfl (fun w' hm' => x_ix Try.underlying28 Try_T2 rfl rfl hix184) ?_))
              refine QW.cons rfl (QP.yes' rfl rfl hb172 (QP.val (v := (.int .i64 x179)) rfl (fun w' hm' => x_load1 Try.underlying2 rfl rfl (rdF_cells ((hL.call hm').rdS 0 rfl h2) hix184 ha180 0 _ rfl)) ?_))
              refine QW.cons rfl (QP.yes' rfl rfl hb172 (QP.val (v := (.bool (decide (x179 ≤ x173)))) rfl (fun w' hm' => x_geq rfl rfl) ?_))
              refine QW.cons rfl (QP.yes' rfl rfl hb170 (QP.val (v := (.bool (decide (x179 ≤ x173)))) rfl (fun w' hm' => x_pickT' rfl hb172 rfl) ?_))
              refine QW.cons rfl (QP.val (v := (.bool (decide (x179 ≤ x173)))) rfl (fun w' hm' => x_pickF' rfl hb170 rfl) ?_)
              refine QW.nil ?_
              intro w185 hmod
              have hL := hL.call hmod
              refine DW.done (by kernel_rfl) ?_
              exact ⟨decide (x179 ≤ x173), hm, ⟨f128, f129, rfl, hL⟩⟩
            · refine QW.cons rfl (QP.no' rfl rfl hb172 rfl ?_)
              refine QW.cons rfl (QP.no' rfl rfl hb172 rfl ?_)
              refine QW.cons rfl (QP.no' rfl rfl hb172 rfl ?_)
              refine QW.cons rfl (QP.no' rfl rfl hb172 rfl ?_)
              refine QW.cons rfl (QP.no' rfl rfl hb172 rfl ?_)
              refine QW.cons rfl (QP.no' rfl rfl hb172 rfl ?_)
              refine QW.cons rfl (QP.no' rfl rfl hb172 rfl ?_)
              refine QW.cons rfl (QP.no' rfl rfl hb172 rfl ?_)
              refine QW.cons rfl (QP.no' rfl rfl hb172 rfl ?_)
              refine QW.cons rfl (QP.no' rfl rfl hb172 rfl ?_)
              refine QW.cons rfl (QP.yes' rfl rfl hb170 (QP.val (v := (.bool false)) rfl (fun w' hm' => x_pickF' rfl hb172 rfl) ?_))
              refine QW.cons rfl (QP.val (v := (.bool false)) rfl (fun w' hm' => x_pickF' rfl hb170 rfl) ?_)
              refine QW.nil ?_
              intro w186 hmod
              have hL := hL.call hmod
              refine DW.done (by kernel_rfl) ?_
              exact ⟨false, hm, ⟨f128, f129, rfl, hL⟩⟩
        · intro s_j1 F156 w157 hJ hm
          unfold M.spec_IsDiscardRule_j1 at hm
          obtain ⟨f158, f159, f160, hL⟩ := hJ
          refine CW.condM (t := s_j1) f160 hm (fun hb161 hm => ?_) (fun hb161 hm => ?_)
          · refine CW.seq ?_
            refine CW.regionL ?_
            refine OW.cons (OP.val (v := (.bool false)) rfl (x_assign) ?_)
            refine OW.nil ?_
            refine CW.ret ?_
            obtain rfl := Option.some.inj hm
            have hm := hr119 _ rfl
            obtain rfl := Option.some.inj hm
            exact RR1 rfl rfl ⟨rfl, hL.fresh 0 rfl [] (by decide) (by decide) rfl⟩
          · refine CW.skip ?_
            refine CW.regionL ?_
            refine OW.cons (OP.val (v := (.int .i64 s_l1)) rfl (x_mv f159) ?_)
            refine OW.cons (OP.val (v := (.int .i64 (w64 (s_l1 + 1)))) rfl (x_add rfl rfl) ?_)
            refine OW.cons (OP.val (v := (.int .i64 (w64 (s_l1 + 1)))) rfl (x_assign) ?_)
            refine OW.nil ?_
            obtain rfl := Option.some.inj hm
            exact ⟨_, rfl, ⟨f158, rfl, hL⟩⟩
      · refine CW.exit ?_
        refine XJ.hit ?_
        obtain rfl := Option.some.inj hm
        exact ⟨_, rfl, ⟨f128, f129, hL⟩⟩

theorem M.impl_IsDiscardRule_ok (w0 : World) (a0 : List Int) {v1 : Value} (h2 : rdL (· < w0.heap.size) w0 v1 a0) {r : Bool} (hm : M.impl_IsDiscardRule a0 = some r) :
    Calls Try.prog 12 #[v1] w0 fun e w' => e = .returned (.bool r) ∧ Fresh w0 w' [] := by
  unfold M.impl_IsDiscardRule at hm
  refine calls_CW (args := [v1]) Try.func12 rfl rfl rfl ?_
  have hL := Hp.start w0
  refine CW.seq ?_
  refine CW.regionL ?_
  refine OW.cons (OP.val (v := (.bool false)) rfl (x_assign) ?_)
  refine OW.nil ?_
  refine CW.seq ?_
  refine CW.seq ?_
  refine CW.regionL ?_
  refine OW.cons (OP.val (v := v1) rfl (x_move) ?_)
  refine OW.cons (OP.val (v := (.int .i64 (a0.length : Int))) rfl (x_lenR Try.underlying28 rfl (hL.rdS 0 rfl h2)) ?_)
  refine OW.cons (OP.val (v := (.int .i64 0)) rfl (x_move) ?_)
  refine OW.nil ?_
  obtain ⟨o87, ho88, hm⟩ := bndE hm
  refine CW.loopB (fun (s_l1 : Int) (F : Fr) (w : World) => F 0 = v1 ∧ F 5 = v1 ∧ F 6 = (.int .i64 (a0.length : Int)) ∧ F 7 = (.int .i64 s_l1) ∧ Hp w0 [Ent.snap w0 w0.heap.size] w) (fun o => outc o (fun x => some x) (fun s => M.impl_IsDiscardRule_a1 a0 s) = some r) ho88 hm ⟨rfl, rfl, rfl, rfl, hL⟩ ?_ ?_
  · intro s_l1 F89 w90 hJ hm
    have hm : M.impl_IsDiscardRule_a1 a0 s_l1 = some r := hm
    unfold M.impl_IsDiscardRule_a1 at hm
    obtain ⟨f91, f92, f93, f94, hL⟩ := hJ
    refine CW.seq ?_
    refine CW.regionL ?_
    refine OW.cons (OP.val (v := v1) rfl (x_mv f91) ?_)
    refine OW.cons (OP.val (v := (.int .i64 (a0.length : Int))) rfl (x_lenR Try.underlying28 rfl (hL.rdS 0 rfl h2)) ?_)
    refine OW.cons (OP.val (v := (.bool (decide ((a0.length : Int) ≤ 3)))) rfl (x_leq rfl rfl) ?_)
    refine OW.cons (OP.val (v := (.bool (decide ((a0.length : Int) ≤ 3)))) rfl (x_assign) ?_)
    refine OW.nil ?_
    refine CW.ret ?_
    obtain rfl := Option.some.inj hm
    exact RR1 rfl rfl ⟨rfl, hL.fresh 0 rfl [] (by decide) (by decide) rfl⟩
  · intro s_l1 F95 w96 t85 hJ hm hr86
    unfold M.impl_IsDiscardRule_l1 at hm
    obtain ⟨f97, f98, f99, f100, hL⟩ := hJ
    refine CW.seq ?_
    refine CW.regionL ?_
    refine OW.cons (OP.val (v := (.bool (decide (s_l1 < (a0.length : Int))))) rfl (x_lss f100 f99) ?_)
    refine OW.nil ?_
    refine CW.seq ?_
    refine CW.condM (t := decide (s_l1 < (a0.length : Int))) rfl hm (fun hb101 hm => ?_) (fun hb101 hm => ?_)
    · refine CW.skip ?_
      refine CW.seq ?_
      refine CW.block ?_
      refine CW.seq ?_
      refine CW.regionL ?_
      refine OW.cons (OP.val (v := (.int .i64 s_l1)) rfl (x_mv f100) ?_)
      obtain ⟨x102, ha103, hm⟩ := bndE hm
      obtain ⟨h0104, ha103⟩ := idxE ha103
      obtain ⟨b105, q106, hix107⟩ := rdL_ix (hL.rdS 0 rfl h2) h0104 ha103
      refine OW.cons (OP.val (v := (.pointer (some ⟨b105, q106, none⟩))) rfl (x_ix Try.underlying28 Try_T2 f98 f100 hix107) ?_)
      refine OW.cons (OP.val (v := (.int .i64 x102)) rfl (x_load1 Try.underlying2 rfl rfl (rdF_cells (hL.rdS 0 rfl h2) hix107 ha103 0 _ rfl)) ?_)
      refine OW.cons (OP.val (v := (.int .i64 s_l1)) rfl (x_assign) ?_)
      refine OW.cons (OP.val (v := (.int .i64 x102)) rfl (x_assign) ?_)
      refine OW.nil ?_
      refine CW.seqJ (fun (s_j1 : Bool) (F : Fr) (w : World) => F 0 = v1 ∧ F 5 = v1 ∧ F 6 = (.int .i64 (a0.length : Int)) ∧ F 7 = (.int .i64 s_l1) ∧ F 27 = (.bool s_j1) ∧ Hp w0 [Ent.snap w0 w0.heap.size] w) (fun s_j1 => M.impl_IsDiscardRule_j1 s_l1 s_j1 = some t85) ?_ ?_
      · refine CW.regionL ?_
        refine OW.cons (OP.val (v := (.int .i64 x102)) rfl (x_move) ?_)
        obtain ⟨x129, hx130, hm⟩ := bndE hm
        refine OW.cons (OP.call rfl (x_call (vs := [(.int .i64 x102), (.int .i64 1), (.int .i64 12)]) Try_C20 ⟨rfl, rfl, rfl, trivial⟩) (M.impl_within_ok _ x102 1 12 hx130) ?_)
        rintro e131 w132 ⟨rfl, hF133⟩
        refine ⟨_, rfl, ?_⟩
        have hL := hL.pushAll hF133
        simp only [List.nil_append] at hL
        refine OW.cons (OP.val (v := (.bool (!x129))) rfl (x_not rfl) ?_)
        refine OW.cons (OP.val (v := (.bool (!x129))) rfl (x_move) ?_)
        refine ifB_elim hm (fun hb134 hm => ?_) (fun hb134 hm => ?_)
        · refine OW.cons (OP.no' rfl rfl hb134 rfl ?_)
          refine OW.cons (OP.no' rfl rfl hb134 rfl ?_)
          refine OW.cons (OP.no' rfl rfl hb134 rfl ?_)
          refine OW.cons (OP.noU rfl rfl rfl ?_)
          refine OW.cons (OP.noU rfl rfl rfl ?_)
          refine OW.cons (OP.noU rfl rfl rfl ?_)
          refine OW.cons (OP.noU rfl rfl rfl ?_)
          refine OW.cons (OP.noU rfl rfl rfl ?_)
          refine OW.cons (OP.noU rfl rfl rfl ?_)
          refine OW.cons (OP.noU rfl rfl rfl ?_)
          refine OW.cons (OP.no' rfl rfl hb134 rfl ?_)
          refine OW.cons (OP.val (v := (.bool true)) rfl (x_pickT' rfl hb134 rfl) ?_)
          refine OW.nil ?_
          exact ⟨true, hm, ⟨f97, f98, f99, f100, rfl, hL⟩⟩
        · refine OW.cons (OP.yes' rfl rfl hb134 (OP.val (v := (.int .i64 s_l1)) rfl (x_move) ?_))
          refine OW.cons (OP.yes' rfl rfl hb134 (OP.val (v := (.bool (decide (0 < s_l1)))) rfl (x_gtr rfl rfl) ?_))
          refine OW.cons (OP.yes' rfl rfl hb134 (OP.val (v := (.bool (decide (0 < s_l1)))) rfl (x_move) ?_))
          refine ifB_elim hm (fun hb135 hm => ?_) (fun hb135 hm => ?_)
          · refine OW.cons (OP.yes' rfl rfl hb135 (OP.val (v := v1) rfl (x_mv f97) ?_))
            refine OW.cons (OP.yes' rfl rfl hb135 (OP.val (v := (.int .i64 s_l1)) rfl (x_move) ?_))
            refine OW.cons (OP.yes' rfl rfl hb135 (OP.val (v := (.int .i64 (w64 (s_l1 - 1)))) rfl (x_sub rfl rfl) ?_))
            obtain ⟨x136, ha137, hm⟩ := bndE hm
            obtain ⟨h0138, ha137⟩ := idxE ha137
            obtain ⟨b139, q140, hix141⟩ := rdL_ix (hL.rdS 0 rfl h2) h0138 ha137
            refine OW.cons (OP.yes' rfl rfl hb135 (OP.val (v := (.pointer (some ⟨b139, q140, none⟩))) rfl (x_ix Try.underlying28 Try_T2 rfl rfl hix141) ?_))
            refine OW.cons (OP.yes' rfl rfl hb135 (OP.val (v := (.int .i64 x136)) rfl (x_load1 Try.underlying2 rfl rfl (rdF_cells (hL.rdS 0 rfl h2) hix141 ha137 0 _ rfl)) ?_))
            refine OW.cons (OP.yes' rfl rfl hb135 (OP.val (v := (.int .i64 x102)) rfl (x_move) ?_))
            refine OW.cons (OP.yes' rfl rfl hb135 (OP.val (v := (.bool (decide (x102 ≤ x136)))) rfl (x_geq rfl rfl) ?_))
            refine OW.cons (OP.yes' rfl rfl hb134 (OP.val (v := (.bool (decide (x102 ≤ x136)))) rfl (x_pickT' rfl hb135 rfl) ?_))
            refine OW.cons (OP.val (v := (.bool (decide (x102 ≤ x136)))) rfl (x_pickF' rfl hb134 rfl) ?_)
            refine OW.nil ?_
            exact ⟨decide (x102 ≤ x136), hm, ⟨f97, f98, f99, f100, rfl, hL⟩⟩
          · refine OW.cons (OP.no' rfl rfl hb135 rfl ?_)
            refine OW.cons (OP.no' rfl rfl hb135 rfl ?_)
            refine OW.cons (OP.no' rfl rfl hb135 rfl ?_)
            refine OW.cons (OP.no' rfl rfl hb135 rfl ?_)
            refine OW.cons (OP.no' rfl rfl hb135 rfl ?_)
            refine OW.cons (OP.no' rfl rfl hb135 rfl ?_)
            refine OW.cons (OP.no' rfl rfl hb135 rfl ?_)
            refine OW.cons (OP.yes' rfl rfl hb134 (OP.val (v := (.bool false)) rfl (x_pickF' rfl hb135 rfl) ?_))
            refine OW.cons (OP.val (v := (.bool false)) rfl (x_pickF' rfl hb134 rfl) ?_)
            refine OW.nil ?_
            exact ⟨false, hm, ⟨f97, f98, f99, f100, rfl, hL⟩⟩
      · intro s_j1 F121 w122 hJ hm
        unfold M.impl_IsDiscardRule_j1 at hm
        obtain ⟨f123, f124, f125, f126, f127, hL⟩ := hJ
        refine CW.condM (t := s_j1) f127 hm (fun hb128 hm => ?_) (fun hb128 hm => ?_)
        · refine CW.seq ?_
          refine CW.regionL ?_
          refine OW.cons (OP.val (v := (.bool false)) rfl (x_assign) ?_)
          refine OW.nil ?_
          refine CW.ret ?_
          obtain rfl := Option.some.inj hm
          have hm := hr86 _ rfl
          obtain rfl := Option.some.inj hm
          exact RR1 rfl rfl ⟨rfl, hL.fresh 0 rfl [] (by decide) (by decide) rfl⟩
        · refine CW.skip ?_
          refine CW.regionL ?_
          refine OW.cons (OP.val (v := (.int .i64 (w64 (s_l1 + 1)))) rfl (x_add f126 rfl) ?_)
          refine OW.cons (OP.val (v := (.int .i64 (w64 (s_l1 + 1)))) rfl (x_move) ?_)
          refine OW.nil ?_
          obtain rfl := Option.some.inj hm
          exact ⟨_, rfl, ⟨f123, f124, f125, rfl, hL⟩⟩
    · refine CW.exit ?_
      refine XJ.hit ?_
      obtain rfl := Option.some.inj hm
      exact ⟨_, rfl, ⟨f97, f98, f99, f100, hL⟩⟩

theorem M.laws_eqInt64S_ok (w0 : World) (a0 : List Int) {v1 : Value} (h2 : rdL (· < w0.heap.size) w0 v1 a0) (a1 : List Int) {v3 : Value} (h4 : rdL (· < w0.heap.size) w0 v3 a1) {r : Bool} (hm : M.laws_eqInt64S a0 a1 = some r) :
    Calls Try.prog 13 #[v1, v3] w0 fun e w' => e = .returned (.bool r) ∧ Fresh w0 w' [] := by
  unfold M.laws_eqInt64S at hm
  refine calls_CW (args := [v1, v3]) Try.func13 rfl rfl rfl ?_
  have hL := Hp.start w0
  refine CW.seq ?_
  refine CW.regionL ?_
  refine OW.cons (OP.val (v := (.bool false)) rfl (x_assign) ?_)
  refine OW.nil ?_
  refine CW.seq ?_
  refine CW.seq ?_
  refine CW.regionL ?_
  refine OW.cons (OP.val (v := v1) rfl (x_move) ?_)
  refine OW.cons (OP.val (v := (.int .i64 (a0.length : Int))) rfl (x_lenR Try.underlying28 rfl (hL.rdS 0 rfl h2)) ?_)
  refine OW.cons (OP.val (v := v3) rfl (x_move) ?_)
  refine OW.cons (OP.val (v := (.int .i64 (a1.length : Int))) rfl (x_lenR Try.underlying28 rfl (hL.rdS 0 rfl h4)) ?_)
  refine OW.cons (OP.val (v := (.bool ((a0.length : Int) != (a1.length : Int)))) rfl (x_neq rfl rfl) ?_)
  refine OW.nil ?_
  refine CW.condM (t := (a0.length : Int) != (a1.length : Int)) rfl hm (fun hb5 hm => ?_) (fun hb5 hm => ?_)
  · refine CW.seq ?_
    refine CW.regionL ?_
    refine OW.cons (OP.val (v := (.bool false)) rfl (x_assign) ?_)
    refine OW.nil ?_
    refine CW.ret ?_
    obtain rfl := Option.some.inj hm
    exact RR1 rfl rfl ⟨rfl, hL.fresh 0 rfl [] (by decide) (by decide) rfl⟩
  · refine CW.skip ?_
    refine CW.seq ?_
    refine CW.seq ?_
    refine CW.regionL ?_
    refine OW.cons (OP.val (v := (.int .i64 0)) rfl (x_assign) ?_)
    refine OW.nil ?_
    obtain ⟨o38, ho39, hm⟩ := bndE hm
    refine CW.loopB (fun (s_l1 : Int) (F : Fr) (w : World) => F 0 = v1 ∧ F 1 = v3 ∧ F 5 = (.int .i64 s_l1) ∧ Hp w0 [Ent.snap w0 w0.heap.size] w) (fun o => outc o (fun x => some x) (fun s => M.laws_eqInt64S_a1 s) = some r) ho39 hm ⟨rfl, rfl, rfl, hL⟩ ?_ ?_
    · intro s_l1 F40 w41 hJ hm
      have hm : M.laws_eqInt64S_a1 s_l1 = some r := hm
      unfold M.laws_eqInt64S_a1 at hm
      obtain ⟨f42, f43, f44, hL⟩ := hJ
      refine CW.seq ?_
      refine CW.regionL ?_
      refine OW.cons (OP.val (v := (.bool true)) rfl (x_assign) ?_)
      refine OW.nil ?_
      refine CW.ret ?_
      obtain rfl := Option.some.inj hm
      exact RR1 rfl rfl ⟨rfl, hL.fresh 0 rfl [] (by decide) (by decide) rfl⟩
    · intro s_l1 F45 w46 t36 hJ hm hr37
      unfold M.laws_eqInt64S_l1 at hm
      obtain ⟨f47, f48, f49, hL⟩ := hJ
      refine CW.seq ?_
      refine CW.seq ?_
      refine CW.regionL ?_
      refine OW.cons (OP.val (v := (.int .i64 s_l1)) rfl (x_mv f49) ?_)
      refine OW.cons (OP.val (v := v1) rfl (x_mv f47) ?_)
      refine OW.cons (OP.val (v := (.int .i64 (a0.length : Int))) rfl (x_lenR Try.underlying28 rfl (hL.rdS 0 rfl h2)) ?_)
      refine OW.cons (OP.val (v := (.bool (decide (s_l1 < (a0.length : Int))))) rfl (x_lss rfl rfl) ?_)
      refine OW.nil ?_
      refine CW.condM (t := decide (s_l1 < (a0.length : Int))) rfl hm (fun hb50 hm => ?_) (fun hb50 hm => ?_)
      · refine CW.skip ?_
        refine CW.seq ?_
        refine CW.block ?_
        refine CW.seq ?_
        refine CW.draw Try_mixed ?_
        have hL := hL.call (Mod.drew _)
        refine DW.pre (fuel := 0) (fin := ((((((((((Array.replicate 9 false).setIfInBounds 0 true).setIfInBounds 1 true).setIfInBounds 2 true).setIfInBounds 3 true).setIfInBounds 4 true).setIfInBounds 5 true).setIfInBounds 6 true).setIfInBounds 7 true).setIfInBounds 8 true)) (C := fun w' => Mod None_ _ w') [0, 1, 2, 3, 4, 5, 6, 7, 8] (Mod.refl _ _) (by kernel_rfl) (by kernel_rfl) ?_
        refine QW.cons rfl (QP.val (v := v1) rfl (fun w' hm' => x_mv f47) ?_)
        refine QW.cons rfl (QP.val (v := (.int .i64 s_l1)) rfl (fun w' hm' => x_mv f49) ?_)
        obtain ⟨x51, ha52, hm⟩ := bndE hm
        obtain ⟨h053, ha52⟩ := idxE ha52
        obtain ⟨b54, q55, hix56⟩ := rdL_ix (hL.rdS 0 rfl h2) h053 ha52
        refine QW.cons rfl (QP.val (v := (.pointer (some ⟨b54, q55, none⟩))) rfl (fun w' hm' => x_ix Try.underlying28 Try_T2 rfl rfl hix56) ?_)
        refine QW.cons rfl (QP.val (v := (.int .i64 x51)) rfl (fun w' hm' => x_load1 Try.underlying2 rfl rfl (rdF_cells ((hL.call hm').rdS 0 rfl h2) hix56 ha52 0 _ rfl)) ?_)
        refine QW.cons rfl (QP.val (v := v3) rfl (fun w' hm' => x_mv f48) ?_)
        refine QW.cons rfl (QP.val (v := (.int .i64 s_l1)) rfl (fun w' hm' => x_mv f49) ?_)
        obtain ⟨x57, ha58, hm⟩ := bndE hm
        obtain ⟨h059, ha58⟩ := idxE ha58
        obtain ⟨b60, q61, hix62⟩ := rdL_ix (hL.rdS 0 rfl h4) h059 ha58
        refine QW.cons rfl (QP.val (v := (.pointer (some ⟨b60, q61, none⟩))) rfl (fun w' hm' => x_ix Try.underlying28 Try_T2 rfl rfl hix62) ?_)
        refine QW.cons rfl (QP.val (v := (.int .i64 x57)) rfl (fun w' hm' => x_load1 Try.underlying2 rfl rfl (rdF_cells ((hL.call hm').rdS 0 rfl h4) hix62 ha58 0 _ rfl)) ?_)
        refine QW.cons rfl (QP.val (v := (.bool (x51 != x57))) rfl (fun w' hm' => x_neq rfl rfl) ?_)
        refine QW.nil ?_
        intro w63 hmod
        have hL := hL.call hmod
        refine DW.done (by kernel_rfl) ?_
        refine CW.condM (t := x51 != x57) rfl hm (fun hb64 hm => ?_) (fun hb64 hm => ?_)
        · refine CW.seq ?_
          refine CW.regionL ?_
          refine OW.cons (OP.val (v := (.bool false)) rfl (x_assign) ?_)
          refine OW.nil ?_
          refine CW.ret ?_
          obtain rfl := Option.some.inj hm
          have hm := hr37 _ rfl
          obtain rfl := Option.some.inj hm
          exact RR1 rfl rfl ⟨rfl, hL.fresh 0 rfl [] (by decide) (by decide) rfl⟩
        · refine CW.skip ?_
          refine CW.regionL ?_
          refine OW.cons (OP.val (v := (.int .i64 s_l1)) rfl (x_mv f49) ?_)
          refine OW.cons (OP.val (v := (.int .i64 (w64 (s_l1 + 1)))) rfl (x_add rfl rfl) ?_)
          refine OW.cons (OP.val (v := (.int .i64 (w64 (s_l1 + 1)))) rfl (x_assign) ?_)
          refine OW.nil ?_
          obtain rfl := Option.some.inj hm
          exact ⟨_, rfl, ⟨f47, f48, rfl, hL⟩⟩
      · refine CW.exit ?_
        refine XJ.hit ?_
        obtain rfl := Option.some.inj hm
        exact ⟨_, rfl, ⟨f47, f48, f49, hL⟩⟩

theorem M.laws_FnExactIsDiscardRule_ok (w0 : World) (a0 : List Int) {v1 : Value} (h2 : rdL (· < w0.heap.size) w0 v1 a0) {r : Bool} (hm : M.laws_FnExactIsDiscardRule a0 = some r) :
    Calls Try.prog 4 #[v1] w0 fun e w' => e = .returned (.bool r) ∧ Fresh w0 w' [] := by
  unfold M.laws_FnExactIsDiscardRule at hm
  refine calls_CW (args := [v1]) Try.func4 rfl rfl rfl ?_
  have hL := Hp.start w0
  refine CW.seq ?_
  refine CW.regionL ?_
  refine OW.cons (OP.val (v := (.bool false)) rfl (x_assign) ?_)
  refine OW.nil ?_
  refine CW.seq ?_
  refine CW.seq ?_
  refine CW.regionL ?_
  refine OW.cons (OP.val (v := v1) rfl (x_move) ?_)
  refine OW.cons (OP.val (v := (.int .i64 (a0.length : Int))) rfl (x_lenR Try.underlying28 rfl (hL.rdS 0 rfl h2)) ?_)
  refine OW.cons (OP.val (v := (.bool (decide (1048576 < (a0.length : Int))))) rfl (x_gtr rfl rfl) ?_)
  refine OW.nil ?_
  refine CW.condM (t := decide (1048576 < (a0.length : Int))) rfl hm (fun hb3 hm => ?_) (fun hb3 hm => ?_)
  · refine CW.seq ?_
    refine CW.regionL ?_
    refine OW.cons (OP.val (v := (.bool true)) rfl (x_assign) ?_)
    refine OW.nil ?_
    refine CW.ret ?_
    obtain rfl := Option.some.inj hm
    exact RR1 rfl rfl ⟨rfl, hL.fresh 0 rfl [] (by decide) (by decide) rfl⟩
  · refine CW.skip ?_
    refine CW.seq ?_
    refine CW.regionL ?_
    refine OW.cons (OP.val (v := v1) rfl (x_move) ?_)
    obtain ⟨x4, hx5, hm⟩ := bndE hm
    refine OW.cons (OP.call rfl (x_call (vs := [v1]) Try_C11 ⟨rfl, trivial⟩) (M.laws_toInt64S_ok _ a0 (hL.rdS 0 rfl h2) hx5) ?_)
    rintro e8 w9 ⟨v7, S6, rfl, hF10⟩
    refine ⟨_, rfl, ?_⟩
    have hL := hL.pushAll hF10
    simp only [List.cons_append, List.nil_append] at hL
    obtain ⟨x11, hx12, hm⟩ := bndE hm
    refine OW.cons (OP.call rfl (x_call (vs := [v7]) Try_C10 ⟨rfl, trivial⟩) (M.spec_IsDiscardRule_ok _ x4 (hL.rdO 0 rfl) hx12) ?_)
    rintro e13 w14 ⟨rfl, hF15⟩
    refine ⟨_, rfl, ?_⟩
    have hL := hL.pushAll hF15
    simp only [List.nil_append] at hL
    refine OW.cons (OP.val (v := (.bool x11)) rfl (x_assign) ?_)
    refine OW.nil ?_
    refine CW.seq ?_
    refine CW.regionL ?_
    refine OW.cons (OP.val (v := v1) rfl (x_move) ?_)
    obtain ⟨x16, hx17, hm⟩ := bndE hm
    refine OW.cons (OP.call rfl (x_call (vs := [v1]) Try_C11 ⟨rfl, trivial⟩) (M.laws_toInt64S_ok _ a0 (hL.rdS 1 rfl h2) hx17) ?_)
    rintro e20 w21 ⟨v19, S18, rfl, hF22⟩
    refine ⟨_, rfl, ?_⟩
    have hL := hL.pushAll hF22
    simp only [List.cons_append, List.nil_append] at hL
    refine OW.cons (OP.val (v := v19) rfl (x_assign) ?_)
    refine OW.nil ?_
    refine CW.seq ?_
    refine CW.regionL ?_
    refine OW.cons (OP.val (v := v19) rfl (x_move) ?_)
    obtain ⟨x23, hx24, hm⟩ := bndE hm
    refine OW.cons (OP.call rfl (x_call (vs := [v19]) Try_C12 ⟨rfl, trivial⟩) (M.impl_IsDiscardRule_ok _ x16 (hL.rdO 0 rfl) hx24) ?_)
    rintro e25 w26 ⟨rfl, hF27⟩
    refine ⟨_, rfl, ?_⟩
    have hL := hL.pushAll hF27
    simp only [List.nil_append] at hL
    refine OW.cons (OP.val (v := (.bool x23)) rfl (x_assign) ?_)
    refine OW.nil ?_
    refine CW.seq ?_
    refine CW.seq ?_
    refine CW.regionL ?_
    refine OW.cons (OP.val (v := (.bool x23)) rfl (x_move) ?_)
    refine OW.cons (OP.val (v := (.bool x11)) rfl (x_move) ?_)
    refine OW.cons (OP.val (v := (.bool (x23 != x11))) rfl (x_neqB Try.underlying4 rfl rfl) ?_)
    refine OW.nil ?_
    refine CW.condM (t := x23 != x11) rfl hm (fun hb28 hm => ?_) (fun hb28 hm => ?_)
    · refine CW.seq ?_
      refine CW.regionL ?_
      refine OW.cons (OP.val (v := (.bool false)) rfl (x_assign) ?_)
      refine OW.nil ?_
      refine CW.ret ?_
      obtain rfl := Option.some.inj hm
      exact RR1 rfl rfl ⟨rfl, hL.fresh 2 rfl [] (by decide) (by decide) rfl⟩
    · refine CW.skip ?_
      refine CW.seq ?_
      refine CW.seq ?_
      refine CW.regionL ?_
      refine OW.cons (OP.val (v := v19) rfl (x_move) ?_)
      refine OW.cons (OP.val (v := v1) rfl (x_move) ?_)
      obtain ⟨x29, hx30, hm⟩ := bndE hm
      refine OW.cons (OP.call rfl (x_call (vs := [v1]) Try_C11 ⟨rfl, trivial⟩) (M.laws_toInt64S_ok _ a0 (hL.rdS 2 rfl h2) hx30) ?_)
      rintro e33 w34 ⟨v32, S31, rfl, hF35⟩
      refine ⟨_, rfl, ?_⟩
      have hL := hL.pushAll hF35
      simp only [List.cons_append, List.nil_append] at hL
      obtain ⟨x36, hx37, hm⟩ := bndE hm
      refine OW.cons (OP.call rfl (x_call (vs := [v19, v32]) Try_C13 ⟨rfl, rfl, trivial⟩) (M.laws_eqInt64S_ok _ x16 (hL.rdO 1 rfl) x29 (hL.rdO 0 rfl) hx37) ?_)
      rintro e38 w39 ⟨rfl, hF40⟩
      refine ⟨_, rfl, ?_⟩
      have hL := hL.pushAll hF40
      simp only [List.nil_append] at hL
      refine OW.cons (OP.val (v := (.bool (!x36))) rfl (x_not rfl) ?_)
      refine OW.nil ?_
      refine CW.condM (t := !x36) rfl hm (fun hb41 hm => ?_) (fun hb41 hm => ?_)
      · refine CW.seq ?_
        refine CW.regionL ?_
        refine OW.cons (OP.val (v := (.bool false)) rfl (x_assign) ?_)
        refine OW.nil ?_
        refine CW.ret ?_
        obtain rfl := Option.some.inj hm
        exact RR1 rfl rfl ⟨rfl, hL.fresh 3 rfl [] (by decide) (by decide) rfl⟩
      · refine CW.skip ?_
        refine CW.seq ?_
        refine CW.regionL ?_
        refine OW.cons (OP.val (v := (.bool true)) rfl (x_assign) ?_)
        refine OW.nil ?_
        refine CW.ret ?_
        obtain rfl := Option.some.inj hm
        exact RR1 rfl rfl ⟨rfl, hL.fresh 3 rfl [] (by decide) (by decide) rfl⟩

theorem M.spec_l25New_ok (w0 : World) (a0 : ProgressRules) (a1 : Int) (a2 : Int) {r : Int} (hm : M.spec_l25New a0 a1 a2 = some r) :
    Calls Try.prog 21 #[(.agg #[(.int .i64 a0.Gain), (.int .i64 a0.Step), (.int .i64 a0.Low), (.int .i64 a0.High)]), (.int .i64 a1), (.int .i64 a2)] w0 fun e w' => e = .returned (.int .i64 r) ∧ Fresh w0 w' [] := by
  unfold M.spec_l25New at hm
  refine calls_CW (args := [(.agg #[(.int .i64 a0.Gain), (.int .i64 a0.Step), (.int .i64 a0.Low), (.int .i64 a0.High)]), (.int .i64 a1), (.int .i64 a2)]) Try.func21 rfl rfl rfl ?_
  have hL := Hp.start w0
  refine CW.seq ?_
  refine CW.regionL ?_
  refine OW.cons (S_box (cs := #[(.int .i64 a0.Gain), (.int .i64 a0.Step), (.int .i64 a0.Low), (.int .i64 a0.High)]) hL rfl rfl rfl ?_)
  intro w1 b2 hL
  refine OW.cons (OP.val (v := (.int .i64 0)) rfl (x_assign) ?_)
  refine OW.nil ?_
  refine CW.seq ?_
  refine CW.regionL ?_
  refine OW.cons (OP.val (v := (.pointer (some ⟨b2, 1, none⟩))) rfl (x_fieldAddr (fsz := 1) 0 1 1 Try.underlying25 rfl Try_T2 rfl rfl rfl) ?_)
  refine OW.cons (OP.val (v := (.int .i64 a0.Step)) rfl (x_load1 Try.underlying2 rfl rfl (hL.cellB 0 rfl rfl)) ?_)
  refine OW.cons (OP.val (v := (.int .i64 (w64 (0 - a0.Step)))) rfl (x_neg rfl) ?_)
  refine OW.cons (OP.val (v := (.pointer (some ⟨b2, 1, none⟩))) rfl (x_fieldAddr (fsz := 1) 0 1 1 Try.underlying25 rfl Try_T2 rfl rfl rfl) ?_)
  refine OW.cons (OP.val (v := (.int .i64 a0.Step)) rfl (x_load1 Try.underlying2 rfl rfl (hL.cellB 0 rfl rfl)) ?_)
  refine OW.cons (OP.val (v := (.pointer (some ⟨b2, 0, none⟩))) rfl (x_fieldAddr (fsz := 1) 0 0 0 Try.underlying25 rfl Try_T2 rfl rfl rfl) ?_)
  refine OW.cons (OP.val (v := (.int .i64 a0.Gain)) rfl (x_load1 Try.underlying2 rfl rfl (hL.cellB 0 rfl rfl)) ?_)
  refine OW.cons (OP.val (v := (.int .i64 a2)) rfl (x_move) ?_)
  refine OW.cons (OP.val (v := (.int .i64 a1)) rfl (x_move) ?_)
  refine OW.cons (OP.val (v := (.int .i64 (w64 (a2 - a1)))) rfl (x_sub rfl rfl) ?_)
  refine OW.cons (OP.val (v := (.int .i64 (w64 (a0.Gain * (w64 (a2 - a1)))))) rfl (x_mul rfl rfl) ?_)
  refine OW.cons (OP.val (v := (.int .i64 (w64 ((w64 (a0.Gain * (w64 (a2 - a1)))).tdiv 1000)))) rfl (x_quo rfl rfl (by decide)) ?_)
  refine OW.cons (OP.val (v := (.int .i64 (min a0.Step (w64 ((w64 (a0.Gain * (w64 (a2 - a1)))).tdiv 1000))))) rfl (x_min2 rfl rfl) ?_)
  refine OW.cons (OP.val (v := (.int .i64 (max (w64 (0 - a0.Step)) (min a0.Step (w64 ((w64 (a0.Gain * (w64 (a2 - a1)))).tdiv 1000)))))) rfl (x_max2 rfl rfl) ?_)
  refine OW.cons (OP.val (v := (.int .i64 (max (w64 (0 - a0.Step)) (min a0.Step (w64 ((w64 (a0.Gain * (w64 (a2 - a1)))).tdiv 1000)))))) rfl (x_assign) ?_)
  refine OW.nil ?_
  refine CW.seq ?_
  refine CW.regionL ?_
  refine OW.cons (OP.val (v := (.pointer (some ⟨b2, 2, none⟩))) rfl (x_fieldAddr (fsz := 1) 0 2 2 Try.underlying25 rfl Try_T2 rfl rfl rfl) ?_)
  refine OW.cons (OP.val (v := (.int .i64 a0.Low)) rfl (x_load1 Try.underlying2 rfl rfl (hL.cellB 0 rfl rfl)) ?_)
  refine OW.cons (OP.val (v := (.pointer (some ⟨b2, 3, none⟩))) rfl (x_fieldAddr (fsz := 1) 0 3 3 Try.underlying25 rfl Try_T2 rfl rfl rfl) ?_)
  refine OW.cons (OP.val (v := (.int .i64 a0.High)) rfl (x_load1 Try.underlying2 rfl rfl (hL.cellB 0 rfl rfl)) ?_)
  refine OW.cons (OP.val (v := (.int .i64 a1)) rfl (x_move) ?_)
  refine OW.cons (OP.val (v := (.int .i64 (max (w64 (0 - a0.Step)) (min a0.Step (w64 ((w64 (a0.Gain * (w64 (a2 - a1)))).tdiv 1000)))))) rfl (x_move) ?_)
  refine OW.cons (OP.val (v := (.int .i64 (w64 (a1 + (max (w64 (0 - a0.Step)) (min a0.Step (w64 ((w64 (a0.Gain * (w64 (a2 - a1)))).tdiv 1000)))))))) rfl (x_add rfl rfl) ?_)
  refine OW.cons (OP.val (v := (.int .i64 (min a0.High (w64 (a1 + (max (w64 (0 - a0.Step)) (min a0.Step (w64 ((w64 (a0.Gain * (w64 (a2 - a1)))).tdiv 1000))))))))) rfl (x_min2 rfl rfl) ?_)
  refine OW.cons (OP.val (v := (.int .i64 (max a0.Low (min a0.High (w64 (a1 + (max (w64 (0 - a0.Step)) (min a0.Step (w64 ((w64 (a0.Gain * (w64 (a2 - a1)))).tdiv 1000)))))))))) rfl (x_max2 rfl rfl) ?_)
  refine OW.cons (OP.val (v := (.int .i64 (max a0.Low (min a0.High (w64 (a1 + (max (w64 (0 - a0.Step)) (min a0.Step (w64 ((w64 (a0.Gain * (w64 (a2 - a1)))).tdiv 1000)))))))))) rfl (x_assign) ?_)
  refine OW.nil ?_
  refine CW.ret ?_
  obtain rfl := Option.some.inj hm
  exact RR1 rfl rfl ⟨rfl, hL.fresh 1 rfl [] (by decide) (by decide) rfl⟩

theorem M.spec_ProgressFactor_ok (w0 : World) (a0 : ProgressRules) (a1 : Int) (a2 : Int) {r : Int × Int} (hm : M.spec_ProgressFactor a0 a1 a2 = some r) :
    Calls Try.prog 14 #[(.agg #[(.int .i64 a0.Gain), (.int .i64 a0.Step), (.int .i64 a0.Low), (.int .i64 a0.High)]), (.int .i64 a1), (.int .i64 a2)] w0 fun e w' => e = .returned (.tuple #[(.int .i64 r.1), (.int .i64 r.2)]) ∧ Fresh w0 w' [] := by
  unfold M.spec_ProgressFactor at hm
  refine calls_CW (args := [(.agg #[(.int .i64 a0.Gain), (.int .i64 a0.Step), (.int .i64 a0.Low), (.int .i64 a0.High)]), (.int .i64 a1), (.int .i64 a2)]) Try.func14 rfl rfl rfl ?_
  have hL := Hp.start w0
  refine CW.seq ?_
  refine CW.regionL ?_
  refine OW.cons (S_box (cs := #[(.int .i64 a0.Gain), (.int .i64 a0.Step), (.int .i64 a0.Low), (.int .i64 a0.High)]) hL rfl rfl rfl ?_)
  intro w1 b2 hL
  refine OW.cons (OP.val (v := (.int .i64 0)) rfl (x_assign) ?_)
  refine OW.cons (OP.val (v := (.int .i64 0)) rfl (x_assign) ?_)
  refine OW.nil ?_
  refine CW.seq ?_
  refine CW.seq ?_
  refine CW.regionL ?_
  refine OW.cons (OP.val (v := (.agg #[(.int .i64 a0.Gain), (.int .i64 a0.Step), (.int .i64 a0.Low), (.int .i64 a0.High)])) rfl (x_loadN (cs := [(.int .i64 a0.Gain), (.int .i64 a0.Step), (.int .i64 a0.Low), (.int .i64 a0.High)]) Try.underlying25 Try_T25 rfl rfl (hL.cellsB 0 rfl (o := 0) (l := [(.int .i64 a0.Gain), (.int .i64 a0.Step), (.int .i64 a0.Low), (.int .i64 a0.High)]) (by intro j u hj; exact (by simpa using hj)))) ?_)
  obtain ⟨x3, hx4, hm⟩ := bndE hm
  refine OW.cons (OP.call rfl (x_call (vs := [(.agg #[(.int .i64 a0.Gain), (.int .i64 a0.Step), (.int .i64 a0.Low), (.int .i64 a0.High)])]) Try_C7 ⟨rfl, trivial⟩) (M.spec_IsProgress_ok _ a0 hx4) ?_)
  rintro e5 w6 ⟨rfl, hF7⟩
  refine ⟨_, rfl, ?_⟩
  have hL := hL.pushAll hF7
  simp only [List.nil_append] at hL
  refine OW.cons (OP.val (v := (.bool (!x3))) rfl (x_not rfl) ?_)
  refine OW.nil ?_
  refine CW.condM (t := !x3) rfl hm (fun hb8 hm => ?_) (fun hb8 hm => ?_)
  · refine CW.seq ?_
    refine CW.regionL ?_
    refine OW.cons (OP.val (v := (.int .i64 0)) rfl (x_assign) ?_)
    refine OW.cons (OP.val (v := (.int .i64 1)) rfl (x_assign) ?_)
    refine OW.nil ?_
    refine CW.ret ?_
    obtain rfl := Option.some.inj hm
    exact RR2 rfl rfl rfl ⟨rfl, hL.fresh 1 rfl [] (by decide) (by decide) rfl⟩
  · refine CW.skip ?_
    refine CW.seq ?_
    refine CW.seqJ (fun (s_j1 : Bool) (F : Fr) (w : World) => F 1 = (.int .i64 a1) ∧ F 2 = (.int .i64 a2) ∧ F 3 = (.pointer (some ⟨b2, 0, none⟩)) ∧ F 18 = (.bool s_j1) ∧ Hp w0 [Ent.blk b2 25 #[(.int .i64 a0.Gain), (.int .i64 a0.Step), (.int .i64 a0.Low), (.int .i64 a0.High)], Ent.snap w0 w0.heap.size] w) (fun s_j1 => M.spec_ProgressFactor_j1 a0 a1 a2 s_j1 = some r) ?_ ?_
    · refine CW.regionL ?_
      refine OW.cons (OP.val (v := (.int .i64 a1)) rfl (x_move) ?_)
      obtain ⟨x32, hx33, hm⟩ := bndE hm
      refine OW.cons (OP.call rfl (x_call (vs := [(.int .i64 a1)]) Try_C19 ⟨rfl, trivial⟩) (M.spec_l22Factor_ok _ a1 hx33) ?_)
      rintro e34 w35 ⟨rfl, hF36⟩
      refine ⟨_, rfl, ?_⟩
      have hL := hL.pushAll hF36
      simp only [List.nil_append] at hL
      refine OW.cons (OP.val (v := (.bool (!x32))) rfl (x_not rfl) ?_)
      refine OW.cons (OP.val (v := (.bool (!x32))) rfl (x_move) ?_)
      refine ifB_elim hm (fun hb37 hm => ?_) (fun hb37 hm => ?_)
      · refine OW.cons (OP.no' rfl rfl hb37 rfl ?_)
        refine OW.cons (OP.no' rfl rfl hb37 rfl ?_)
        refine OW.cons (OP.no' rfl rfl hb37 rfl ?_)
        refine OW.cons (OP.val (v := (.bool true)) rfl (x_pickT' rfl hb37 rfl) ?_)
        refine OW.nil ?_
        exact ⟨true, hm, ⟨rfl, rfl, rfl, rfl, hL⟩⟩
      · refine OW.cons (OP.yes' rfl rfl hb37 (OP.val (v := (.int .i64 a2)) rfl (x_move) ?_))
        obtain ⟨x38, hx39, hm⟩ := bndE hm
        refine OW.cons (OP.yes' rfl rfl hb37 (OP.call rfl (x_call (vs := [(.int .i64 a2)]) Try_C19 ⟨rfl, trivial⟩) (M.spec_l22Factor_ok _ a2 hx39) ?_))
        rintro e40 w41 ⟨rfl, hF42⟩
        refine ⟨_, rfl, ?_⟩
        have hL := hL.pushAll hF42
        simp only [List.nil_append] at hL
        refine OW.cons (OP.yes' rfl rfl hb37 (OP.val (v := (.bool (!x38))) rfl (x_not rfl) ?_))
        refine OW.cons (OP.val (v := (.bool (!x38))) rfl (x_pickF' rfl hb37 rfl) ?_)
        refine OW.nil ?_
        exact ⟨!x38, hm, ⟨rfl, rfl, rfl, rfl, hL⟩⟩
    · intro s_j1 F20 w21 hJ hm
      unfold M.spec_ProgressFactor_j1 at hm
      obtain ⟨f22, f23, f24, f25, hL⟩ := hJ
      refine CW.condM (t := s_j1) f25 hm (fun hb26 hm => ?_) (fun hb26 hm => ?_)
      · refine CW.seq ?_
        refine CW.regionL ?_
        refine OW.cons (OP.val (v := (.int .i64 0)) rfl (x_assign) ?_)
        refine OW.cons (OP.val (v := (.int .i64 2)) rfl (x_assign) ?_)
        refine OW.nil ?_
        refine CW.ret ?_
        obtain rfl := Option.some.inj hm
        exact RR2 rfl rfl rfl ⟨rfl, hL.fresh 1 rfl [] (by decide) (by decide) rfl⟩
      · refine CW.skip ?_
        refine CW.seq ?_
        refine CW.regionL ?_
        refine OW.cons (OP.val (v := (.agg #[(.int .i64 a0.Gain), (.int .i64 a0.Step), (.int .i64 a0.Low), (.int .i64 a0.High)])) rfl (x_loadN (cs := [(.int .i64 a0.Gain), (.int .i64 a0.Step), (.int .i64 a0.Low), (.int .i64 a0.High)]) Try.underlying25 Try_T25 rfl f24 (hL.cellsB 0 rfl (o := 0) (l := [(.int .i64 a0.Gain), (.int .i64 a0.Step), (.int .i64 a0.Low), (.int .i64 a0.High)]) (by intro j u hj; exact (by simpa using hj)))) ?_)
        refine OW.cons (OP.val (v := (.int .i64 a1)) rfl (x_mv f22) ?_)
        refine OW.cons (OP.val (v := (.int .i64 a2)) rfl (x_mv f23) ?_)
        obtain ⟨x27, hx28, hm⟩ := bndE hm
        refine OW.cons (OP.call rfl (x_call (vs := [(.agg #[(.int .i64 a0.Gain), (.int .i64 a0.Step), (.int .i64 a0.Low), (.int .i64 a0.High)]), (.int .i64 a1), (.int .i64 a2)]) Try_C21 ⟨rfl, rfl, rfl, trivial⟩) (M.spec_l25New_ok _ a0 a1 a2 hx28) ?_)
        rintro e29 w30 ⟨rfl, hF31⟩
        refine ⟨_, rfl, ?_⟩
        have hL := hL.pushAll hF31
        simp only [List.nil_append] at hL
        refine OW.cons (OP.val (v := (.int .i64 x27)) rfl (x_assign) ?_)
        refine OW.cons (OP.val (v := (.int .i64 0)) rfl (x_assign) ?_)
        refine OW.nil ?_
        refine CW.ret ?_
        obtain rfl := Option.some.inj hm
        exact RR2 rfl rfl rfl ⟨rfl, hL.fresh 1 rfl [] (by decide) (by decide) rfl⟩

theorem M.impl_isFactor_ok (w0 : World) (a0 : Int) {r : Bool} (hm : M.impl_isFactor a0 = some r) :
    Calls Try.prog 22 #[(.int .i64 a0)] w0 fun e w' => e = .returned (.bool r) ∧ Fresh w0 w' [] := by
  unfold M.impl_isFactor at hm
  refine calls_CW (args := [(.int .i64 a0)]) Try.func22 rfl rfl rfl ?_
  have hL := Hp.start w0
  refine CW.seq ?_
  refine CW.regionL ?_
  refine OW.cons (OP.val (v := (.bool false)) rfl (x_assign) ?_)
  refine OW.nil ?_
  refine CW.seq ?_
  refine CW.regionL ?_
  refine OW.cons (OP.val (v := (.int .i64 a0)) rfl (x_move) ?_)
  obtain ⟨x1, hx2, hm⟩ := bndE hm
  refine OW.cons (OP.call rfl (x_call (vs := [(.int .i64 a0), (.int .i64 1), (.int .i64 3000)]) Try_C20 ⟨rfl, rfl, rfl, trivial⟩) (M.impl_within_ok _ a0 1 3000 hx2) ?_)
  rintro e3 w4 ⟨rfl, hF5⟩
  refine ⟨_, rfl, ?_⟩
  have hL := hL.pushAll hF5
  simp only [List.nil_append] at hL
  refine OW.cons (OP.val (v := (.bool x1)) rfl (x_assign) ?_)
  refine OW.nil ?_
  refine CW.ret ?_
  obtain rfl := Option.some.inj hm
  exact RR1 rfl rfl ⟨rfl, hL.fresh 0 rfl [] (by decide) (by decide) rfl⟩

theorem M.impl_progress_ok (w0 : World) (a0 : ProgressRules) (a1 : Int) (a2 : Int) {r : Int} (hm : M.impl_progress a0 a1 a2 = some r) :
    Calls Try.prog 23 #[(.agg #[(.int .i64 a0.Gain), (.int .i64 a0.Step), (.int .i64 a0.Low), (.int .i64 a0.High)]), (.int .i64 a1), (.int .i64 a2)] w0 fun e w' => e = .returned (.int .i64 r) ∧ Fresh w0 w' [] := by
  unfold M.impl_progress at hm
  refine calls_CW (args := [(.agg #[(.int .i64 a0.Gain), (.int .i64 a0.Step), (.int .i64 a0.Low), (.int .i64 a0.High)]), (.int .i64 a1), (.int .i64 a2)]) Try.func23 rfl rfl rfl ?_
  have hL := Hp.start w0
  refine CW.seq ?_
  refine CW.regionL ?_
  refine OW.cons (S_box (cs := #[(.int .i64 a0.Gain), (.int .i64 a0.Step), (.int .i64 a0.Low), (.int .i64 a0.High)]) hL rfl rfl rfl ?_)
  intro w1 b2 hL
  refine OW.cons (OP.val (v := (.int .i64 0)) rfl (x_assign) ?_)
  refine OW.nil ?_
  refine CW.seq ?_
  refine CW.regionL ?_
  refine OW.cons (OP.val (v := (.pointer (some ⟨b2, 1, none⟩))) rfl (x_fieldAddr (fsz := 1) 0 1 1 Try.underlying25 rfl Try_T2 rfl rfl rfl) ?_)
  refine OW.cons (OP.val (v := (.int .i64 a0.Step)) rfl (x_load1 Try.underlying2 rfl rfl (hL.cellB 0 rfl rfl)) ?_)
  refine OW.cons (OP.val (v := (.int .i64 (w64 (0 - a0.Step)))) rfl (x_neg rfl) ?_)
  refine OW.cons (OP.val (v := (.pointer (some ⟨b2, 1, none⟩))) rfl (x_fieldAddr (fsz := 1) 0 1 1 Try.underlying25 rfl Try_T2 rfl rfl rfl) ?_)
  refine OW.cons (OP.val (v := (.int .i64 a0.Step)) rfl (x_load1 Try.underlying2 rfl rfl (hL.cellB 0 rfl rfl)) ?_)
  refine OW.cons (OP.val (v := (.pointer (some ⟨b2, 0, none⟩))) rfl (x_fieldAddr (fsz := 1) 0 0 0 Try.underlying25 rfl Try_T2 rfl rfl rfl) ?_)
  refine OW.cons (OP.val (v := (.int .i64 a0.Gain)) rfl (x_load1 Try.underlying2 rfl rfl (hL.cellB 0 rfl rfl)) ?_)
  refine OW.cons (OP.val (v := (.int .i64 a2)) rfl (x_move) ?_)
  refine OW.cons (OP.val (v := (.int .i64 a1)) rfl (x_move) ?_)
  refine OW.cons (OP.val (v := (.int .i64 (w64 (a2 - a1)))) rfl (x_sub rfl rfl) ?_)
  refine OW.cons (OP.val (v := (.int .i64 (w64 (a0.Gain * (w64 (a2 - a1)))))) rfl (x_mul rfl rfl) ?_)
  refine OW.cons (OP.val (v := (.int .i64 (w64 ((w64 (a0.Gain * (w64 (a2 - a1)))).tdiv 1000)))) rfl (x_quo rfl rfl (by decide)) ?_)
  refine OW.cons (OP.val (v := (.int .i64 (min a0.Step (w64 ((w64 (a0.Gain * (w64 (a2 - a1)))).tdiv 1000))))) rfl (x_min2 rfl rfl) ?_)
  refine OW.cons (OP.val (v := (.int .i64 (max (w64 (0 - a0.Step)) (min a0.Step (w64 ((w64 (a0.Gain * (w64 (a2 - a1)))).tdiv 1000)))))) rfl (x_max2 rfl rfl) ?_)
  refine OW.cons (OP.val (v := (.int .i64 (max (w64 (0 - a0.Step)) (min a0.Step (w64 ((w64 (a0.Gain * (w64 (a2 - a1)))).tdiv 1000)))))) rfl (x_assign) ?_)
  refine OW.nil ?_
  refine CW.seq ?_
  refine CW.regionL ?_
  refine OW.cons (OP.val (v := (.pointer (some ⟨b2, 2, none⟩))) rfl (x_fieldAddr (fsz := 1) 0 2 2 Try.underlying25 rfl Try_T2 rfl rfl rfl) ?_)
  refine OW.cons (OP.val (v := (.int .i64 a0.Low)) rfl (x_load1 Try.underlying2 rfl rfl (hL.cellB 0 rfl rfl)) ?_)
  refine OW.cons (OP.val (v := (.pointer (some ⟨b2, 3, none⟩))) rfl (x_fieldAddr (fsz := 1) 0 3 3 Try.underlying25 rfl Try_T2 rfl rfl rfl) ?_)
  refine OW.cons (OP.val (v := (.int .i64 a0.High)) rfl (x_load1 Try.underlying2 rfl rfl (hL.cellB 0 rfl rfl)) ?_)
  refine OW.cons (OP.val (v := (.int .i64 a1)) rfl (x_move) ?_)
  refine OW.cons (OP.val (v := (.int .i64 (max (w64 (0 - a0.Step)) (min a0.Step (w64 ((w64 (a0.Gain * (w64 (a2 - a1)))).tdiv 1000)))))) rfl (x_move) ?_)
  refine OW.cons (OP.val (v := (.int .i64 (w64 (a1 + (max (w64 (0 - a0.Step)) (min a0.Step (w64 ((w64 (a0.Gain * (w64 (a2 - a1)))).tdiv 1000)))))))) rfl (x_add rfl rfl) ?_)
  refine OW.cons (OP.val (v := (.int .i64 (min a0.High (w64 (a1 + (max (w64 (0 - a0.Step)) (min a0.Step (w64 ((w64 (a0.Gain * (w64 (a2 - a1)))).tdiv 1000))))))))) rfl (x_min2 rfl rfl) ?_)
  refine OW.cons (OP.val (v := (.int .i64 (max a0.Low (min a0.High (w64 (a1 + (max (w64 (0 - a0.Step)) (min a0.Step (w64 ((w64 (a0.Gain * (w64 (a2 - a1)))).tdiv 1000)))))))))) rfl (x_max2 rfl rfl) ?_)
  refine OW.cons (OP.val (v := (.int .i64 (max a0.Low (min a0.High (w64 (a1 + (max (w64 (0 - a0.Step)) (min a0.Step (w64 ((w64 (a0.Gain * (w64 (a2 - a1)))).tdiv 1000)))))))))) rfl (x_assign) ?_)
  refine OW.nil ?_
  refine CW.ret ?_
  obtain rfl := Option.some.inj hm
  exact RR1 rfl rfl ⟨rfl, hL.fresh 1 rfl [] (by decide) (by decide) rfl⟩

theorem M.impl_ProgressFactor_ok (w0 : World) (a0 : ProgressRules) (a1 : Int) (a2 : Int) {r : Int × Int} (hm : M.impl_ProgressFactor a0 a1 a2 = some r) :
    Calls Try.prog 15 #[(.agg #[(.int .i64 a0.Gain), (.int .i64 a0.Step), (.int .i64 a0.Low), (.int .i64 a0.High)]), (.int .i64 a1), (.int .i64 a2)] w0 fun e w' => e = .returned (.tuple #[(.int .i64 r.1), (.int .i64 r.2)]) ∧ Fresh w0 w' [] := by
  unfold M.impl_ProgressFactor at hm
  refine calls_CW (args := [(.agg #[(.int .i64 a0.Gain), (.int .i64 a0.Step), (.int .i64 a0.Low), (.int .i64 a0.High)]), (.int .i64 a1), (.int .i64 a2)]) Try.func15 rfl rfl rfl ?_
  have hL := Hp.start w0
  refine CW.seq ?_
  refine CW.regionL ?_
  refine OW.cons (S_box (cs := #[(.int .i64 a0.Gain), (.int .i64 a0.Step), (.int .i64 a0.Low), (.int .i64 a0.High)]) hL rfl rfl rfl ?_)
  intro w1 b2 hL
  refine OW.cons (OP.val (v := (.int .i64 0)) rfl (x_assign) ?_)
  refine OW.cons (OP.val (v := (.int .i64 0)) rfl (x_assign) ?_)
  refine OW.nil ?_
  refine CW.seq ?_
  refine CW.seq ?_
  refine CW.regionL ?_
  refine OW.cons (OP.val (v := (.agg #[(.int .i64 a0.Gain), (.int .i64 a0.Step), (.int .i64 a0.Low), (.int .i64 a0.High)])) rfl (x_loadN (cs := [(.int .i64 a0.Gain), (.int .i64 a0.Step), (.int .i64 a0.Low), (.int .i64 a0.High)]) Try.underlying25 Try_T25 rfl rfl (hL.cellsB 0 rfl (o := 0) (l := [(.int .i64 a0.Gain), (.int .i64 a0.Step), (.int .i64 a0.Low), (.int .i64 a0.High)]) (by intro j u hj; exact (by simpa using hj)))) ?_)
  obtain ⟨x3, hx4, hm⟩ := bndE hm
  refine OW.cons (OP.call rfl (x_call (vs := [(.agg #[(.int .i64 a0.Gain), (.int .i64 a0.Step), (.int .i64 a0.Low), (.int .i64 a0.High)])]) Try_C9 ⟨rfl, trivial⟩) (M.impl_IsProgress_ok _ a0 hx4) ?_)
  rintro e5 w6 ⟨rfl, hF7⟩
  refine ⟨_, rfl, ?_⟩
  have hL := hL.pushAll hF7
  simp only [List.nil_append] at hL
  refine OW.cons (OP.val (v := (.bool (!x3))) rfl (x_not rfl) ?_)
  refine OW.nil ?_
  refine CW.condM (t := !x3) rfl hm (fun hb8 hm => ?_) (fun hb8 hm => ?_)
  · refine CW.seq ?_
    refine CW.regionL ?_
    refine OW.cons (OP.val (v := (.int .i64 0)) rfl (x_assign) ?_)
    refine OW.cons (OP.val (v := (.int .i64 1)) rfl (x_assign) ?_)
    refine OW.nil ?_
    refine CW.ret ?_
    obtain rfl := Option.some.inj hm
    exact RR2 rfl rfl rfl ⟨rfl, hL.fresh 1 rfl [] (by decide) (by decide) rfl⟩
  · refine CW.skip ?_
    refine CW.seq ?_
    refine CW.seqJ (fun (s_j1 : Bool) (F : Fr) (w : World) => F 1 = (.int .i64 a1) ∧ F 2 = (.int .i64 a2) ∧ F 3 = (.pointer (some ⟨b2, 0, none⟩)) ∧ F 18 = (.bool s_j1) ∧ Hp w0 [Ent.blk b2 25 #[(.int .i64 a0.Gain), (.int .i64 a0.Step), (.int .i64 a0.Low), (.int .i64 a0.High)], Ent.snap w0 w0.heap.size] w) (fun s_j1 => M.impl_ProgressFactor_j1 a0 a1 a2 s_j1 = some r) ?_ ?_
    · refine CW.regionL ?_
      refine OW.cons (OP.val (v := (.int .i64 a1)) rfl (x_move) ?_)
      obtain ⟨x32, hx33, hm⟩ := bndE hm
      refine OW.cons (OP.call rfl (x_call (vs := [(.int .i64 a1)]) Try_C22 ⟨rfl, trivial⟩) (M.impl_isFactor_ok _ a1 hx33) ?_)
      rintro e34 w35 ⟨rfl, hF36⟩
      refine ⟨_, rfl, ?_⟩
      have hL := hL.pushAll hF36
      simp only [List.nil_append] at hL
      refine OW.cons (OP.val (v := (.bool (!x32))) rfl (x_not rfl) ?_)
      refine OW.cons (OP.val (v := (.bool (!x32))) rfl (x_move) ?_)
      refine ifB_elim hm (fun hb37 hm => ?_) (fun hb37 hm => ?_)
      · refine OW.cons (OP.no' rfl rfl hb37 rfl ?_)
        refine OW.cons (OP.no' rfl rfl hb37 rfl ?_)
        refine OW.cons (OP.no' rfl rfl hb37 rfl ?_)
        refine OW.cons (OP.val (v := (.bool true)) rfl (x_pickT' rfl hb37 rfl) ?_)
        refine OW.nil ?_
        exact ⟨true, hm, ⟨rfl, rfl, rfl, rfl, hL⟩⟩
      · refine OW.cons (OP.yes' rfl rfl hb37 (OP.val (v := (.int .i64 a2)) rfl (x_move) ?_))
        obtain ⟨x38, hx39, hm⟩ := bndE hm
        refine OW.cons (OP.yes' rfl rfl hb37 (OP.call rfl (x_call (vs := [(.int .i64 a2)]) Try_C22 ⟨rfl, trivial⟩) (M.impl_isFactor_ok _ a2 hx39) ?_))
        rintro e40 w41 ⟨rfl, hF42⟩
        refine ⟨_, rfl, ?_⟩
        have hL := hL.pushAll hF42
        simp only [List.nil_append] at hL
        refine OW.cons (OP.yes' rfl rfl hb37 (OP.val (v := (.bool (!x38))) rfl (x_not rfl) ?_))
        refine OW.cons (OP.val (v := (.bool (!x38))) rfl (x_pickF' rfl hb37 rfl) ?_)
        refine OW.nil ?_
        exact ⟨!x38, hm, ⟨rfl, rfl, rfl, rfl, hL⟩⟩
    · intro s_j1 F20 w21 hJ hm
      unfold M.impl_ProgressFactor_j1 at hm
      obtain ⟨f22, f23, f24, f25, hL⟩ := hJ
      refine CW.condM (t := s_j1) f25 hm (fun hb26 hm => ?_) (fun hb26 hm => ?_)
      · refine CW.seq ?_
        refine CW.regionL ?_
        refine OW.cons (OP.val (v := (.int .i64 0)) rfl (x_assign) ?_)
        refine OW.cons (OP.val (v := (.int .i64 2)) rfl (x_assign) ?_)
        refine OW.nil ?_
        refine CW.ret ?_
        obtain rfl := Option.some.inj hm
        exact RR2 rfl rfl rfl ⟨rfl, hL.fresh 1 rfl [] (by decide) (by decide) rfl⟩
      · refine CW.skip ?_
        refine CW.seq ?_
        refine CW.regionL ?_
        refine OW.cons (OP.val (v := (.agg #[(.int .i64 a0.Gain), (.int .i64 a0.Step), (.int .i64 a0.Low), (.int .i64 a0.High)])) rfl (x_loadN (cs := [(.int .i64 a0.Gain), (.int .i64 a0.Step), (.int .i64 a0.Low), (.int .i64 a0.High)]) Try.underlying25 Try_T25 rfl f24 (hL.cellsB 0 rfl (o := 0) (l := [(.int .i64 a0.Gain), (.int .i64 a0.Step), (.int .i64 a0.Low), (.int .i64 a0.High)]) (by intro j u hj; exact (by simpa using hj)))) ?_)
        refine OW.cons (OP.val (v := (.int .i64 a1)) rfl (x_mv f22) ?_)
        refine OW.cons (OP.val (v := (.int .i64 a2)) rfl (x_mv f23) ?_)
        obtain ⟨x27, hx28, hm⟩ := bndE hm
        refine OW.cons (OP.call rfl (x_call (vs := [(.agg #[(.int .i64 a0.Gain), (.int .i64 a0.Step), (.int .i64 a0.Low), (.int .i64 a0.High)]), (.int .i64 a1), (.int .i64 a2)]) Try_C23 ⟨rfl, rfl, rfl, trivial⟩) (M.impl_progress_ok _ a0 a1 a2 hx28) ?_)
        rintro e29 w30 ⟨rfl, hF31⟩
        refine ⟨_, rfl, ?_⟩
        have hL := hL.pushAll hF31
        simp only [List.nil_append] at hL
        refine OW.cons (OP.val (v := (.int .i64 x27)) rfl (x_assign) ?_)
        refine OW.cons (OP.val (v := (.int .i64 0)) rfl (x_assign) ?_)
        refine OW.nil ?_
        refine CW.ret ?_
        obtain rfl := Option.some.inj hm
        exact RR2 rfl rfl rfl ⟨rfl, hL.fresh 1 rfl [] (by decide) (by decide) rfl⟩

theorem M.laws_FnExactProgressFactor_ok (w0 : World) (a0 : ProgressRules) (a1 : Int) (a2 : Int) {r : Bool} (hm : M.laws_FnExactProgressFactor a0 a1 a2 = some r) :
    Calls Try.prog 5 #[(.agg #[(.int .i64 a0.Gain), (.int .i64 a0.Step), (.int .i64 a0.Low), (.int .i64 a0.High)]), (.int .i64 a1), (.int .i64 a2)] w0 fun e w' => e = .returned (.bool r) ∧ Fresh w0 w' [] := by
  unfold M.laws_FnExactProgressFactor at hm
  refine calls_CW (args := [(.agg #[(.int .i64 a0.Gain), (.int .i64 a0.Step), (.int .i64 a0.Low), (.int .i64 a0.High)]), (.int .i64 a1), (.int .i64 a2)]) Try.func5 rfl rfl rfl ?_
  have hL := Hp.start w0
  refine CW.seq ?_
  refine CW.regionL ?_
  refine OW.cons (S_box (cs := #[(.int .i64 a0.Gain), (.int .i64 a0.Step), (.int .i64 a0.Low), (.int .i64 a0.High)]) hL rfl rfl rfl ?_)
  intro w1 b2 hL
  refine OW.cons (OP.val (v := (.bool false)) rfl (x_assign) ?_)
  refine OW.nil ?_
  refine CW.seq ?_
  refine CW.regionL ?_
  refine OW.cons (OP.val (v := (.agg #[(.int .i64 a0.Gain), (.int .i64 a0.Step), (.int .i64 a0.Low), (.int .i64 a0.High)])) rfl (x_loadN (cs := [(.int .i64 a0.Gain), (.int .i64 a0.Step), (.int .i64 a0.Low), (.int .i64 a0.High)]) Try.underlying23 Try_T23 rfl rfl (hL.cellsB 0 rfl (o := 0) (l := [(.int .i64 a0.Gain), (.int .i64 a0.Step), (.int .i64 a0.Low), (.int .i64 a0.High)]) (by intro j u hj; exact (by simpa using hj)))) ?_)
  obtain ⟨x3, hx4, hm⟩ := bndE hm
  refine OW.cons (OP.call rfl (x_call (vs := [(.agg #[(.int .i64 a0.Gain), (.int .i64 a0.Step), (.int .i64 a0.Low), (.int .i64 a0.High)])]) Try_C8 ⟨rfl, trivial⟩) (M.laws_toProgressRules_ok _ a0 hx4) ?_)
  rintro e5 w6 ⟨rfl, hF7⟩
  refine ⟨_, rfl, ?_⟩
  have hL := hL.pushAll hF7
  simp only [List.nil_append] at hL
  refine OW.cons (OP.val (v := (.int .i64 a1)) rfl (x_move) ?_)
  refine OW.cons (OP.val (v := (.int .i64 a2)) rfl (x_move) ?_)
  obtain ⟨x8, hx9, hm⟩ := bndE hm
  refine OW.cons (OP.call rfl (x_call (vs := [(.agg #[(.int .i64 x3.Gain), (.int .i64 x3.Step), (.int .i64 x3.Low), (.int .i64 x3.High)]), (.int .i64 a1), (.int .i64 a2)]) Try_C14 ⟨rfl, rfl, rfl, trivial⟩) (M.spec_ProgressFactor_ok _ x3 a1 a2 hx9) ?_)
  rintro e10 w11 ⟨rfl, hF12⟩
  refine ⟨_, rfl, ?_⟩
  have hL := hL.pushAll hF12
  simp only [List.nil_append] at hL
  refine OW.cons (OP.val (v := (.tuple #[(.int .i64 x8.1), (.int .i64 x8.2)])) rfl (x_move) ?_)
  refine OW.cons (OP.val (v := (.int .i64 x8.1)) rfl (x_extract rfl rfl) ?_)
  refine OW.cons (OP.val (v := (.int .i64 x8.2)) rfl (x_extract rfl rfl) ?_)
  refine OW.cons (OP.val (v := (.int .i64 x8.1)) rfl (x_assign) ?_)
  refine OW.cons (OP.val (v := (.int .i64 x8.2)) rfl (x_assign) ?_)
  refine OW.nil ?_
  refine CW.seq ?_
  refine CW.regionL ?_
  refine OW.cons (OP.val (v := (.agg #[(.int .i64 a0.Gain), (.int .i64 a0.Step), (.int .i64 a0.Low), (.int .i64 a0.High)])) rfl (x_loadN (cs := [(.int .i64 a0.Gain), (.int .i64 a0.Step), (.int .i64 a0.Low), (.int .i64 a0.High)]) Try.underlying23 Try_T23 rfl rfl (hL.cellsB 0 rfl (o := 0) (l := [(.int .i64 a0.Gain), (.int .i64 a0.Step), (.int .i64 a0.Low), (.int .i64 a0.High)]) (by intro j u hj; exact (by simpa using hj)))) ?_)
  obtain ⟨x13, hx14, hm⟩ := bndE hm
  refine OW.cons (OP.call rfl (x_call (vs := [(.agg #[(.int .i64 a0.Gain), (.int .i64 a0.Step), (.int .i64 a0.Low), (.int .i64 a0.High)])]) Try_C8 ⟨rfl, trivial⟩) (M.laws_toProgressRules_ok _ a0 hx14) ?_)
  rintro e15 w16 ⟨rfl, hF17⟩
  refine ⟨_, rfl, ?_⟩
  have hL := hL.pushAll hF17
  simp only [List.nil_append] at hL
  refine OW.cons (OP.val (v := (.int .i64 a1)) rfl (x_move) ?_)
  refine OW.cons (OP.val (v := (.int .i64 a2)) rfl (x_move) ?_)
  obtain ⟨x18, hx19, hm⟩ := bndE hm
  refine OW.cons (OP.call rfl (x_call (vs := [(.agg #[(.int .i64 x13.Gain), (.int .i64 x13.Step), (.int .i64 x13.Low), (.int .i64 x13.High)]), (.int .i64 a1), (.int .i64 a2)]) Try_C15 ⟨rfl, rfl, rfl, trivial⟩) (M.impl_ProgressFactor_ok _ x13 a1 a2 hx19) ?_)
  rintro e20 w21 ⟨rfl, hF22⟩
  refine ⟨_, rfl, ?_⟩
  have hL := hL.pushAll hF22
  simp only [List.nil_append] at hL
  refine OW.cons (OP.val (v := (.tuple #[(.int .i64 x18.1), (.int .i64 x18.2)])) rfl (x_move) ?_)
  refine OW.cons (OP.val (v := (.int .i64 x18.1)) rfl (x_extract rfl rfl) ?_)
  refine OW.cons (OP.val (v := (.int .i64 x18.2)) rfl (x_extract rfl rfl) ?_)
  refine OW.cons (OP.val (v := (.int .i64 x18.1)) rfl (x_assign) ?_)
  refine OW.cons (OP.val (v := (.int .i64 x18.2)) rfl (x_assign) ?_)
  refine OW.nil ?_
  refine CW.seq ?_
  refine CW.seqJ (fun (s_j1 : Bool) (F : Fr) (w : World) => F 34 = (.bool s_j1) ∧ Hp w0 [Ent.blk b2 23 #[(.int .i64 a0.Gain), (.int .i64 a0.Step), (.int .i64 a0.Low), (.int .i64 a0.High)], Ent.snap w0 w0.heap.size] w) (fun s_j1 => M.laws_FnExactProgressFactor_j1 s_j1 = some r) ?_ ?_
  · refine CW.regionL ?_
    refine OW.cons (OP.val (v := (.int .i64 x18.1)) rfl (x_move) ?_)
    refine OW.cons (OP.val (v := (.int .i64 x8.1)) rfl (x_move) ?_)
    refine OW.cons (OP.val (v := (.bool (x18.1 != x8.1))) rfl (x_neq rfl rfl) ?_)
    refine OW.cons (OP.val (v := (.bool (x18.1 != x8.1))) rfl (x_move) ?_)
    refine ifB_elim hm (fun hb28 hm => ?_) (fun hb28 hm => ?_)
    · refine OW.cons (OP.no' rfl rfl hb28 rfl ?_)
      refine OW.cons (OP.no' rfl rfl hb28 rfl ?_)
      refine OW.cons (OP.no' rfl rfl hb28 rfl ?_)
      refine OW.cons (OP.val (v := (.bool true)) rfl (x_pickT' rfl hb28 rfl) ?_)
      refine OW.nil ?_
      exact ⟨true, hm, ⟨rfl, hL⟩⟩
    · refine OW.cons (OP.yes' rfl rfl hb28 (OP.val (v := (.int .i64 x18.2)) rfl (x_move) ?_))
      refine OW.cons (OP.yes' rfl rfl hb28 (OP.val (v := (.int .i64 x8.2)) rfl (x_move) ?_))
      refine OW.cons (OP.yes' rfl rfl hb28 (OP.val (v := (.bool (x18.2 != x8.2))) rfl (x_neq rfl rfl) ?_))
      refine OW.cons (OP.val (v := (.bool (x18.2 != x8.2))) rfl (x_pickF' rfl hb28 rfl) ?_)
      refine OW.nil ?_
      exact ⟨x18.2 != x8.2, hm, ⟨rfl, hL⟩⟩
  · intro s_j1 F24 w25 hJ hm
    unfold M.laws_FnExactProgressFactor_j1 at hm
    obtain ⟨f26, hL⟩ := hJ
    refine CW.condM (t := s_j1) f26 hm (fun hb27 hm => ?_) (fun hb27 hm => ?_)
    · refine CW.seq ?_
      refine CW.regionL ?_
      refine OW.cons (OP.val (v := (.bool false)) rfl (x_assign) ?_)
      refine OW.nil ?_
      refine CW.ret ?_
      obtain rfl := Option.some.inj hm
      exact RR1 rfl rfl ⟨rfl, hL.fresh 1 rfl [] (by decide) (by decide) rfl⟩
    · refine CW.skip ?_
      refine CW.seq ?_
      refine CW.regionL ?_
      refine OW.cons (OP.val (v := (.bool true)) rfl (x_assign) ?_)
      refine OW.nil ?_
      refine CW.ret ?_
      obtain rfl := Option.some.inj hm
      exact RR1 rfl rfl ⟨rfl, hL.fresh 1 rfl [] (by decide) (by decide) rfl⟩

theorem M.spec_l27Count_ok (w0 : World) (a0 : List Int) {v1 : Value} (h2 : rdL (· < w0.heap.size) w0 v1 a0) (a1 : Int) {r : Int} (hm : M.spec_l27Count a0 a1 = some r) :
    Calls Try.prog 24 #[v1, (.int .i64 a1)] w0 fun e w' => e = .returned (.int .i64 r) ∧ Fresh w0 w' [] := by
  unfold M.spec_l27Count at hm
  refine calls_CW (args := [v1, (.int .i64 a1)]) Try.func24 rfl rfl rfl ?_
  have hL := Hp.start w0
  refine CW.seq ?_
  refine CW.regionL ?_
  refine OW.cons (OP.val (v := (.int .i64 0)) rfl (x_assign) ?_)
  refine OW.nil ?_
  refine CW.seq ?_
  refine CW.regionL ?_
  refine OW.cons (OP.val (v := (.int .i64 0)) rfl (x_assign) ?_)
  refine OW.nil ?_
  refine CW.seq ?_
  refine CW.seq ?_
  refine CW.regionL ?_
  refine OW.cons (OP.val (v := (.int .i64 0)) rfl (x_assign) ?_)
  refine OW.nil ?_
  obtain ⟨o99, ho100, hm⟩ := bndE hm
  refine CW.loopB (fun (s_l1 : Int × Int) (F : Fr) (w : World) => F 0 = v1 ∧ F 1 = (.int .i64 a1) ∧ F 5 = (.int .i64 s_l1.1) ∧ F 6 = (.int .i64 s_l1.2) ∧ Hp w0 [Ent.snap w0 w0.heap.size] w) (fun o => outc o (fun x => some x) (fun s => M.spec_l27Count_a1 s) = some r) ho100 hm ⟨rfl, rfl, rfl, rfl, hL⟩ ?_ ?_
  · intro s_l1 F101 w102 hJ hm
    have hm : M.spec_l27Count_a1 s_l1 = some r := hm
    unfold M.spec_l27Count_a1 at hm
    obtain ⟨f103, f104, f105, f106, hL⟩ := hJ
    refine CW.seq ?_
    refine CW.regionL ?_
    refine OW.cons (OP.val (v := (.int .i64 s_l1.1)) rfl (x_mv f105) ?_)
    refine OW.cons (OP.val (v := (.int .i64 s_l1.1)) rfl (x_assign) ?_)
    refine OW.nil ?_
    refine CW.ret ?_
    obtain rfl := Option.some.inj hm
    exact RR1 rfl rfl ⟨rfl, hL.fresh 0 rfl [] (by decide) (by decide) rfl⟩
  · intro s_l1 F107 w108 t97 hJ hm hr98
    unfold M.spec_l27Count_l1 at hm
    obtain ⟨f109, f110, f111, f112, hL⟩ := hJ
    refine CW.seq ?_
    refine CW.seq ?_
    refine CW.regionL ?_
    refine OW.cons (OP.val (v := (.int .i64 s_l1.2)) rfl (x_mv f112) ?_)
    refine OW.cons (OP.val (v := v1) rfl (x_mv f109) ?_)
    refine OW.cons (OP.val (v := (.int .i64 (a0.length : Int))) rfl (x_lenR Try.underlying28 rfl (hL.rdS 0 rfl h2)) ?_)
    refine OW.cons (OP.val (v := (.bool (decide (s_l1.2 < (a0.length : Int))))) rfl (x_lss rfl rfl) ?_)
    refine OW.nil ?_
    refine CW.condM (t := decide (s_l1.2 < (a0.length : Int))) rfl hm (fun hb113 hm => ?_) (fun hb113 hm => ?_)
    · refine CW.skip ?_
      refine CW.seqJ (fun (s_j1 : Int) (F : Fr) (w : World) => F 0 = v1 ∧ F 1 = (.int .i64 a1) ∧ F 5 = (.int .i64 s_j1) ∧ F 6 = (.int .i64 s_l1.2) ∧ Hp w0 [Ent.snap w0 w0.heap.size] w) (fun s_j1 => M.spec_l27Count_j1 s_l1 s_j1 = some t97) ?_ ?_
      · refine CW.blockJ (fun (s_j2 : Int) (F : Fr) (w : World) => F 0 = v1 ∧ F 1 = (.int .i64 a1) ∧ F 5 = (.int .i64 s_j2) ∧ F 6 = (.int .i64 s_l1.2) ∧ Hp w0 [Ent.snap w0 w0.heap.size] w) (fun s_j2 => M.spec_l27Count_j2 s_l1 s_j2 = some t97) ?_ ?_
        · refine CW.seq ?_
          refine CW.regionL ?_
          refine OW.cons (OP.val (v := v1) rfl (x_mv f109) ?_)
          refine OW.cons (OP.val (v := (.int .i64 s_l1.2)) rfl (x_mv f112) ?_)
          obtain ⟨x153, ha154, hm⟩ := bndE hm
          obtain ⟨h0155, ha154⟩ := idxE ha154
          obtain ⟨b156, q157, hix158⟩ := rdL_ix (hL.rdS 0 rfl h2) h0155 ha154
          refine OW.cons (OP.val (v := (.pointer (some ⟨b156, q157, none⟩))) rfl (x_ix Try.underlying28 Try_T2 rfl rfl hix158) ?_)
          refine OW.cons (OP.val (v := (.int .i64 x153)) rfl (x_load1 Try.underlying2 rfl rfl (rdF_cells (hL.rdS 0 rfl h2) hix158 ha154 0 _ rfl)) ?_)
          refine OW.cons (OP.val (v := (.int .i64 a1)) rfl (x_mv f110) ?_)
          refine OW.cons (OP.val (v := (.bool (decide (x153 ≤ a1)))) rfl (x_leq rfl rfl) ?_)
          refine OW.nil ?_
          refine CW.condM (t := decide (x153 ≤ a1)) rfl hm (fun hb159 hm => ?_) (fun hb159 hm => ?_)
          · refine CW.regionL ?_
            refine OW.cons (OP.val (v := (.int .i64 s_l1.1)) rfl (x_mv f111) ?_)
            refine OW.cons (OP.val (v := (.int .i64 (w64 (s_l1.1 + 1)))) rfl (x_add rfl rfl) ?_)
            refine OW.cons (OP.val (v := (.int .i64 (w64 (s_l1.1 + 1)))) rfl (x_assign) ?_)
            refine OW.nil ?_
            exact ⟨w64 (s_l1.1 + 1), hm, ⟨f109, f110, rfl, f112, hL⟩⟩
          · refine CW.skip ?_
            exact ⟨s_l1.1, hm, ⟨f109, f110, f111, f112, hL⟩⟩
        · intro s_j2 F147 w148 hJ hm
          unfold M.spec_l27Count_j2 at hm
          obtain ⟨f149, f150, f151, f152, hL⟩ := hJ
          exact ⟨s_j2, hm, ⟨f149, f150, f151, f152, hL⟩⟩
      · intro s_j1 F134 w135 hJ hm
        unfold M.spec_l27Count_j1 at hm
        obtain ⟨f136, f137, f138, f139, hL⟩ := hJ
        refine CW.regionL ?_
        refine OW.cons (OP.val (v := (.int .i64 s_l1.2)) rfl (x_mv f139) ?_)
        refine OW.cons (OP.val (v := (.int .i64 (w64 (s_l1.2 + 1)))) rfl (x_add rfl rfl) ?_)
        refine OW.cons (OP.val (v := (.int .i64 (w64 (s_l1.2 + 1)))) rfl (x_assign) ?_)
        refine OW.nil ?_
        obtain rfl := Option.some.inj hm
        exact ⟨_, rfl, ⟨f136, f137, f138, rfl, hL⟩⟩
    · refine CW.exit ?_
      refine XJ.hit ?_
      obtain rfl := Option.some.inj hm
      exact ⟨_, rfl, ⟨f109, f110, f111, f112, hL⟩⟩

theorem M.spec_DiscardCount_ok (w0 : World) (a0 : List Int) {v1 : Value} (h2 : rdL (· < w0.heap.size) w0 v1 a0) (a1 : Int) {r : Int} (hm : M.spec_DiscardCount a0 a1 = some r) :
    Calls Try.prog 16 #[v1, (.int .i64 a1)] w0 fun e w' => e = .returned (.int .i64 r) ∧ Fresh w0 w' [] := by
  unfold M.spec_DiscardCount at hm
  refine calls_CW (args := [v1, (.int .i64 a1)]) Try.func16 rfl rfl rfl ?_
  have hL := Hp.start w0
  refine CW.seq ?_
  refine CW.regionL ?_
  refine OW.cons (OP.val (v := (.int .i64 0)) rfl (x_assign) ?_)
  refine OW.nil ?_
  refine CW.seq ?_
  refine CW.seqJ (fun (s_j1 : Bool) (F : Fr) (w : World) => F 0 = v1 ∧ F 1 = (.int .i64 a1) ∧ F 12 = (.bool s_j1) ∧ Hp w0 [Ent.snap w0 w0.heap.size] w) (fun s_j1 => M.spec_DiscardCount_j1 a0 a1 s_j1 = some r) ?_ ?_
  · refine CW.regionL ?_
    refine OW.cons (OP.val (v := v1) rfl (x_move) ?_)
    obtain ⟨x25, hx26, hm⟩ := bndE hm
    refine OW.cons (OP.call rfl (x_call (vs := [v1]) Try_C10 ⟨rfl, trivial⟩) (M.spec_IsDiscardRule_ok _ a0 (hL.rdS 0 rfl h2) hx26) ?_)
    rintro e27 w28 ⟨rfl, hF29⟩
    refine ⟨_, rfl, ?_⟩
    have hL := hL.pushAll hF29
    simp only [List.nil_append] at hL
    refine OW.cons (OP.val (v := (.bool (!x25))) rfl (x_not rfl) ?_)
    refine OW.cons (OP.val (v := (.bool (!x25))) rfl (x_move) ?_)
    refine ifB_elim hm (fun hb30 hm => ?_) (fun hb30 hm => ?_)
    · refine OW.cons (OP.no' rfl rfl hb30 rfl ?_)
      refine OW.cons (OP.no' rfl rfl hb30 rfl ?_)
      refine OW.cons (OP.no' rfl rfl hb30 rfl ?_)
      refine OW.cons (OP.val (v := (.bool true)) rfl (x_pickT' rfl hb30 rfl) ?_)
      refine OW.nil ?_
      exact ⟨true, hm, ⟨rfl, rfl, rfl, hL⟩⟩
    · refine OW.cons (OP.yes' rfl rfl hb30 (OP.val (v := (.int .i64 a1)) rfl (x_move) ?_))
      obtain ⟨x31, hx32, hm⟩ := bndE hm
      refine OW.cons (OP.yes' rfl rfl hb30 (OP.call rfl (x_call (vs := [(.int .i64 a1), (.int .i64 0), (.int .i64 12)]) Try_C18 ⟨rfl, rfl, rfl, trivial⟩) (M.spec_l01In_ok _ a1 0 12 hx32) ?_))
      rintro e33 w34 ⟨rfl, hF35⟩
      refine ⟨_, rfl, ?_⟩
      have hL := hL.pushAll hF35
      simp only [List.nil_append] at hL
      refine OW.cons (OP.yes' rfl rfl hb30 (OP.val (v := (.bool (!x31))) rfl (x_not rfl) ?_))
      refine OW.cons (OP.val (v := (.bool (!x31))) rfl (x_pickF' rfl hb30 rfl) ?_)
      refine OW.nil ?_
      exact ⟨!x31, hm, ⟨rfl, rfl, rfl, hL⟩⟩
  · intro s_j1 F14 w15 hJ hm
    unfold M.spec_DiscardCount_j1 at hm
    obtain ⟨f16, f17, f18, hL⟩ := hJ
    refine CW.condM (t := s_j1) f18 hm (fun hb19 hm => ?_) (fun hb19 hm => ?_)
    · refine CW.seq ?_
      refine CW.regionL ?_
      refine OW.cons (OP.val (v := (.int .i64 (-1))) rfl (x_assign) ?_)
      refine OW.nil ?_
      refine CW.ret ?_
      obtain rfl := Option.some.inj hm
      exact RR1 rfl rfl ⟨rfl, hL.fresh 0 rfl [] (by decide) (by decide) rfl⟩
    · refine CW.skip ?_
      refine CW.seq ?_
      refine CW.regionL ?_
      refine OW.cons (OP.val (v := v1) rfl (x_mv f16) ?_)
      refine OW.cons (OP.val (v := (.int .i64 a1)) rfl (x_mv f17) ?_)
      obtain ⟨x20, hx21, hm⟩ := bndE hm
      refine OW.cons (OP.call rfl (x_call (vs := [v1, (.int .i64 a1)]) Try_C24 ⟨rfl, rfl, trivial⟩) (M.spec_l27Count_ok _ a0 (hL.rdS 0 rfl h2) a1 hx21) ?_)
      rintro e22 w23 ⟨rfl, hF24⟩
      refine ⟨_, rfl, ?_⟩
      have hL := hL.pushAll hF24
      simp only [List.nil_append] at hL
      refine OW.cons (OP.val (v := (.int .i64 x20)) rfl (x_assign) ?_)
      refine OW.nil ?_
      refine CW.ret ?_
      obtain rfl := Option.some.inj hm
      exact RR1 rfl rfl ⟨rfl, hL.fresh 0 rfl [] (by decide) (by decide) rfl⟩

theorem M.impl_discardCount_ok (w0 : World) (a0 : List Int) {v1 : Value} (h2 : rdL (· < w0.heap.size) w0 v1 a0) (a1 : Int) {r : Int} (hm : M.impl_discardCount a0 a1 = some r) :
    Calls Try.prog 25 #[v1, (.int .i64 a1)] w0 fun e w' => e = .returned (.int .i64 r) ∧ Fresh w0 w' [] := by
  unfold M.impl_discardCount at hm
  refine calls_CW (args := [v1, (.int .i64 a1)]) Try.func25 rfl rfl rfl ?_
  have hL := Hp.start w0
  refine CW.seq ?_
  refine CW.regionL ?_
  refine OW.cons (OP.val (v := (.int .i64 0)) rfl (x_assign) ?_)
  refine OW.nil ?_
  refine CW.seq ?_
  refine CW.regionL ?_
  refine OW.cons (OP.val (v := (.int .i64 0)) rfl (x_assign) ?_)
  refine OW.nil ?_
  refine CW.seq ?_
  refine CW.seq ?_
  refine CW.regionL ?_
  refine OW.cons (OP.val (v := v1) rfl (x_move) ?_)
  refine OW.cons (OP.val (v := (.int .i64 (a0.length : Int))) rfl (x_lenR Try.underlying28 rfl (hL.rdS 0 rfl h2)) ?_)
  refine OW.cons (OP.val (v := (.int .i64 0)) rfl (x_move) ?_)
  refine OW.nil ?_
  obtain ⟨o105, ho106, hm⟩ := bndE hm
  refine CW.loopB (fun (s_l1 : Int × Int) (F : Fr) (w : World) => F 1 = (.int .i64 a1) ∧ F 5 = (.int .i64 s_l1.1) ∧ F 8 = v1 ∧ F 9 = (.int .i64 (a0.length : Int)) ∧ F 10 = (.int .i64 s_l1.2) ∧ Hp w0 [Ent.snap w0 w0.heap.size] w) (fun o => outc o (fun x => some x) (fun s => M.impl_discardCount_a1 s) = some r) ho106 hm ⟨rfl, rfl, rfl, rfl, rfl, hL⟩ ?_ ?_
  · intro s_l1 F107 w108 hJ hm
    have hm : M.impl_discardCount_a1 s_l1 = some r := hm
    unfold M.impl_discardCount_a1 at hm
    obtain ⟨f109, f110, f111, f112, f113, hL⟩ := hJ
    refine CW.seq ?_
    refine CW.regionL ?_
    refine OW.cons (OP.val (v := (.int .i64 s_l1.1)) rfl (x_mv f110) ?_)
    refine OW.cons (OP.val (v := (.int .i64 s_l1.1)) rfl (x_assign) ?_)
    refine OW.nil ?_
    refine CW.ret ?_
    obtain rfl := Option.some.inj hm
    exact RR1 rfl rfl ⟨rfl, hL.fresh 0 rfl [] (by decide) (by decide) rfl⟩
  · intro s_l1 F114 w115 t103 hJ hm hr104
    unfold M.impl_discardCount_l1 at hm
    obtain ⟨f116, f117, f118, f119, f120, hL⟩ := hJ
    refine CW.seq ?_
    refine CW.regionL ?_
    refine OW.cons (OP.val (v := (.bool (decide (s_l1.2 < (a0.length : Int))))) rfl (x_lss f120 f119) ?_)
    refine OW.nil ?_
    refine CW.seq ?_
    refine CW.condM (t := decide (s_l1.2 < (a0.length : Int))) rfl hm (fun hb121 hm => ?_) (fun hb121 hm => ?_)
    · refine CW.skip ?_
      refine CW.seqJ (fun (s_j1 : Int) (F : Fr) (w : World) => F 1 = (.int .i64 a1) ∧ F 5 = (.int .i64 s_j1) ∧ F 8 = v1 ∧ F 9 = (.int .i64 (a0.length : Int)) ∧ F 10 = (.int .i64 s_l1.2) ∧ Hp w0 [Ent.snap w0 w0.heap.size] w) (fun s_j1 => M.impl_discardCount_j1 s_l1 s_j1 = some t103) ?_ ?_
      · refine CW.blockJ (fun (s_j2 : Int) (F : Fr) (w : World) => F 1 = (.int .i64 a1) ∧ F 5 = (.int .i64 s_j2) ∧ F 8 = v1 ∧ F 9 = (.int .i64 (a0.length : Int)) ∧ F 10 = (.int .i64 s_l1.2) ∧ Hp w0 [Ent.snap w0 w0.heap.size] w) (fun s_j2 => M.impl_discardCount_j2 s_l1 s_j2 = some t103) ?_ ?_
        · refine CW.seq ?_
          refine CW.regionL ?_
          obtain ⟨x164, ha165, hm⟩ := bndE hm
          obtain ⟨h0166, ha165⟩ := idxE ha165
          obtain ⟨b167, q168, hix169⟩ := rdL_ix (hL.rdS 0 rfl h2) h0166 ha165
          refine OW.cons (OP.val (v := (.pointer (some ⟨b167, q168, none⟩))) rfl (x_ix Try.underlying28 Try_T2 f118 f120 hix169) ?_)
          refine OW.cons (OP.val (v := (.int .i64 x164)) rfl (x_load1 Try.underlying2 rfl rfl (rdF_cells (hL.rdS 0 rfl h2) hix169 ha165 0 _ rfl)) ?_)
          refine OW.cons (OP.val (v := (.int .i64 x164)) rfl (x_assign) ?_)
          refine OW.nil ?_
          refine CW.seq ?_
          refine CW.regionL ?_
          refine OW.cons (OP.val (v := (.int .i64 x164)) rfl (x_move) ?_)
          refine OW.cons (OP.val (v := (.int .i64 a1)) rfl (x_mv f116) ?_)
          refine OW.cons (OP.val (v := (.bool (decide (x164 ≤ a1)))) rfl (x_leq rfl rfl) ?_)
          refine OW.nil ?_
          refine CW.condM (t := decide (x164 ≤ a1)) rfl hm (fun hb170 hm => ?_) (fun hb170 hm => ?_)
          · refine CW.regionL ?_
            refine OW.cons (OP.val (v := (.int .i64 s_l1.1)) rfl (x_mv f117) ?_)
            refine OW.cons (OP.val (v := (.int .i64 (w64 (s_l1.1 + 1)))) rfl (x_add rfl rfl) ?_)
            refine OW.cons (OP.val (v := (.int .i64 (w64 (s_l1.1 + 1)))) rfl (x_assign) ?_)
            refine OW.nil ?_
            exact ⟨w64 (s_l1.1 + 1), hm, ⟨f116, rfl, f118, f119, f120, hL⟩⟩
          · refine CW.skip ?_
            exact ⟨s_l1.1, hm, ⟨f116, f117, f118, f119, f120, hL⟩⟩
        · intro s_j2 F157 w158 hJ hm
          unfold M.impl_discardCount_j2 at hm
          obtain ⟨f159, f160, f161, f162, f163, hL⟩ := hJ
          exact ⟨s_j2, hm, ⟨f159, f160, f161, f162, f163, hL⟩⟩
      · intro s_j1 F143 w144 hJ hm
        unfold M.impl_discardCount_j1 at hm
        obtain ⟨f145, f146, f147, f148, f149, hL⟩ := hJ
        refine CW.regionL ?_
        refine OW.cons (OP.val (v := (.int .i64 (w64 (s_l1.2 + 1)))) rfl (x_add f149 rfl) ?_)
        refine OW.cons (OP.val (v := (.int .i64 (w64 (s_l1.2 + 1)))) rfl (x_move) ?_)
        refine OW.nil ?_
        obtain rfl := Option.some.inj hm
        exact ⟨_, rfl, ⟨f145, f146, f147, f148, rfl, hL⟩⟩
    · refine CW.exit ?_
      refine XJ.hit ?_
      obtain rfl := Option.some.inj hm
      exact ⟨_, rfl, ⟨f116, f117, f118, f119, f120, hL⟩⟩

theorem M.impl_DiscardCount_ok (w0 : World) (a0 : List Int) {v1 : Value} (h2 : rdL (· < w0.heap.size) w0 v1 a0) (a1 : Int) {r : Int} (hm : M.impl_DiscardCount a0 a1 = some r) :
    Calls Try.prog 17 #[v1, (.int .i64 a1)] w0 fun e w' => e = .returned (.int .i64 r) ∧ Fresh w0 w' [] := by
  unfold M.impl_DiscardCount at hm
  refine calls_CW (args := [v1, (.int .i64 a1)]) Try.func17 rfl rfl rfl ?_
  have hL := Hp.start w0
  refine CW.seq ?_
  refine CW.regionL ?_
  refine OW.cons (OP.val (v := (.int .i64 0)) rfl (x_assign) ?_)
  refine OW.nil ?_
  refine CW.seq ?_
  refine CW.seqJ (fun (s_j1 : Bool) (F : Fr) (w : World) => F 0 = v1 ∧ F 1 = (.int .i64 a1) ∧ F 12 = (.bool s_j1) ∧ Hp w0 [Ent.snap w0 w0.heap.size] w) (fun s_j1 => M.impl_DiscardCount_j1 a0 a1 s_j1 = some r) ?_ ?_
  · refine CW.regionL ?_
    refine OW.cons (OP.val (v := v1) rfl (x_move) ?_)
    obtain ⟨x25, hx26, hm⟩ := bndE hm
    refine OW.cons (OP.call rfl (x_call (vs := [v1]) Try_C12 ⟨rfl, trivial⟩) (M.impl_IsDiscardRule_ok _ a0 (hL.rdS 0 rfl h2) hx26) ?_)
    rintro e27 w28 ⟨rfl, hF29⟩
    refine ⟨_, rfl, ?_⟩
    have hL := hL.pushAll hF29
    simp only [List.nil_append] at hL
    refine OW.cons (OP.val (v := (.bool (!x25))) rfl (x_not rfl) ?_)
    refine OW.cons (OP.val (v := (.bool (!x25))) rfl (x_move) ?_)
    refine ifB_elim hm (fun hb30 hm => ?_) (fun hb30 hm => ?_)
    · refine OW.cons (OP.no' rfl rfl hb30 rfl ?_)
      refine OW.cons (OP.no' rfl rfl hb30 rfl ?_)
      refine OW.cons (OP.no' rfl rfl hb30 rfl ?_)
      refine OW.cons (OP.val (v := (.bool true)) rfl (x_pickT' rfl hb30 rfl) ?_)
      refine OW.nil ?_
      exact ⟨true, hm, ⟨rfl, rfl, rfl, hL⟩⟩
    · refine OW.cons (OP.yes' rfl rfl hb30 (OP.val (v := (.int .i64 a1)) rfl (x_move) ?_))
      obtain ⟨x31, hx32, hm⟩ := bndE hm
      refine OW.cons (OP.yes' rfl rfl hb30 (OP.call rfl (x_call (vs := [(.int .i64 a1), (.int .i64 0), (.int .i64 12)]) Try_C20 ⟨rfl, rfl, rfl, trivial⟩) (M.impl_within_ok _ a1 0 12 hx32) ?_))
      rintro e33 w34 ⟨rfl, hF35⟩
      refine ⟨_, rfl, ?_⟩
      have hL := hL.pushAll hF35
      simp only [List.nil_append] at hL
      refine OW.cons (OP.yes' rfl rfl hb30 (OP.val (v := (.bool (!x31))) rfl (x_not rfl) ?_))
      refine OW.cons (OP.val (v := (.bool (!x31))) rfl (x_pickF' rfl hb30 rfl) ?_)
      refine OW.nil ?_
      exact ⟨!x31, hm, ⟨rfl, rfl, rfl, hL⟩⟩
  · intro s_j1 F14 w15 hJ hm
    unfold M.impl_DiscardCount_j1 at hm
    obtain ⟨f16, f17, f18, hL⟩ := hJ
    refine CW.condM (t := s_j1) f18 hm (fun hb19 hm => ?_) (fun hb19 hm => ?_)
    · refine CW.seq ?_
      refine CW.regionL ?_
      refine OW.cons (OP.val (v := (.int .i64 (-1))) rfl (x_assign) ?_)
      refine OW.nil ?_
      refine CW.ret ?_
      obtain rfl := Option.some.inj hm
      exact RR1 rfl rfl ⟨rfl, hL.fresh 0 rfl [] (by decide) (by decide) rfl⟩
    · refine CW.skip ?_
      refine CW.seq ?_
      refine CW.regionL ?_
      refine OW.cons (OP.val (v := v1) rfl (x_mv f16) ?_)
      refine OW.cons (OP.val (v := (.int .i64 a1)) rfl (x_mv f17) ?_)
      obtain ⟨x20, hx21, hm⟩ := bndE hm
      refine OW.cons (OP.call rfl (x_call (vs := [v1, (.int .i64 a1)]) Try_C25 ⟨rfl, rfl, trivial⟩) (M.impl_discardCount_ok _ a0 (hL.rdS 0 rfl h2) a1 hx21) ?_)
      rintro e22 w23 ⟨rfl, hF24⟩
      refine ⟨_, rfl, ?_⟩
      have hL := hL.pushAll hF24
      simp only [List.nil_append] at hL
      refine OW.cons (OP.val (v := (.int .i64 x20)) rfl (x_assign) ?_)
      refine OW.nil ?_
      refine CW.ret ?_
      obtain rfl := Option.some.inj hm
      exact RR1 rfl rfl ⟨rfl, hL.fresh 0 rfl [] (by decide) (by decide) rfl⟩

theorem M.laws_FnExactDiscardCount_ok (w0 : World) (a0 : List Int) {v1 : Value} (h2 : rdL (· < w0.heap.size) w0 v1 a0) (a1 : Int) {r : Bool} (hm : M.laws_FnExactDiscardCount a0 a1 = some r) :
    Calls Try.prog 6 #[v1, (.int .i64 a1)] w0 fun e w' => e = .returned (.bool r) ∧ Fresh w0 w' [] := by
  unfold M.laws_FnExactDiscardCount at hm
  refine calls_CW (args := [v1, (.int .i64 a1)]) Try.func6 rfl rfl rfl ?_
  have hL := Hp.start w0
  refine CW.seq ?_
  refine CW.regionL ?_
  refine OW.cons (OP.val (v := (.bool false)) rfl (x_assign) ?_)
  refine OW.nil ?_
  refine CW.seq ?_
  refine CW.seq ?_
  refine CW.regionL ?_
  refine OW.cons (OP.val (v := v1) rfl (x_move) ?_)
  refine OW.cons (OP.val (v := (.int .i64 (a0.length : Int))) rfl (x_lenR Try.underlying28 rfl (hL.rdS 0 rfl h2)) ?_)
  refine OW.cons (OP.val (v := (.bool (decide (1048576 < (a0.length : Int))))) rfl (x_gtr rfl rfl) ?_)
  refine OW.nil ?_
  refine CW.condM (t := decide (1048576 < (a0.length : Int))) rfl hm (fun hb3 hm => ?_) (fun hb3 hm => ?_)
  · refine CW.seq ?_
    refine CW.regionL ?_
    refine OW.cons (OP.val (v := (.bool true)) rfl (x_assign) ?_)
    refine OW.nil ?_
    refine CW.ret ?_
    obtain rfl := Option.some.inj hm
    exact RR1 rfl rfl ⟨rfl, hL.fresh 0 rfl [] (by decide) (by decide) rfl⟩
  · refine CW.skip ?_
    refine CW.seq ?_
    refine CW.regionL ?_
    refine OW.cons (OP.val (v := v1) rfl (x_move) ?_)
    obtain ⟨x4, hx5, hm⟩ := bndE hm
    refine OW.cons (OP.call rfl (x_call (vs := [v1]) Try_C11 ⟨rfl, trivial⟩) (M.laws_toInt64S_ok _ a0 (hL.rdS 0 rfl h2) hx5) ?_)
    rintro e8 w9 ⟨v7, S6, rfl, hF10⟩
    refine ⟨_, rfl, ?_⟩
    have hL := hL.pushAll hF10
    simp only [List.cons_append, List.nil_append] at hL
    refine OW.cons (OP.val (v := (.int .i64 a1)) rfl (x_move) ?_)
    obtain ⟨x11, hx12, hm⟩ := bndE hm
    refine OW.cons (OP.call rfl (x_call (vs := [v7, (.int .i64 a1)]) Try_C16 ⟨rfl, rfl, trivial⟩) (M.spec_DiscardCount_ok _ x4 (hL.rdO 0 rfl) a1 hx12) ?_)
    rintro e13 w14 ⟨rfl, hF15⟩
    refine ⟨_, rfl, ?_⟩
    have hL := hL.pushAll hF15
    simp only [List.nil_append] at hL
    refine OW.cons (OP.val (v := (.int .i64 x11)) rfl (x_assign) ?_)
    refine OW.nil ?_
    refine CW.seq ?_
    refine CW.regionL ?_
    refine OW.cons (OP.val (v := v1) rfl (x_move) ?_)
    obtain ⟨x16, hx17, hm⟩ := bndE hm
    refine OW.cons (OP.call rfl (x_call (vs := [v1]) Try_C11 ⟨rfl, trivial⟩) (M.laws_toInt64S_ok _ a0 (hL.rdS 1 rfl h2) hx17) ?_)
    rintro e20 w21 ⟨v19, S18, rfl, hF22⟩
    refine ⟨_, rfl, ?_⟩
    have hL := hL.pushAll hF22
    simp only [List.cons_append, List.nil_append] at hL
    refine OW.cons (OP.val (v := v19) rfl (x_assign) ?_)
    refine OW.nil ?_
    refine CW.seq ?_
    refine CW.regionL ?_
    refine OW.cons (OP.val (v := v19) rfl (x_move) ?_)
    refine OW.cons (OP.val (v := (.int .i64 a1)) rfl (x_move) ?_)
    obtain ⟨x23, hx24, hm⟩ := bndE hm
    refine OW.cons (OP.call rfl (x_call (vs := [v19, (.int .i64 a1)]) Try_C17 ⟨rfl, rfl, trivial⟩) (M.impl_DiscardCount_ok _ x16 (hL.rdO 0 rfl) a1 hx24) ?_)
    rintro e25 w26 ⟨rfl, hF27⟩
    refine ⟨_, rfl, ?_⟩
    have hL := hL.pushAll hF27
    simp only [List.nil_append] at hL
    refine OW.cons (OP.val (v := (.int .i64 x23)) rfl (x_assign) ?_)
    refine OW.nil ?_
    refine CW.seq ?_
    refine CW.seq ?_
    refine CW.regionL ?_
    refine OW.cons (OP.val (v := (.int .i64 x23)) rfl (x_move) ?_)
    refine OW.cons (OP.val (v := (.int .i64 x11)) rfl (x_move) ?_)
    refine OW.cons (OP.val (v := (.bool (x23 != x11))) rfl (x_neq rfl rfl) ?_)
    refine OW.nil ?_
    refine CW.condM (t := x23 != x11) rfl hm (fun hb28 hm => ?_) (fun hb28 hm => ?_)
    · refine CW.seq ?_
      refine CW.regionL ?_
      refine OW.cons (OP.val (v := (.bool false)) rfl (x_assign) ?_)
      refine OW.nil ?_
      refine CW.ret ?_
      obtain rfl := Option.some.inj hm
      exact RR1 rfl rfl ⟨rfl, hL.fresh 2 rfl [] (by decide) (by decide) rfl⟩
    · refine CW.skip ?_
      refine CW.seq ?_
      refine CW.seq ?_
      refine CW.regionL ?_
      refine OW.cons (OP.val (v := v19) rfl (x_move) ?_)
      refine OW.cons (OP.val (v := v1) rfl (x_move) ?_)
      obtain ⟨x29, hx30, hm⟩ := bndE hm
      refine OW.cons (OP.call rfl (x_call (vs := [v1]) Try_C11 ⟨rfl, trivial⟩) (M.laws_toInt64S_ok _ a0 (hL.rdS 2 rfl h2) hx30) ?_)
      rintro e33 w34 ⟨v32, S31, rfl, hF35⟩
      refine ⟨_, rfl, ?_⟩
      have hL := hL.pushAll hF35
      simp only [List.cons_append, List.nil_append] at hL
      obtain ⟨x36, hx37, hm⟩ := bndE hm
      refine OW.cons (OP.call rfl (x_call (vs := [v19, v32]) Try_C13 ⟨rfl, rfl, trivial⟩) (M.laws_eqInt64S_ok _ x16 (hL.rdO 1 rfl) x29 (hL.rdO 0 rfl) hx37) ?_)
      rintro e38 w39 ⟨rfl, hF40⟩
      refine ⟨_, rfl, ?_⟩
      have hL := hL.pushAll hF40
      simp only [List.nil_append] at hL
      refine OW.cons (OP.val (v := (.bool (!x36))) rfl (x_not rfl) ?_)
      refine OW.nil ?_
      refine CW.condM (t := !x36) rfl hm (fun hb41 hm => ?_) (fun hb41 hm => ?_)
      · refine CW.seq ?_
        refine CW.regionL ?_
        refine OW.cons (OP.val (v := (.bool false)) rfl (x_assign) ?_)
        refine OW.nil ?_
        refine CW.ret ?_
        obtain rfl := Option.some.inj hm
        exact RR1 rfl rfl ⟨rfl, hL.fresh 3 rfl [] (by decide) (by decide) rfl⟩
      · refine CW.skip ?_
        refine CW.seq ?_
        refine CW.regionL ?_
        refine OW.cons (OP.val (v := (.bool true)) rfl (x_assign) ?_)
        refine OW.nil ?_
        refine CW.ret ?_
        obtain rfl := Option.some.inj hm
        exact RR1 rfl rfl ⟨rfl, hL.fresh 3 rfl [] (by decide) (by decide) rfl⟩

end Go.Proofs.Yteajalndaehpcaa
