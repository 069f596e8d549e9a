/- Links: each Go function returns what its model computes and leaves what was there. Printed by my generator. -/
import Derived.Test.YtiacilijcnbblaaMod
import Derived.Test.YtiacilijcnbblaaProg
import Derived.KernelRfl
namespace Go.Proofs.Ytiacilijcnbblaa
set_option maxRecDepth 10000
open Go Go.RowKit Go.ChangeShapes Go.WideShapes
set_option linter.unusedVariables false
set_option linter.unusedSimpArgs false

theorem Try_mixed : Try.prog.follows .mixedOrders = true := by kernel_rfl
theorem Try_T2 : TyI Try.prog 2 1 8 (.int .i64 0) := by unfold TyI; kernel_rfl
theorem Try_T3 : TyI Try.prog 3 1 8 (.int .i64 0) := by unfold TyI; kernel_rfl
theorem Try_T5 : TyI Try.prog 5 1 1 (.int .u8 0) := by unfold TyI; kernel_rfl
theorem Try_T22 : TyI Try.prog 22 1 24 (.slice none 0 0) := by unfold TyI; kernel_rfl
theorem Try_T25 : TyI Try.prog 25 4 32 (.agg #[.int .i64 0, .int .i64 0, .int .i64 0, .int .i64 0]) := by unfold TyI; kernel_rfl
theorem Try_T31 : TyI Try.prog 31 4 32 (.agg #[.int .i64 0, .int .i64 0, .int .i64 0, .int .i64 0]) := by unfold TyI; kernel_rfl
theorem Try_T52 : TyI Try.prog 52 3 24 (.agg #[.int .i64 0, .int .i64 0, .int .i64 0]) := by unfold TyI; kernel_rfl
theorem Try_T67 : TyI Try.prog 67 2 16 (.agg #[.int .i64 0, .int .i64 0]) := by unfold TyI; kernel_rfl
theorem Try_T90 : TyI Try.prog 90 2 16 (.agg #[.int .i64 0, .int .i64 0]) := by unfold TyI; kernel_rfl
theorem Try_T98 : TyI Try.prog 98 3 24 (.agg #[.int .i64 0, .int .i64 0, .int .i64 0]) := by unfold TyI; kernel_rfl
theorem Try_B25 : BuildI Try.prog 25 [(0, 1), (1, 1), (2, 1), (3, 1)] #[.int .i64 0, .int .i64 0, .int .i64 0, .int .i64 0] := by unfold BuildI; kernel_rfl
theorem Try_B52 : BuildI Try.prog 52 [(0, 1), (1, 1), (2, 1)] #[.int .i64 0, .int .i64 0, .int .i64 0] := by unfold BuildI; kernel_rfl
theorem Try_B67 : BuildI Try.prog 67 [(0, 1), (1, 1)] #[.int .i64 0, .int .i64 0] := by unfold BuildI; kernel_rfl
theorem Try_B112 : BuildI Try.prog 112 [(0, 1), (1, 1), (2, 1)] #[.slice none 0 0, .int .i64 0, .int .i64 0] := by unfold BuildI; kernel_rfl
theorem Try_C13 : CallOK Try.prog 13 := ⟨_, _, Try.func13, rfl, by kernel_rfl⟩
theorem Try_C17 : CallOK Try.prog 17 := ⟨_, _, Try.func17, rfl, by kernel_rfl⟩
theorem Try_C18 : CallOK Try.prog 18 := ⟨_, _, Try.func18, rfl, by kernel_rfl⟩
theorem Try_C19 : CallOK Try.prog 19 := ⟨_, _, Try.func19, rfl, by kernel_rfl⟩
theorem Try_C20 : CallOK Try.prog 20 := ⟨_, _, Try.func20, rfl, by kernel_rfl⟩
theorem Try_C21 : CallOK Try.prog 21 := ⟨_, _, Try.func21, rfl, by kernel_rfl⟩
theorem Try_C22 : CallOK Try.prog 22 := ⟨_, _, Try.func22, rfl, by kernel_rfl⟩
theorem Try_C23 : CallOK Try.prog 23 := ⟨_, _, Try.func23, rfl, by kernel_rfl⟩
theorem Try_C24 : CallOK Try.prog 24 := ⟨_, _, Try.func24, rfl, by kernel_rfl⟩
theorem Try_C25 : CallOK Try.prog 25 := ⟨_, _, Try.func25, rfl, by kernel_rfl⟩
theorem Try_C26 : CallOK Try.prog 26 := ⟨_, _, Try.func26, rfl, by kernel_rfl⟩
theorem Try_C27 : CallOK Try.prog 27 := ⟨_, _, Try.func27, rfl, by kernel_rfl⟩
theorem Try_C28 : CallOK Try.prog 28 := ⟨_, _, Try.func28, rfl, by kernel_rfl⟩
theorem Try_C32 : CallOK Try.prog 32 := ⟨_, _, Try.func32, rfl, by kernel_rfl⟩
theorem Try_C33 : CallOK Try.prog 33 := ⟨_, _, Try.func33, rfl, by kernel_rfl⟩
theorem Try_C53 : CallOK Try.prog 53 := ⟨_, _, Try.func53, rfl, by kernel_rfl⟩
theorem Try_C55 : CallOK Try.prog 55 := ⟨_, _, Try.func55, rfl, by kernel_rfl⟩
theorem Try_C56 : CallOK Try.prog 56 := ⟨_, _, Try.func56, rfl, by kernel_rfl⟩
theorem Try_C57 : CallOK Try.prog 57 := ⟨_, _, Try.func57, rfl, by kernel_rfl⟩
theorem Try_C58 : CallOK Try.prog 58 := ⟨_, _, Try.func58, rfl, by kernel_rfl⟩
theorem Try_C59 : CallOK Try.prog 59 := ⟨_, _, Try.func59, rfl, by kernel_rfl⟩
theorem Try_C60 : CallOK Try.prog 60 := ⟨_, _, Try.func60, rfl, by kernel_rfl⟩
theorem Try_C61 : CallOK Try.prog 61 := ⟨_, _, Try.func61, rfl, by kernel_rfl⟩
theorem Try_C62 : CallOK Try.prog 62 := ⟨_, _, Try.func62, rfl, by kernel_rfl⟩
theorem Try_C63 : CallOK Try.prog 63 := ⟨_, _, Try.func63, rfl, by kernel_rfl⟩
theorem Try_C64 : CallOK Try.prog 64 := ⟨_, _, Try.func64, rfl, by kernel_rfl⟩
theorem Try_C65 : CallOK Try.prog 65 := ⟨_, _, Try.func65, rfl, by kernel_rfl⟩
theorem Try_C66 : CallOK Try.prog 66 := ⟨_, _, Try.func66, rfl, by kernel_rfl⟩
theorem Try_C67 : CallOK Try.prog 67 := ⟨_, _, Try.func67, rfl, by kernel_rfl⟩
theorem Try_C69 : CallOK Try.prog 69 := ⟨_, _, Try.func69, rfl, by kernel_rfl⟩
theorem Try_C71 : CallOK Try.prog 71 := ⟨_, _, Try.func71, rfl, by kernel_rfl⟩
theorem Try_C72 : CallOK Try.prog 72 := ⟨_, _, Try.func72, rfl, by kernel_rfl⟩
theorem Try_C73 : CallOK Try.prog 73 := ⟨_, _, Try.func73, rfl, by kernel_rfl⟩
theorem Try_C78 : CallOK Try.prog 78 := ⟨_, _, Try.func78, rfl, by kernel_rfl⟩
theorem Try_C79 : CallOK Try.prog 79 := ⟨_, _, Try.func79, rfl, by kernel_rfl⟩
theorem Try_C80 : CallOK Try.prog 80 := ⟨_, _, Try.func80, rfl, by kernel_rfl⟩
theorem Try_C84 : CallOK Try.prog 84 := ⟨_, _, Try.func84, rfl, by kernel_rfl⟩
theorem Try_C85 : CallOK Try.prog 85 := ⟨_, _, Try.func85, rfl, by kernel_rfl⟩
theorem Try_C86 : CallOK Try.prog 86 := ⟨_, _, Try.func86, rfl, by kernel_rfl⟩
theorem Try_C88 : CallOK Try.prog 88 := ⟨_, _, Try.func88, rfl, by kernel_rfl⟩
theorem Try_C89 : CallOK Try.prog 89 := ⟨_, _, Try.func89, rfl, by kernel_rfl⟩
theorem Try_C91 : CallOK Try.prog 91 := ⟨_, _, Try.func91, rfl, by kernel_rfl⟩
theorem Try_C97 : CallOK Try.prog 97 := ⟨_, _, Try.func97, rfl, by kernel_rfl⟩
theorem Try_C98 : CallOK Try.prog 98 := ⟨_, _, Try.func98, rfl, by kernel_rfl⟩

theorem M.impl_within_ok (w0 : World) (a0 : Int) (a1 : Int) (a2 : Int) {r : Bool} (hm : M.impl_within a0 a1 a2 = some r) :
    Calls Try.prog 61 #[(.int .i64 a0), (.int .i64 a1), (.int .i64 a2)] w0 fun e w' => e = .returned (.bool r) ∧ Fresh w0 w' [] := by
  unfold M.impl_within at hm
  refine calls_CW (args := [(.int .i64 a0), (.int .i64 a1), (.int .i64 a2)]) Try.func61 rfl rfl rfl ?_
  have hL := Hp.start w0
  refine CW.seq ?_
  refine CW.regionL ?_
  refine OW.cons (OP.val (v := (.bool false)) rfl (x_assign) ?_)
  refine OW.nil ?_
  refine CW.seqJ (fun (s_j1 : Bool) (F : Fr) (w : World) => F 6 = (.bool s_j1) ∧ Hp w0 [Ent.snap w0 w0.heap.size] w) (fun s_j1 => M.impl_within_j1 s_j1 = some r) ?_ ?_
  · refine CW.regionL ?_
    refine OW.cons (OP.val (v := (.int .i64 a0)) rfl (x_move) ?_)
    refine OW.cons (OP.val (v := (.int .i64 a1)) rfl (x_move) ?_)
    refine OW.cons (OP.val (v := (.bool (decide (a1 ≤ a0)))) rfl (x_geq rfl rfl) ?_)
    refine OW.cons (OP.val (v := (.bool (decide (a1 ≤ a0)))) rfl (x_move) ?_)
    refine ifB_elim hm (fun hb5 hm => ?_) (fun hb5 hm => ?_)
    · refine OW.cons (OP.yes' rfl rfl hb5 (OP.val (v := (.int .i64 a0)) rfl (x_move) ?_))
      refine OW.cons (OP.yes' rfl rfl hb5 (OP.val (v := (.int .i64 a2)) rfl (x_move) ?_))
      refine OW.cons (OP.yes' rfl rfl hb5 (OP.val (v := (.bool (decide (a0 ≤ a2)))) rfl (x_leq rfl rfl) ?_))
      refine OW.cons (OP.val (v := (.bool (decide (a0 ≤ a2)))) rfl (x_pickT' rfl hb5 rfl) ?_)
      refine OW.cons (OP.val (v := (.bool (decide (a0 ≤ a2)))) rfl (x_assign) ?_)
      refine OW.nil ?_
      exact ⟨decide (a0 ≤ a2), hm, ⟨rfl, hL⟩⟩
    · refine OW.cons (OP.no' rfl rfl hb5 rfl ?_)
      refine OW.cons (OP.no' rfl rfl hb5 rfl ?_)
      refine OW.cons (OP.no' rfl rfl hb5 rfl ?_)
      refine OW.cons (OP.val (v := (.bool false)) rfl (x_pickF' rfl hb5 rfl) ?_)
      refine OW.cons (OP.val (v := (.bool false)) rfl (x_assign) ?_)
      refine OW.nil ?_
      exact ⟨false, hm, ⟨rfl, hL⟩⟩
  · intro s_j1 F2 wd3 hJ hm
    unfold M.impl_within_j1 at hm
    obtain ⟨f4, hL⟩ := hJ
    refine CW.ret ?_
    obtain rfl := Option.some.inj hm
    exact RR1 rfl f4 ⟨rfl, hL.fresh 0 rfl [] (by decide) (by decide) rfl⟩

theorem M.impl_IsProgress_ok (w0 : World) (a0 : ProgressRules) {r : Bool} (hm : M.impl_IsProgress a0 = some r) :
    Calls Try.prog 17 #[(.agg #[(.int .i64 a0.Gain), (.int .i64 a0.Step), (.int .i64 a0.Low), (.int .i64 a0.High)])] w0 fun e w' => e = .returned (.bool r) ∧ Fresh w0 w' [] := by
  unfold M.impl_IsProgress at hm
  refine calls_CW (args := [(.agg #[(.int .i64 a0.Gain), (.int .i64 a0.Step), (.int .i64 a0.Low), (.int .i64 a0.High)])]) Try.func17 rfl rfl rfl ?_
  have hL := Hp.start w0
  refine CW.seq ?_
  refine CW.regionL ?_
  refine OW.cons (S_box (cs := #[(.int .i64 a0.Gain), (.int .i64 a0.Step), (.int .i64 a0.Low), (.int .i64 a0.High)]) hL rfl rfl rfl ?_)
  intro wd1 b2 hL
  refine OW.cons (OP.val (v := (.bool false)) rfl (x_assign) ?_)
  refine OW.nil ?_
  refine CW.seqJ (fun (s_j1 : Bool) (F : Fr) (w : World) => F 2 = (.bool s_j1) ∧ Hp w0 [Ent.blk b2 25 #[(.int .i64 a0.Gain), (.int .i64 a0.Step), (.int .i64 a0.Low), (.int .i64 a0.High)], Ent.snap w0 w0.heap.size] w) (fun s_j1 => M.impl_IsProgress_j1 s_j1 = some r) ?_ ?_
  · refine CW.regionL ?_
    refine OW.cons (OP.val (v := (.pointer (some ⟨b2, 0, none⟩))) rfl (x_fieldAddr (fsz := 1) 0 0 0 Try.underlying25 rfl Try_T2 rfl rfl rfl) ?_)
    refine OW.cons (OP.val (v := (.int .i64 a0.Gain)) rfl (x_load1 Try.underlying2 rfl rfl (hL.cellB 0 rfl rfl)) ?_)
    obtain ⟨x24, hx25, hm⟩ := bndE hm
    refine OW.cons (OP.call rfl (x_call (vs := [(.int .i64 a0.Gain), (.int .i64 0), (.int .i64 1000)]) Try_C61 ⟨rfl, rfl, rfl, trivial⟩) (M.impl_within_ok _ a0.Gain 0 1000 hx25) ?_)
    rintro e26 wd27 ⟨rfl, hF28⟩
    refine ⟨_, rfl, ?_⟩
    have hL := hL.pushAll hF28
    simp only [List.cons_append, List.nil_append, List.set_cons_zero, List.set_cons_succ] at hL
    refine OW.cons (OP.val (v := (.bool x24)) rfl (x_move) ?_)
    refine ifB_elim hm (fun hb29 hm => ?_) (fun hb29 hm => ?_)
    · refine OW.cons (OP.yes' rfl rfl hb29 (OP.val (v := (.pointer (some ⟨b2, 1, none⟩))) rfl (x_fieldAddr (fsz := 1) 0 1 1 Try.underlying25 rfl Try_T2 rfl rfl rfl) ?_))
      refine OW.cons (OP.yes' rfl rfl hb29 (OP.val (v := (.int .i64 a0.Step)) rfl (x_load1 Try.underlying2 rfl rfl (hL.cellB 0 rfl rfl)) ?_))
      obtain ⟨x30, hx31, hm⟩ := bndE hm
      refine OW.cons (OP.yes' rfl rfl hb29 (OP.call rfl (x_call (vs := [(.int .i64 a0.Step), (.int .i64 0), (.int .i64 3000)]) Try_C61 ⟨rfl, rfl, rfl, trivial⟩) (M.impl_within_ok _ a0.Step 0 3000 hx31) ?_))
      rintro e32 wd33 ⟨rfl, hF34⟩
      refine ⟨_, rfl, ?_⟩
      have hL := hL.pushAll hF34
      simp only [List.cons_append, List.nil_append, List.set_cons_zero, List.set_cons_succ] at hL
      refine OW.cons (OP.val (v := (.bool x30)) rfl (x_pickT' rfl hb29 rfl) ?_)
      refine OW.cons (OP.val (v := (.bool x30)) rfl (x_move) ?_)
      refine ifB_elim hm (fun hb35 hm => ?_) (fun hb35 hm => ?_)
      · refine OW.cons (OP.yes' rfl rfl hb35 (OP.val (v := (.pointer (some ⟨b2, 2, none⟩))) rfl (x_fieldAddr (fsz := 1) 0 2 2 Try.underlying25 rfl Try_T2 rfl rfl rfl) ?_))
        refine OW.cons (OP.yes' rfl rfl hb35 (OP.val (v := (.int .i64 a0.Low)) rfl (x_load1 Try.underlying2 rfl rfl (hL.cellB 0 rfl rfl)) ?_))
        refine OW.cons (OP.yes' rfl rfl hb35 (OP.val (v := (.pointer (some ⟨b2, 3, none⟩))) rfl (x_fieldAddr (fsz := 1) 0 3 3 Try.underlying25 rfl Try_T2 rfl rfl rfl) ?_))
        refine OW.cons (OP.yes' rfl rfl hb35 (OP.val (v := (.int .i64 a0.High)) rfl (x_load1 Try.underlying2 rfl rfl (hL.cellB 0 rfl rfl)) ?_))
        obtain ⟨x36, hx37, hm⟩ := bndE hm
        refine OW.cons (OP.yes' rfl rfl hb35 (OP.call rfl (x_call (vs := [(.int .i64 a0.Low), (.int .i64 1), (.int .i64 a0.High)]) Try_C61 ⟨rfl, rfl, rfl, trivial⟩) (M.impl_within_ok _ a0.Low 1 a0.High hx37) ?_))
        rintro e38 wd39 ⟨rfl, hF40⟩
        refine ⟨_, rfl, ?_⟩
        have hL := hL.pushAll hF40
        simp only [List.cons_append, List.nil_append, List.set_cons_zero, List.set_cons_succ] at hL
        refine OW.cons (OP.val (v := (.bool x36)) rfl (x_pickT' rfl hb35 rfl) ?_)
        refine OW.cons (OP.val (v := (.bool x36)) rfl (x_move) ?_)
        refine ifB_elim hm (fun hb41 hm => ?_) (fun hb41 hm => ?_)
        · refine OW.cons (OP.yes' rfl rfl hb41 (OP.val (v := (.pointer (some ⟨b2, 3, none⟩))) rfl (x_fieldAddr (fsz := 1) 0 3 3 Try.underlying25 rfl Try_T2 rfl rfl rfl) ?_))
          refine OW.cons (OP.yes' rfl rfl hb41 (OP.val (v := (.int .i64 a0.High)) rfl (x_load1 Try.underlying2 rfl rfl (hL.cellB 0 rfl rfl)) ?_))
          refine OW.cons (OP.yes' rfl rfl hb41 (OP.val (v := (.bool (decide (a0.High ≤ 3000)))) rfl (x_leq rfl rfl) ?_))
          refine OW.cons (OP.val (v := (.bool (decide (a0.High ≤ 3000)))) rfl (x_pickT' rfl hb41 rfl) ?_)
          refine OW.cons (OP.val (v := (.bool (decide (a0.High ≤ 3000)))) rfl (x_assign) ?_)
          refine OW.nil ?_
          exact ⟨decide (a0.High ≤ 3000), hm, ⟨rfl, hL⟩⟩
        · refine OW.cons (OP.no' rfl rfl hb41 rfl ?_)
          refine OW.cons (OP.no' rfl rfl hb41 rfl ?_)
          refine OW.cons (OP.no' rfl rfl hb41 rfl ?_)
          refine OW.cons (OP.val (v := (.bool false)) rfl (x_pickF' rfl hb41 rfl) ?_)
          refine OW.cons (OP.val (v := (.bool false)) rfl (x_assign) ?_)
          refine OW.nil ?_
          exact ⟨false, hm, ⟨rfl, hL⟩⟩
      · refine OW.cons (OP.no' rfl rfl hb35 rfl ?_)
        refine OW.cons (OP.no' rfl rfl hb35 rfl ?_)
        refine OW.cons (OP.no' rfl rfl hb35 rfl ?_)
        refine OW.cons (OP.no' rfl rfl hb35 rfl ?_)
        refine OW.cons (OP.no' rfl rfl hb35 rfl ?_)
        refine OW.cons (OP.val (v := (.bool false)) rfl (x_pickF' rfl hb35 rfl) ?_)
        refine OW.cons (OP.val (v := (.bool false)) rfl (x_move) ?_)
        refine OW.cons (OP.no' rfl rfl rfl rfl ?_)
        refine OW.cons (OP.no' rfl rfl rfl rfl ?_)
        refine OW.cons (OP.no' rfl rfl rfl rfl ?_)
        refine OW.cons (OP.val (v := (.bool false)) rfl (x_pickF' rfl rfl rfl) ?_)
        refine OW.cons (OP.val (v := (.bool false)) rfl (x_assign) ?_)
        refine OW.nil ?_
        exact ⟨false, hm, ⟨rfl, hL⟩⟩
    · refine OW.cons (OP.no' rfl rfl hb29 rfl ?_)
      refine OW.cons (OP.no' rfl rfl hb29 rfl ?_)
      refine OW.cons (OP.no' rfl rfl hb29 rfl ?_)
      refine OW.cons (OP.val (v := (.bool false)) rfl (x_pickF' rfl hb29 rfl) ?_)
      refine OW.cons (OP.val (v := (.bool false)) rfl (x_move) ?_)
      refine OW.cons (OP.no' rfl rfl rfl rfl ?_)
      refine OW.cons (OP.no' rfl rfl rfl rfl ?_)
      refine OW.cons (OP.no' rfl rfl rfl rfl ?_)
      refine OW.cons (OP.no' rfl rfl rfl rfl ?_)
      refine OW.cons (OP.no' rfl rfl rfl rfl ?_)
      refine OW.cons (OP.val (v := (.bool false)) rfl (x_pickF' rfl rfl rfl) ?_)
      refine OW.cons (OP.val (v := (.bool false)) rfl (x_move) ?_)
      refine OW.cons (OP.no' rfl rfl rfl rfl ?_)
      refine OW.cons (OP.no' rfl rfl rfl rfl ?_)
      refine OW.cons (OP.no' rfl rfl rfl rfl ?_)
      refine OW.cons (OP.val (v := (.bool false)) rfl (x_pickF' rfl rfl rfl) ?_)
      refine OW.cons (OP.val (v := (.bool false)) rfl (x_assign) ?_)
      refine OW.nil ?_
      exact ⟨false, hm, ⟨rfl, hL⟩⟩
  · intro s_j1 F21 wd22 hJ hm
    unfold M.impl_IsProgress_j1 at hm
    obtain ⟨f23, hL⟩ := hJ
    refine CW.ret ?_
    obtain rfl := Option.some.inj hm
    exact RR1 rfl f23 ⟨rfl, hL.fresh 1 rfl [] (by decide) (by decide) rfl⟩

theorem M.impl_isFactor_ok (w0 : World) (a0 : Int) {r : Bool} (hm : M.impl_isFactor a0 = some r) :
    Calls Try.prog 56 #[(.int .i64 a0)] w0 fun e w' => e = .returned (.bool r) ∧ Fresh w0 w' [] := by
  unfold M.impl_isFactor at hm
  refine calls_CW (args := [(.int .i64 a0)]) Try.func56 rfl rfl rfl ?_
  have hL := Hp.start w0
  refine CW.seq ?_
  refine CW.regionL ?_
  refine OW.cons (OP.val (v := (.bool false)) rfl (x_assign) ?_)
  refine OW.nil ?_
  refine CW.seq ?_
  refine CW.regionL ?_
  refine OW.cons (OP.val (v := (.int .i64 a0)) rfl (x_move) ?_)
  obtain ⟨x1, hx2, hm⟩ := bndE hm
  refine OW.cons (OP.call rfl (x_call (vs := [(.int .i64 a0), (.int .i64 1), (.int .i64 3000)]) Try_C61 ⟨rfl, rfl, rfl, trivial⟩) (M.impl_within_ok _ a0 1 3000 hx2) ?_)
  rintro e3 wd4 ⟨rfl, hF5⟩
  refine ⟨_, rfl, ?_⟩
  have hL := hL.pushAll hF5
  simp only [List.cons_append, List.nil_append, List.set_cons_zero, List.set_cons_succ] at hL
  refine OW.cons (OP.val (v := (.bool x1)) rfl (x_assign) ?_)
  refine OW.nil ?_
  refine CW.ret ?_
  obtain rfl := Option.some.inj hm
  exact RR1 rfl rfl ⟨rfl, hL.fresh 0 rfl [] (by decide) (by decide) rfl⟩

theorem M.spec_l01In_ok (w0 : World) (a0 : Int) (a1 : Int) (a2 : Int) {r : Bool} (hm : M.spec_l01In a0 a1 a2 = some r) :
    Calls Try.prog 84 #[(.int .i64 a0), (.int .i64 a1), (.int .i64 a2)] w0 fun e w' => e = .returned (.bool r) ∧ Fresh w0 w' [] := by
  unfold M.spec_l01In at hm
  refine calls_CW (args := [(.int .i64 a0), (.int .i64 a1), (.int .i64 a2)]) Try.func84 rfl rfl rfl ?_
  have hL := Hp.start w0
  refine CW.seq ?_
  refine CW.regionL ?_
  refine OW.cons (OP.val (v := (.bool false)) rfl (x_assign) ?_)
  refine OW.nil ?_
  refine CW.seqJ (fun (s_j1 : Bool) (F : Fr) (w : World) => F 6 = (.bool s_j1) ∧ Hp w0 [Ent.snap w0 w0.heap.size] w) (fun s_j1 => M.spec_l01In_j1 s_j1 = some r) ?_ ?_
  · refine CW.regionL ?_
    refine OW.cons (OP.val (v := (.int .i64 a0)) rfl (x_move) ?_)
    refine OW.cons (OP.val (v := (.int .i64 a1)) rfl (x_move) ?_)
    refine OW.cons (OP.val (v := (.bool (decide (a1 ≤ a0)))) rfl (x_geq rfl rfl) ?_)
    refine OW.cons (OP.val (v := (.bool (decide (a1 ≤ a0)))) rfl (x_move) ?_)
    refine ifB_elim hm (fun hb5 hm => ?_) (fun hb5 hm => ?_)
    · refine OW.cons (OP.yes' rfl rfl hb5 (OP.val (v := (.int .i64 a0)) rfl (x_move) ?_))
      refine OW.cons (OP.yes' rfl rfl hb5 (OP.val (v := (.int .i64 a2)) rfl (x_move) ?_))
      refine OW.cons (OP.yes' rfl rfl hb5 (OP.val (v := (.bool (decide (a0 ≤ a2)))) rfl (x_leq rfl rfl) ?_))
      refine OW.cons (OP.val (v := (.bool (decide (a0 ≤ a2)))) rfl (x_pickT' rfl hb5 rfl) ?_)
      refine OW.cons (OP.val (v := (.bool (decide (a0 ≤ a2)))) rfl (x_assign) ?_)
      refine OW.nil ?_
      exact ⟨decide (a0 ≤ a2), hm, ⟨rfl, hL⟩⟩
    · refine OW.cons (OP.no' rfl rfl hb5 rfl ?_)
      refine OW.cons (OP.no' rfl rfl hb5 rfl ?_)
      refine OW.cons (OP.no' rfl rfl hb5 rfl ?_)
      refine OW.cons (OP.val (v := (.bool false)) rfl (x_pickF' rfl hb5 rfl) ?_)
      refine OW.cons (OP.val (v := (.bool false)) rfl (x_assign) ?_)
      refine OW.nil ?_
      exact ⟨false, hm, ⟨rfl, hL⟩⟩
  · intro s_j1 F2 wd3 hJ hm
    unfold M.spec_l01In_j1 at hm
    obtain ⟨f4, hL⟩ := hJ
    refine CW.ret ?_
    obtain rfl := Option.some.inj hm
    exact RR1 rfl f4 ⟨rfl, hL.fresh 0 rfl [] (by decide) (by decide) rfl⟩

theorem M.spec_l22Factor_ok (w0 : World) (a0 : Int) {r : Bool} (hm : M.spec_l22Factor a0 = some r) :
    Calls Try.prog 59 #[(.int .i64 a0)] w0 fun e w' => e = .returned (.bool r) ∧ Fresh w0 w' [] := by
  unfold M.spec_l22Factor at hm
  refine calls_CW (args := [(.int .i64 a0)]) Try.func59 rfl rfl rfl ?_
  have hL := Hp.start w0
  refine CW.seq ?_
  refine CW.regionL ?_
  refine OW.cons (OP.val (v := (.bool false)) rfl (x_assign) ?_)
  refine OW.nil ?_
  refine CW.seq ?_
  refine CW.regionL ?_
  refine OW.cons (OP.val (v := (.int .i64 a0)) rfl (x_move) ?_)
  obtain ⟨x1, hx2, hm⟩ := bndE hm
  refine OW.cons (OP.call rfl (x_call (vs := [(.int .i64 a0), (.int .i64 1), (.int .i64 3000)]) Try_C84 ⟨rfl, rfl, rfl, trivial⟩) (M.spec_l01In_ok _ a0 1 3000 hx2) ?_)
  rintro e3 wd4 ⟨rfl, hF5⟩
  refine ⟨_, rfl, ?_⟩
  have hL := hL.pushAll hF5
  simp only [List.cons_append, List.nil_append, List.set_cons_zero, List.set_cons_succ] at hL
  refine OW.cons (OP.val (v := (.bool x1)) rfl (x_assign) ?_)
  refine OW.nil ?_
  refine CW.ret ?_
  obtain rfl := Option.some.inj hm
  exact RR1 rfl rfl ⟨rfl, hL.fresh 0 rfl [] (by decide) (by decide) rfl⟩

theorem M.spec_IsProgress_ok (w0 : World) (a0 : ProgressRules) {r : Bool} (hm : M.spec_IsProgress a0 = some r) :
    Calls Try.prog 58 #[(.agg #[(.int .i64 a0.Gain), (.int .i64 a0.Step), (.int .i64 a0.Low), (.int .i64 a0.High)])] w0 fun e w' => e = .returned (.bool r) ∧ Fresh w0 w' [] := by
  unfold M.spec_IsProgress at hm
  refine calls_CW (args := [(.agg #[(.int .i64 a0.Gain), (.int .i64 a0.Step), (.int .i64 a0.Low), (.int .i64 a0.High)])]) Try.func58 rfl rfl rfl ?_
  have hL := Hp.start w0
  refine CW.seq ?_
  refine CW.regionL ?_
  refine OW.cons (S_box (cs := #[(.int .i64 a0.Gain), (.int .i64 a0.Step), (.int .i64 a0.Low), (.int .i64 a0.High)]) hL rfl rfl rfl ?_)
  intro wd1 b2 hL
  refine OW.cons (OP.val (v := (.bool false)) rfl (x_assign) ?_)
  refine OW.nil ?_
  refine CW.seqJ (fun (s_j1 : Bool) (F : Fr) (w : World) => F 2 = (.bool s_j1) ∧ Hp w0 [Ent.blk b2 25 #[(.int .i64 a0.Gain), (.int .i64 a0.Step), (.int .i64 a0.Low), (.int .i64 a0.High)], Ent.snap w0 w0.heap.size] w) (fun s_j1 => M.spec_IsProgress_j1 s_j1 = some r) ?_ ?_
  · refine CW.regionL ?_
    refine OW.cons (OP.val (v := (.pointer (some ⟨b2, 0, none⟩))) rfl (x_fieldAddr (fsz := 1) 0 0 0 Try.underlying25 rfl Try_T2 rfl rfl rfl) ?_)
    refine OW.cons (OP.val (v := (.int .i64 a0.Gain)) rfl (x_load1 Try.underlying2 rfl rfl (hL.cellB 0 rfl rfl)) ?_)
    obtain ⟨x30, hx31, hm⟩ := bndE hm
    refine OW.cons (OP.call rfl (x_call (vs := [(.int .i64 a0.Gain), (.int .i64 0), (.int .i64 1000)]) Try_C84 ⟨rfl, rfl, rfl, trivial⟩) (M.spec_l01In_ok _ a0.Gain 0 1000 hx31) ?_)
    rintro e32 wd33 ⟨rfl, hF34⟩
    refine ⟨_, rfl, ?_⟩
    have hL := hL.pushAll hF34
    simp only [List.cons_append, List.nil_append, List.set_cons_zero, List.set_cons_succ] at hL
    refine OW.cons (OP.val (v := (.bool x30)) rfl (x_move) ?_)
    refine ifB_elim hm (fun hb35 hm => ?_) (fun hb35 hm => ?_)
    · refine OW.cons (OP.yes' rfl rfl hb35 (OP.val (v := (.pointer (some ⟨b2, 1, none⟩))) rfl (x_fieldAddr (fsz := 1) 0 1 1 Try.underlying25 rfl Try_T2 rfl rfl rfl) ?_))
      refine OW.cons (OP.yes' rfl rfl hb35 (OP.val (v := (.int .i64 a0.Step)) rfl (x_load1 Try.underlying2 rfl rfl (hL.cellB 0 rfl rfl)) ?_))
      obtain ⟨x36, hx37, hm⟩ := bndE hm
      refine OW.cons (OP.yes' rfl rfl hb35 (OP.call rfl (x_call (vs := [(.int .i64 a0.Step), (.int .i64 0), (.int .i64 3000)]) Try_C84 ⟨rfl, rfl, rfl, trivial⟩) (M.spec_l01In_ok _ a0.Step 0 3000 hx37) ?_))
      rintro e38 wd39 ⟨rfl, hF40⟩
      refine ⟨_, rfl, ?_⟩
      have hL := hL.pushAll hF40
      simp only [List.cons_append, List.nil_append, List.set_cons_zero, List.set_cons_succ] at hL
      refine OW.cons (OP.val (v := (.bool x36)) rfl (x_pickT' rfl hb35 rfl) ?_)
      refine OW.cons (OP.val (v := (.bool x36)) rfl (x_move) ?_)
      refine ifB_elim hm (fun hb41 hm => ?_) (fun hb41 hm => ?_)
      · refine OW.cons (OP.yes' rfl rfl hb41 (OP.val (v := (.pointer (some ⟨b2, 2, none⟩))) rfl (x_fieldAddr (fsz := 1) 0 2 2 Try.underlying25 rfl Try_T2 rfl rfl rfl) ?_))
        refine OW.cons (OP.yes' rfl rfl hb41 (OP.val (v := (.int .i64 a0.Low)) rfl (x_load1 Try.underlying2 rfl rfl (hL.cellB 0 rfl rfl)) ?_))
        obtain ⟨x42, hx43, hm⟩ := bndE hm
        refine OW.cons (OP.yes' rfl rfl hb41 (OP.call rfl (x_call (vs := [(.int .i64 a0.Low)]) Try_C59 ⟨rfl, trivial⟩) (M.spec_l22Factor_ok _ a0.Low hx43) ?_))
        rintro e44 wd45 ⟨rfl, hF46⟩
        refine ⟨_, rfl, ?_⟩
        have hL := hL.pushAll hF46
        simp only [List.cons_append, List.nil_append, List.set_cons_zero, List.set_cons_succ] at hL
        refine OW.cons (OP.val (v := (.bool x42)) rfl (x_pickT' rfl hb41 rfl) ?_)
        refine OW.cons (OP.val (v := (.bool x42)) rfl (x_move) ?_)
        refine ifB_elim hm (fun hb47 hm => ?_) (fun hb47 hm => ?_)
        · refine OW.cons (OP.yes' rfl rfl hb47 (OP.val (v := (.pointer (some ⟨b2, 3, none⟩))) rfl (x_fieldAddr (fsz := 1) 0 3 3 Try.underlying25 rfl Try_T2 rfl rfl rfl) ?_))
          refine OW.cons (OP.yes' rfl rfl hb47 (OP.val (v := (.int .i64 a0.High)) rfl (x_load1 Try.underlying2 rfl rfl (hL.cellB 0 rfl rfl)) ?_))
          obtain ⟨x48, hx49, hm⟩ := bndE hm
          refine OW.cons (OP.yes' rfl rfl hb47 (OP.call rfl (x_call (vs := [(.int .i64 a0.High)]) Try_C59 ⟨rfl, trivial⟩) (M.spec_l22Factor_ok _ a0.High hx49) ?_))
          rintro e50 wd51 ⟨rfl, hF52⟩
          refine ⟨_, rfl, ?_⟩
          have hL := hL.pushAll hF52
          simp only [List.cons_append, List.nil_append, List.set_cons_zero, List.set_cons_succ] at hL
          refine OW.cons (OP.val (v := (.bool x48)) rfl (x_pickT' rfl hb47 rfl) ?_)
          refine OW.cons (OP.val (v := (.bool x48)) rfl (x_move) ?_)
          refine ifB_elim hm (fun hb53 hm => ?_) (fun hb53 hm => ?_)
          · refine OW.cons (OP.yes' rfl rfl hb53 (OP.val (v := (.pointer (some ⟨b2, 2, none⟩))) rfl (x_fieldAddr (fsz := 1) 0 2 2 Try.underlying25 rfl Try_T2 rfl rfl rfl) ?_))
            refine OW.cons (OP.yes' rfl rfl hb53 (OP.val (v := (.int .i64 a0.Low)) rfl (x_load1 Try.underlying2 rfl rfl (hL.cellB 0 rfl rfl)) ?_))
            refine OW.cons (OP.yes' rfl rfl hb53 (OP.val (v := (.pointer (some ⟨b2, 3, none⟩))) rfl (x_fieldAddr (fsz := 1) 0 3 3 Try.underlying25 rfl Try_T2 rfl rfl rfl) ?_))
            refine OW.cons (OP.yes' rfl rfl hb53 (OP.val (v := (.int .i64 a0.High)) rfl (x_load1 Try.underlying2 rfl rfl (hL.cellB 0 rfl rfl)) ?_))
            refine OW.cons (OP.yes' rfl rfl hb53 (OP.val (v := (.bool (decide (a0.Low ≤ a0.High)))) rfl (x_leq rfl rfl) ?_))
            refine OW.cons (OP.val (v := (.bool (decide (a0.Low ≤ a0.High)))) rfl (x_pickT' rfl hb53 rfl) ?_)
            refine OW.cons (OP.val (v := (.bool (decide (a0.Low ≤ a0.High)))) rfl (x_assign) ?_)
            refine OW.nil ?_
            exact ⟨decide (a0.Low ≤ a0.High), hm, ⟨rfl, hL⟩⟩
          · refine OW.cons (OP.no' rfl rfl hb53 rfl ?_)
            refine OW.cons (OP.no' rfl rfl hb53 rfl ?_)
            refine OW.cons (OP.no' rfl rfl hb53 rfl ?_)
            refine OW.cons (OP.no' rfl rfl hb53 rfl ?_)
            refine OW.cons (OP.no' rfl rfl hb53 rfl ?_)
            refine OW.cons (OP.val (v := (.bool false)) rfl (x_pickF' rfl hb53 rfl) ?_)
            refine OW.cons (OP.val (v := (.bool false)) rfl (x_assign) ?_)
            refine OW.nil ?_
            exact ⟨false, hm, ⟨rfl, hL⟩⟩
        · refine OW.cons (OP.no' rfl rfl hb47 rfl ?_)
          refine OW.cons (OP.no' rfl rfl hb47 rfl ?_)
          refine OW.cons (OP.no' rfl rfl hb47 rfl ?_)
          refine OW.cons (OP.val (v := (.bool false)) rfl (x_pickF' rfl hb47 rfl) ?_)
          refine OW.cons (OP.val (v := (.bool false)) rfl (x_move) ?_)
          refine OW.cons (OP.no' rfl rfl rfl rfl ?_)
          refine OW.cons (OP.no' rfl rfl rfl rfl ?_)
          refine OW.cons (OP.no' rfl rfl rfl rfl ?_)
          refine OW.cons (OP.no' rfl rfl rfl rfl ?_)
          refine OW.cons (OP.no' rfl rfl rfl rfl ?_)
          refine OW.cons (OP.val (v := (.bool false)) rfl (x_pickF' rfl rfl rfl) ?_)
          refine OW.cons (OP.val (v := (.bool false)) rfl (x_assign) ?_)
          refine OW.nil ?_
          exact ⟨false, hm, ⟨rfl, hL⟩⟩
      · refine OW.cons (OP.no' rfl rfl hb41 rfl ?_)
        refine OW.cons (OP.no' rfl rfl hb41 rfl ?_)
        refine OW.cons (OP.no' rfl rfl hb41 rfl ?_)
        refine OW.cons (OP.val (v := (.bool false)) rfl (x_pickF' rfl hb41 rfl) ?_)
        refine OW.cons (OP.val (v := (.bool false)) rfl (x_move) ?_)
        refine OW.cons (OP.no' rfl rfl rfl rfl ?_)
        refine OW.cons (OP.no' rfl rfl rfl rfl ?_)
        refine OW.cons (OP.no' rfl rfl rfl rfl ?_)
        refine OW.cons (OP.val (v := (.bool false)) rfl (x_pickF' rfl rfl rfl) ?_)
        refine OW.cons (OP.val (v := (.bool false)) rfl (x_move) ?_)
        refine OW.cons (OP.no' rfl rfl rfl rfl ?_)
        refine OW.cons (OP.no' rfl rfl rfl rfl ?_)
        refine OW.cons (OP.no' rfl rfl rfl rfl ?_)
        refine OW.cons (OP.no' rfl rfl rfl rfl ?_)
        refine OW.cons (OP.no' rfl rfl rfl rfl ?_)
        refine OW.cons (OP.val (v := (.bool false)) rfl (x_pickF' rfl rfl rfl) ?_)
        refine OW.cons (OP.val (v := (.bool false)) rfl (x_assign) ?_)
        refine OW.nil ?_
        exact ⟨false, hm, ⟨rfl, hL⟩⟩
    · refine OW.cons (OP.no' rfl rfl hb35 rfl ?_)
      refine OW.cons (OP.no' rfl rfl hb35 rfl ?_)
      refine OW.cons (OP.no' rfl rfl hb35 rfl ?_)
      refine OW.cons (OP.val (v := (.bool false)) rfl (x_pickF' rfl hb35 rfl) ?_)
      refine OW.cons (OP.val (v := (.bool false)) rfl (x_move) ?_)
      refine OW.cons (OP.no' rfl rfl rfl rfl ?_)
      refine OW.cons (OP.no' rfl rfl rfl rfl ?_)
      refine OW.cons (OP.no' rfl rfl rfl rfl ?_)
      refine OW.cons (OP.val (v := (.bool false)) rfl (x_pickF' rfl rfl rfl) ?_)
      refine OW.cons (OP.val (v := (.bool false)) rfl (x_move) ?_)
      refine OW.cons (OP.no' rfl rfl rfl rfl ?_)
      refine OW.cons (OP.no' rfl rfl rfl rfl ?_)
      refine OW.cons (OP.no' rfl rfl rfl rfl ?_)
      refine OW.cons (OP.val (v := (.bool false)) rfl (x_pickF' rfl rfl rfl) ?_)
      refine OW.cons (OP.val (v := (.bool false)) rfl (x_move) ?_)
      refine OW.cons (OP.no' rfl rfl rfl rfl ?_)
      refine OW.cons (OP.no' rfl rfl rfl rfl ?_)
      refine OW.cons (OP.no' rfl rfl rfl rfl ?_)
      refine OW.cons (OP.no' rfl rfl rfl rfl ?_)
      refine OW.cons (OP.no' rfl rfl rfl rfl ?_)
      refine OW.cons (OP.val (v := (.bool false)) rfl (x_pickF' rfl rfl rfl) ?_)
      refine OW.cons (OP.val (v := (.bool false)) rfl (x_assign) ?_)
      refine OW.nil ?_
      exact ⟨false, hm, ⟨rfl, hL⟩⟩
  · intro s_j1 F27 wd28 hJ hm
    unfold M.spec_IsProgress_j1 at hm
    obtain ⟨f29, hL⟩ := hJ
    refine CW.ret ?_
    obtain rfl := Option.some.inj hm
    exact RR1 rfl f29 ⟨rfl, hL.fresh 1 rfl [] (by decide) (by decide) rfl⟩

theorem M.laws_szRatingS_ok (w0 : World) (a0 : List Rating) {v1 : Value} (h2 : rdL (· < w0.heap.size) w0 v1 a0) (a1 : Int) {r : Int} (hm : M.laws_szRatingS a0 a1 = some r) :
    Calls Try.prog 18 #[v1, (.int .i64 a1)] w0 fun e w' => e = .returned (.int .i64 r) ∧ Fresh w0 w' [] := by
  unfold M.laws_szRatingS at hm
  refine calls_CW (args := [v1, (.int .i64 a1)]) Try.func18 rfl rfl rfl ?_
  have hL := Hp.start w0
  refine CW.seq ?_
  refine CW.regionL ?_
  refine OW.cons (OP.val (v := (.int .i64 0)) rfl (x_assign) ?_)
  refine OW.nil ?_
  refine CW.seq ?_
  refine CW.regionL ?_
  refine OW.cons (OP.val (v := (.int .i64 a1)) rfl (x_move) ?_)
  refine OW.cons (OP.val (v := v1) rfl (x_move) ?_)
  refine OW.cons (OP.val (v := (.int .i64 (a0.length : Int))) rfl (x_lenR Try.underlying32 rfl (hL.rdS 0 rfl h2)) ?_)
  refine OW.cons (OP.val (v := (.int .i64 (w64 (a1 - (a0.length : Int))))) rfl (x_sub rfl rfl) ?_)
  refine OW.cons (OP.val (v := (.int .i64 (w64 (a1 - (a0.length : Int))))) rfl (x_assign) ?_)
  refine OW.nil ?_
  refine CW.seq ?_
  refine CW.seq ?_
  refine CW.regionL ?_
  refine OW.cons (OP.val (v := (.int .i64 (w64 (a1 - (a0.length : Int))))) rfl (x_move) ?_)
  refine OW.cons (OP.val (v := (.bool (decide ((w64 (a1 - (a0.length : Int))) < 0)))) rfl (x_lss rfl rfl) ?_)
  refine OW.nil ?_
  refine CW.condM (t := decide ((w64 (a1 - (a0.length : Int))) < 0)) rfl hm (fun hb3 hm => ?_) (fun hb3 hm => ?_)
  · refine CW.seq ?_
    refine CW.regionL ?_
    refine OW.cons (OP.val (v := (.int .i64 (-1))) rfl (x_assign) ?_)
    refine OW.nil ?_
    refine CW.ret ?_
    obtain rfl := Option.some.inj hm
    exact RR1 rfl rfl ⟨rfl, hL.fresh 0 rfl [] (by decide) (by decide) rfl⟩
  · refine CW.skip ?_
    refine CW.seq ?_
    refine CW.regionL ?_
    refine OW.cons (OP.val (v := (.int .i64 (w64 (a1 - (a0.length : Int))))) rfl (x_move) ?_)
    refine OW.cons (OP.val (v := (.int .i64 (w64 (a1 - (a0.length : Int))))) rfl (x_assign) ?_)
    refine OW.nil ?_
    refine CW.ret ?_
    obtain rfl := Option.some.inj hm
    exact RR1 rfl rfl ⟨rfl, hL.fresh 0 rfl [] (by decide) (by decide) rfl⟩

theorem M.laws_toProgressRules_ok (w0 : World) (a0 : ProgressRules) {r : ProgressRules} (hm : M.laws_toProgressRules a0 = some r) :
    Calls Try.prog 20 #[(.agg #[(.int .i64 a0.Gain), (.int .i64 a0.Step), (.int .i64 a0.Low), (.int .i64 a0.High)])] w0 fun e w' => e = .returned (.agg #[(.int .i64 r.Gain), (.int .i64 r.Step), (.int .i64 r.Low), (.int .i64 r.High)]) ∧ Fresh w0 w' [] := by
  unfold M.laws_toProgressRules at hm
  refine calls_CW (args := [(.agg #[(.int .i64 a0.Gain), (.int .i64 a0.Step), (.int .i64 a0.Low), (.int .i64 a0.High)])]) Try.func20 rfl rfl rfl ?_
  have hL := Hp.start w0
  refine CW.seq ?_
  refine CW.regionL ?_
  refine OW.cons (S_box (cs := #[(.int .i64 a0.Gain), (.int .i64 a0.Step), (.int .i64 a0.Low), (.int .i64 a0.High)]) hL rfl rfl rfl ?_)
  intro wd1 b2 hL
  refine OW.cons (S_alloc (cs := #[(.int .i64 0), (.int .i64 0), (.int .i64 0), (.int .i64 0)]) hL Try_T25 rfl rfl ?_)
  intro wd3 b4 hL
  refine OW.nil ?_
  refine CW.seq ?_
  refine CW.regionL ?_
  refine OW.cons (S_alloc (cs := #[(.int .i64 0), (.int .i64 0), (.int .i64 0), (.int .i64 0)]) hL Try_T25 rfl rfl ?_)
  intro wd5 b6 hL
  refine OW.nil ?_
  refine CW.seq ?_
  refine CW.regionL ?_
  refine OW.cons (OP.val (v := (.pointer (some ⟨b2, 0, none⟩))) rfl (x_fieldAddr (fsz := 1) 0 0 0 Try.underlying31 rfl Try_T2 rfl rfl rfl) ?_)
  refine OW.cons (OP.val (v := (.int .i64 a0.Gain)) rfl (x_load1 Try.underlying2 rfl rfl (hL.cellB 2 rfl rfl)) ?_)
  refine OW.cons (OP.val (v := (.pointer (some ⟨b6, 0, none⟩))) rfl (x_fieldAddr (fsz := 1) 0 0 0 Try.underlying25 rfl Try_T2 rfl rfl rfl) ?_)
  refine OW.cons (S_store (cs' := #[(.int .i64 a0.Gain), (.int .i64 0), (.int .i64 0), (.int .i64 0)]) hL 0 rfl Try_T2 rfl rfl rfl rfl rfl ?_)
  intro wd7 hL
  refine OW.nil ?_
  refine CW.seq ?_
  refine CW.regionL ?_
  refine OW.cons (OP.val (v := (.pointer (some ⟨b2, 1, none⟩))) rfl (x_fieldAddr (fsz := 1) 0 1 1 Try.underlying31 rfl Try_T2 rfl rfl rfl) ?_)
  refine OW.cons (OP.val (v := (.int .i64 a0.Step)) rfl (x_load1 Try.underlying2 rfl rfl (hL.cellB 2 rfl rfl)) ?_)
  refine OW.cons (OP.val (v := (.pointer (some ⟨b6, 1, none⟩))) rfl (x_fieldAddr (fsz := 1) 0 1 1 Try.underlying25 rfl Try_T2 rfl rfl rfl) ?_)
  refine OW.cons (S_store (cs' := #[(.int .i64 a0.Gain), (.int .i64 a0.Step), (.int .i64 0), (.int .i64 0)]) hL 0 rfl Try_T2 rfl rfl rfl rfl rfl ?_)
  intro wd8 hL
  refine OW.nil ?_
  refine CW.seq ?_
  refine CW.regionL ?_
  refine OW.cons (OP.val (v := (.pointer (some ⟨b2, 2, none⟩))) rfl (x_fieldAddr (fsz := 1) 0 2 2 Try.underlying31 rfl Try_T2 rfl rfl rfl) ?_)
  refine OW.cons (OP.val (v := (.int .i64 a0.Low)) rfl (x_load1 Try.underlying2 rfl rfl (hL.cellB 2 rfl rfl)) ?_)
  refine OW.cons (OP.val (v := (.pointer (some ⟨b6, 2, none⟩))) rfl (x_fieldAddr (fsz := 1) 0 2 2 Try.underlying25 rfl Try_T2 rfl rfl rfl) ?_)
  refine OW.cons (S_store (cs' := #[(.int .i64 a0.Gain), (.int .i64 a0.Step), (.int .i64 a0.Low), (.int .i64 0)]) hL 0 rfl Try_T2 rfl rfl rfl rfl rfl ?_)
  intro wd9 hL
  refine OW.nil ?_
  refine CW.seq ?_
  refine CW.regionL ?_
  refine OW.cons (OP.val (v := (.pointer (some ⟨b2, 3, none⟩))) rfl (x_fieldAddr (fsz := 1) 0 3 3 Try.underlying31 rfl Try_T2 rfl rfl rfl) ?_)
  refine OW.cons (OP.val (v := (.int .i64 a0.High)) rfl (x_load1 Try.underlying2 rfl rfl (hL.cellB 2 rfl rfl)) ?_)
  refine OW.cons (OP.val (v := (.pointer (some ⟨b6, 3, none⟩))) rfl (x_fieldAddr (fsz := 1) 0 3 3 Try.underlying25 rfl Try_T2 rfl rfl rfl) ?_)
  refine OW.cons (S_store (cs' := #[(.int .i64 a0.Gain), (.int .i64 a0.Step), (.int .i64 a0.Low), (.int .i64 a0.High)]) hL 0 rfl Try_T2 rfl rfl rfl rfl rfl ?_)
  intro wd10 hL
  refine OW.nil ?_
  refine CW.seq ?_
  refine CW.regionL ?_
  refine OW.cons (OP.val (v := (.agg #[(.int .i64 a0.Gain), (.int .i64 a0.Step), (.int .i64 a0.Low), (.int .i64 a0.High)])) rfl (x_loadN (cs := [(.int .i64 a0.Gain), (.int .i64 a0.Step), (.int .i64 a0.Low), (.int .i64 a0.High)]) Try.underlying25 Try_T25 rfl rfl (hL.cellsB 0 rfl (o := 0) (l := [(.int .i64 a0.Gain), (.int .i64 a0.Step), (.int .i64 a0.Low), (.int .i64 a0.High)]) (by intro j u hj; exact (by simpa using hj)))) ?_)
  refine OW.cons (S_storeN (l := [(.int .i64 a0.Gain), (.int .i64 a0.Step), (.int .i64 a0.Low), (.int .i64 a0.High)]) (cs' := #[(.int .i64 a0.Gain), (.int .i64 a0.Step), (.int .i64 a0.Low), (.int .i64 a0.High)]) hL 1 rfl Try_T25 rfl rfl (by simp [Value.oneCell']) rfl (by decide) rfl ?_)
  intro wd11 hL
  refine OW.nil ?_
  refine CW.ret ?_
  obtain rfl := Option.some.inj hm
  exact RRc rfl rfl (run_loadBlk Try.underlying25 Try_T25 (hL.get 1 rfl) rfl) ⟨rfl, hL.fresh 3 rfl [] (by decide) (by decide) rfl⟩

theorem M.laws_toRating_ok (w0 : World) (a0 : Rating) {r : Rating} (hm : M.laws_toRating a0 = some r) :
    Calls Try.prog 63 #[(.agg #[(.int .i64 a0.Boat), (.int .i64 a0.Value)])] w0 fun e w' => e = .returned (.agg #[(.int .i64 r.Boat), (.int .i64 r.Value)]) ∧ Fresh w0 w' [] := by
  unfold M.laws_toRating at hm
  refine calls_CW (args := [(.agg #[(.int .i64 a0.Boat), (.int .i64 a0.Value)])]) Try.func63 rfl rfl rfl ?_
  have hL := Hp.start w0
  refine CW.seq ?_
  refine CW.regionL ?_
  refine OW.cons (S_box (cs := #[(.int .i64 a0.Boat), (.int .i64 a0.Value)]) hL rfl rfl rfl ?_)
  intro wd1 b2 hL
  refine OW.cons (S_alloc (cs := #[(.int .i64 0), (.int .i64 0)]) hL Try_T67 rfl rfl ?_)
  intro wd3 b4 hL
  refine OW.nil ?_
  refine CW.seq ?_
  refine CW.regionL ?_
  refine OW.cons (S_alloc (cs := #[(.int .i64 0), (.int .i64 0)]) hL Try_T67 rfl rfl ?_)
  intro wd5 b6 hL
  refine OW.nil ?_
  refine CW.seq ?_
  refine CW.regionL ?_
  refine OW.cons (OP.val (v := (.pointer (some ⟨b2, 0, none⟩))) rfl (x_fieldAddr (fsz := 1) 0 0 0 Try.underlying90 rfl Try_T2 rfl rfl rfl) ?_)
  refine OW.cons (OP.val (v := (.int .i64 a0.Boat)) rfl (x_load1 Try.underlying2 rfl rfl (hL.cellB 2 rfl rfl)) ?_)
  refine OW.cons (OP.val (v := (.pointer (some ⟨b6, 0, none⟩))) rfl (x_fieldAddr (fsz := 1) 0 0 0 Try.underlying67 rfl Try_T2 rfl rfl rfl) ?_)
  refine OW.cons (S_store (cs' := #[(.int .i64 a0.Boat), (.int .i64 0)]) hL 0 rfl Try_T2 rfl rfl rfl rfl rfl ?_)
  intro wd7 hL
  refine OW.nil ?_
  refine CW.seq ?_
  refine CW.regionL ?_
  refine OW.cons (OP.val (v := (.pointer (some ⟨b2, 1, none⟩))) rfl (x_fieldAddr (fsz := 1) 0 1 1 Try.underlying90 rfl Try_T2 rfl rfl rfl) ?_)
  refine OW.cons (OP.val (v := (.int .i64 a0.Value)) rfl (x_load1 Try.underlying2 rfl rfl (hL.cellB 2 rfl rfl)) ?_)
  refine OW.cons (OP.val (v := (.pointer (some ⟨b6, 1, none⟩))) rfl (x_fieldAddr (fsz := 1) 0 1 1 Try.underlying67 rfl Try_T2 rfl rfl rfl) ?_)
  refine OW.cons (S_store (cs' := #[(.int .i64 a0.Boat), (.int .i64 a0.Value)]) hL 0 rfl Try_T2 rfl rfl rfl rfl rfl ?_)
  intro wd8 hL
  refine OW.nil ?_
  refine CW.seq ?_
  refine CW.regionL ?_
  refine OW.cons (OP.val (v := (.agg #[(.int .i64 a0.Boat), (.int .i64 a0.Value)])) rfl (x_loadN (cs := [(.int .i64 a0.Boat), (.int .i64 a0.Value)]) Try.underlying67 Try_T67 rfl rfl (hL.cellsB 0 rfl (o := 0) (l := [(.int .i64 a0.Boat), (.int .i64 a0.Value)]) (by intro j u hj; exact (by simpa using hj)))) ?_)
  refine OW.cons (S_storeN (l := [(.int .i64 a0.Boat), (.int .i64 a0.Value)]) (cs' := #[(.int .i64 a0.Boat), (.int .i64 a0.Value)]) hL 1 rfl Try_T67 rfl rfl (by simp [Value.oneCell']) rfl (by decide) rfl ?_)
  intro wd9 hL
  refine OW.nil ?_
  refine CW.ret ?_
  obtain rfl := Option.some.inj hm
  exact RRc rfl rfl (run_loadBlk Try.underlying67 Try_T67 (hL.get 1 rfl) rfl) ⟨rfl, hL.fresh 3 rfl [] (by decide) (by decide) rfl⟩

theorem M.laws_toRatingS_ok (w0 : World) (a0 : List Rating) {v1 : Value} (h2 : rdL (· < w0.heap.size) w0 v1 a0) {r : (List Rating)} (hm : M.laws_toRatingS a0 = some r) :
    Calls Try.prog 21 #[v1] w0 fun e w' => ∃ (rv0 : Value) (rS0 : Nat → Prop), e = .returned rv0 ∧ Fresh w0 w' [Ent.own 67 rS0 rv0 r] := by
  unfold M.laws_toRatingS at hm
  refine calls_CW (args := [v1]) Try.func21 rfl rfl rfl ?_
  have hL := Hp.start w0
  refine CW.seq ?_
  refine CW.regionL ?_
  refine OW.cons (OP.val (v := (.slice none 0 0)) rfl (x_assign) ?_)
  refine OW.nil ?_
  refine CW.seq ?_
  refine CW.regionL ?_
  refine OW.cons (OP.val (v := v1) rfl (x_move) ?_)
  refine OW.cons (OP.val (v := (.int .i64 (a0.length : Int))) rfl (x_lenR Try.underlying32 rfl (hL.rdS 0 rfl h2)) ?_)
  obtain ⟨hc3, hm⟩ := chkE hm
  refine OW.cons (S_make (α := Rating) (Rating.mk 0 0) hL Try.underlying38 Try_T67 rfl rfl rfl hc3 (by decide) rfl ?_)
  intro wd4 v5 S6 hL
  refine OW.cons (OP.val (v := v5) rfl (x_assign) ?_)
  refine OW.nil ?_
  refine CW.seq ?_
  refine CW.seq ?_
  refine CW.regionL ?_
  refine OW.cons (OP.val (v := (.int .i64 0)) rfl (x_assign) ?_)
  refine OW.nil ?_
  obtain ⟨o49, ho50, hm⟩ := bndE hm
  refine CW.loopB (fun (s_l1 : (List Rating) × Int) (F : Fr) (w : World) => ∃ (S46 : Nat → Prop), F 0 = v1 ∧ F 3 = v5 ∧ F 4 = (.int .i64 s_l1.2) ∧ Hp w0 [Ent.own 67 S46 v5 s_l1.1, Ent.snap w0 w0.heap.size] w) (fun o => outc o (fun x => some x) (fun s => M.laws_toRatingS_a1 s) = some r) ho50 hm ⟨S6, rfl, rfl, rfl, hL⟩ ?_ ?_
  · intro s_l1 F51 wd52 hJ hm
    have hm : M.laws_toRatingS_a1 s_l1 = some r := hm
    unfold M.laws_toRatingS_a1 at hm
    obtain ⟨S46, f53, f54, f55, hL⟩ := hJ
    refine CW.seq ?_
    refine CW.regionL ?_
    refine OW.cons (OP.val (v := v5) rfl (x_mv f54) ?_)
    refine OW.cons (OP.val (v := v5) rfl (x_assign) ?_)
    refine OW.nil ?_
    refine CW.ret ?_
    obtain rfl := Option.some.inj hm
    exact RR1 rfl rfl ⟨v5, S46, rfl, hL.fresh 1 rfl [0] (by decide) (by decide) rfl⟩
  · intro s_l1 F56 wd57 t47 hJ hm hr48
    unfold M.laws_toRatingS_l1 at hm
    obtain ⟨S46, f58, f59, f60, hL⟩ := hJ
    refine CW.seq ?_
    refine CW.seq ?_
    refine CW.regionL ?_
    refine OW.cons (OP.val (v := (.int .i64 s_l1.2)) rfl (x_mv f60) ?_)
    refine OW.cons (OP.val (v := v1) rfl (x_mv f58) ?_)
    refine OW.cons (OP.val (v := (.int .i64 (a0.length : Int))) rfl (x_lenR Try.underlying32 rfl (hL.rdS 1 rfl h2)) ?_)
    refine OW.cons (OP.val (v := (.bool (decide (s_l1.2 < (a0.length : Int))))) rfl (x_lss rfl rfl) ?_)
    refine OW.nil ?_
    refine CW.condM (t := decide (s_l1.2 < (a0.length : Int))) rfl hm (fun hb61 hm => ?_) (fun hb61 hm => ?_)
    · refine CW.skip ?_
      refine CW.seq ?_
      refine CW.block ?_
      refine CW.regionL ?_
      refine OW.cons (OP.val (v := v5) rfl (x_mv f59) ?_)
      refine OW.cons (OP.val (v := (.int .i64 s_l1.2)) rfl (x_mv f60) ?_)
      refine OW.cons (OP.val (v := v1) rfl (x_mv f58) ?_)
      refine OW.cons (OP.val (v := (.int .i64 s_l1.2)) rfl (x_mv f60) ?_)
      obtain ⟨x62, ha63, hm⟩ := bndE hm
      obtain ⟨hz64, ha63⟩ := idxE ha63
      obtain ⟨b65, q66, hix67⟩ := rdL_ix (hL.rdS 1 rfl h2) hz64 ha63
      refine OW.cons (OP.val (v := (.pointer (some ⟨b65, q66, none⟩))) rfl (x_ix Try.underlying32 Try_T90 rfl rfl hix67) ?_)
      refine OW.cons (OP.val (v := (.agg #[(.int .i64 x62.Boat), (.int .i64 x62.Value)])) rfl (x_loadN (cs := [(.int .i64 x62.Boat), (.int .i64 x62.Value)]) Try.underlying90 Try_T90 rfl rfl (rdF_cells (hL.rdS 1 rfl h2) hix67 ha63)) ?_)
      obtain ⟨x68, hx69, hm⟩ := bndE hm
      refine OW.cons (OP.call rfl (x_call (vs := [(.agg #[(.int .i64 x62.Boat), (.int .i64 x62.Value)])]) Try_C63 ⟨rfl, trivial⟩) (M.laws_toRating_ok _ x62 hx69) ?_)
      rintro e70 wd71 ⟨rfl, hF72⟩
      refine ⟨_, rfl, ?_⟩
      have hL := hL.pushAll hF72
      simp only [List.cons_append, List.nil_append, List.set_cons_zero, List.set_cons_succ] at hL
      obtain ⟨x73, ha74, hm⟩ := bndE hm
      obtain ⟨hz75, ha74⟩ := idxE ha74
      obtain ⟨b76, q77, hix78⟩ := rdL_ix (hL.rdO 0 rfl) hz75 ha74
      refine OW.cons (OP.val (v := (.pointer (some ⟨b76, q77, none⟩))) rfl (x_ix Try.underlying38 Try_T67 rfl rfl hix78) ?_)
      refine OW.cons (S_storeXN (l := [(.int .i64 x68.Boat), (.int .i64 x68.Value)]) x68 hL 0 rfl Try_T67 hix78 ha74 rfl rfl rfl ?_)
      intro wd79 hL
      refine OW.nil ?_
      refine CW.regionL ?_
      refine OW.cons (OP.val (v := (.int .i64 s_l1.2)) rfl (x_mv f60) ?_)
      refine OW.cons (OP.val (v := (.int .i64 (w64 (s_l1.2 + 1)))) rfl (x_add rfl rfl) ?_)
      refine OW.cons (OP.val (v := (.int .i64 (w64 (s_l1.2 + 1)))) rfl (x_assign) ?_)
      refine OW.nil ?_
      obtain rfl := Option.some.inj hm
      exact ⟨_, rfl, ⟨S46, f58, f59, rfl, hL⟩⟩
    · refine CW.exit ?_
      refine XJ.hit ?_
      obtain rfl := Option.some.inj hm
      exact ⟨_, rfl, ⟨S46, f58, f59, f60, hL⟩⟩

theorem M.spec_IsRatings_ok (w0 : World) (a0 : Int) (a1 : List Rating) {v1 : Value} (h2 : rdL (· < w0.heap.size) w0 v1 a1) {r : Bool} (hm : M.spec_IsRatings a0 a1 = some r) :
    Calls Try.prog 62 #[(.int .i64 a0), v1] w0 fun e w' => e = .returned (.bool r) ∧ Fresh w0 w' [] := by
  unfold M.spec_IsRatings at hm
  refine calls_CW (args := [(.int .i64 a0), v1]) Try.func62 rfl rfl rfl ?_
  have hL := Hp.start w0
  refine CW.seq ?_
  refine CW.regionL ?_
  refine OW.cons (OP.val (v := (.bool false)) rfl (x_assign) ?_)
  refine OW.nil ?_
  refine CW.seq ?_
  refine CW.seqJ (fun (s_j1 : Bool) (F : Fr) (w : World) => F 1 = v1 ∧ F 14 = (.bool s_j1) ∧ Hp w0 [Ent.snap w0 w0.heap.size] w) (fun s_j1 => M.spec_IsRatings_j1 a1 s_j1 = some r) ?_ ?_
  · refine CW.regionL ?_
    refine OW.cons (OP.val (v := (.int .i64 a0)) rfl (x_move) ?_)
    obtain ⟨x155, hx156, hm⟩ := bndE hm
    refine OW.cons (OP.call rfl (x_call (vs := [(.int .i64 a0), (.int .i64 1), (.int .i64 16)]) Try_C84 ⟨rfl, rfl, rfl, trivial⟩) (M.spec_l01In_ok _ a0 1 16 hx156) ?_)
    rintro e157 wd158 ⟨rfl, hF159⟩
    refine ⟨_, rfl, ?_⟩
    have hL := hL.pushAll hF159
    simp only [List.cons_append, List.nil_append, List.set_cons_zero, List.set_cons_succ] at hL
    refine OW.cons (OP.val (v := (.bool (!x155))) rfl (x_not rfl) ?_)
    refine OW.cons (OP.val (v := (.bool (!x155))) rfl (x_move) ?_)
    refine ifB_elim hm (fun hb160 hm => ?_) (fun hb160 hm => ?_)
    · refine OW.cons (OP.no' rfl rfl hb160 rfl ?_)
      refine OW.cons (OP.no' rfl rfl hb160 rfl ?_)
      refine OW.cons (OP.no' rfl rfl hb160 rfl ?_)
      refine OW.cons (OP.no' rfl rfl hb160 rfl ?_)
      refine OW.cons (OP.val (v := (.bool true)) rfl (x_pickT' rfl hb160 rfl) ?_)
      refine OW.nil ?_
      exact ⟨true, hm, ⟨rfl, rfl, hL⟩⟩
    · refine OW.cons (OP.yes' rfl rfl hb160 (OP.val (v := v1) rfl (x_move) ?_))
      refine OW.cons (OP.yes' rfl rfl hb160 (OP.val (v := (.int .i64 (a1.length : Int))) rfl (x_lenR Try.underlying38 rfl (hL.rdS 0 rfl h2)) ?_))
      refine OW.cons (OP.yes' rfl rfl hb160 (OP.val (v := (.int .i64 a0)) rfl (x_move) ?_))
      refine OW.cons (OP.yes' rfl rfl hb160 (OP.val (v := (.bool ((a1.length : Int) != a0))) rfl (x_neq rfl rfl) ?_))
      refine OW.cons (OP.val (v := (.bool ((a1.length : Int) != a0))) rfl (x_pickF' rfl hb160 rfl) ?_)
      refine OW.nil ?_
      exact ⟨(a1.length : Int) != a0, hm, ⟨rfl, rfl, hL⟩⟩
  · intro s_j1 F9 wd10 hJ hm
    unfold M.spec_IsRatings_j1 at hm
    obtain ⟨f11, f12, hL⟩ := hJ
    refine CW.condM (t := s_j1) f12 hm (fun hb13 hm => ?_) (fun hb13 hm => ?_)
    · refine CW.seq ?_
      refine CW.regionL ?_
      refine OW.cons (OP.val (v := (.bool false)) rfl (x_assign) ?_)
      refine OW.nil ?_
      refine CW.ret ?_
      obtain rfl := Option.some.inj hm
      exact RR1 rfl rfl ⟨rfl, hL.fresh 0 rfl [] (by decide) (by decide) rfl⟩
    · refine CW.skip ?_
      refine CW.seq ?_
      refine CW.seq ?_
      refine CW.regionL ?_
      refine OW.cons (OP.val (v := (.int .i64 0)) rfl (x_assign) ?_)
      refine OW.nil ?_
      obtain ⟨o102, ho103, hm⟩ := bndE hm
      refine CW.loopB (fun (s_l1 : Int) (F : Fr) (w : World) => F 1 = v1 ∧ F 5 = (.int .i64 s_l1) ∧ Hp w0 [Ent.snap w0 w0.heap.size] w) (fun o => outc o (fun x => some x) (fun s => M.spec_IsRatings_a1 s) = some r) ho103 hm ⟨f11, rfl, hL⟩ ?_ ?_
      · intro s_l1 F104 wd105 hJ hm
        have hm : M.spec_IsRatings_a1 s_l1 = some r := hm
        unfold M.spec_IsRatings_a1 at hm
        obtain ⟨f106, f107, hL⟩ := hJ
        refine CW.seq ?_
        refine CW.regionL ?_
        refine OW.cons (OP.val (v := (.bool true)) rfl (x_assign) ?_)
        refine OW.nil ?_
        refine CW.ret ?_
        obtain rfl := Option.some.inj hm
        exact RR1 rfl rfl ⟨rfl, hL.fresh 0 rfl [] (by decide) (by decide) rfl⟩
      · intro s_l1 F108 wd109 t100 hJ hm hr101
        unfold M.spec_IsRatings_l1 at hm
        obtain ⟨f110, f111, hL⟩ := hJ
        refine CW.seq ?_
        refine CW.seq ?_
        refine CW.regionL ?_
        refine OW.cons (OP.val (v := (.int .i64 s_l1)) rfl (x_mv f111) ?_)
        refine OW.cons (OP.val (v := v1) rfl (x_mv f110) ?_)
        refine OW.cons (OP.val (v := (.int .i64 (a1.length : Int))) rfl (x_lenR Try.underlying38 rfl (hL.rdS 0 rfl h2)) ?_)
        refine OW.cons (OP.val (v := (.bool (decide (s_l1 < (a1.length : Int))))) rfl (x_lss rfl rfl) ?_)
        refine OW.nil ?_
        refine CW.condM (t := decide (s_l1 < (a1.length : Int))) rfl hm (fun hb112 hm => ?_) (fun hb112 hm => ?_)
        · refine CW.skip ?_
          refine CW.seq ?_
          refine CW.block ?_
          refine CW.seqJ (fun (s_j2 : Bool) (F : Fr) (w : World) => F 1 = v1 ∧ F 5 = (.int .i64 s_l1) ∧ F 36 = (.bool s_j2) ∧ Hp w0 [Ent.snap w0 w0.heap.size] w) (fun s_j2 => M.spec_IsRatings_j2 s_l1 s_j2 = some t100) ?_ ?_
          · refine CW.regionL ?_
            refine OW.cons (OP.val (v := v1) rfl (x_mv f110) ?_)
            refine OW.cons (OP.val (v := (.int .i64 s_l1)) rfl (x_mv f111) ?_)
            obtain ⟨x137, ha138, hm⟩ := bndE hm
            obtain ⟨hz139, ha138⟩ := idxE ha138
            obtain ⟨b140, q141, hix142⟩ := rdL_ix (hL.rdS 0 rfl h2) hz139 ha138
            refine OW.cons (OP.val (v := (.pointer (some ⟨b140, q141, none⟩))) rfl (x_ix Try.underlying38 Try_T67 rfl rfl hix142) ?_)
            refine OW.cons (OP.val (v := (.pointer (some ⟨b140, q141, none⟩))) rfl (x_fieldAddr (fsz := 1) q141 0 q141 Try.underlying67 rfl Try_T2 rfl rfl rfl) ?_)
            refine OW.cons (OP.val (v := (.int .i64 x137.Boat)) rfl (x_load1 Try.underlying2 rfl rfl (rdF_cells (hL.rdS 0 rfl h2) hix142 ha138 0 _ rfl)) ?_)
            refine OW.cons (OP.val (v := (.int .i64 s_l1)) rfl (x_mv f111) ?_)
            refine OW.cons (OP.val (v := (.bool (x137.Boat != s_l1))) rfl (x_neq rfl rfl) ?_)
            refine OW.cons (OP.val (v := (.bool (x137.Boat != s_l1))) rfl (x_move) ?_)
            refine ifB_elim hm (fun hb143 hm => ?_) (fun hb143 hm => ?_)
            · refine OW.cons (OP.no' rfl rfl hb143 rfl ?_)
              refine OW.cons (OP.no' rfl rfl hb143 rfl ?_)
              refine OW.cons (OP.no' rfl rfl hb143 rfl ?_)
              refine OW.cons (OP.no' rfl rfl hb143 rfl ?_)
              refine OW.cons (OP.no' rfl rfl hb143 rfl ?_)
              refine OW.cons (OP.no' rfl rfl hb143 rfl ?_)
              refine OW.cons (OP.no' rfl rfl hb143 rfl ?_)
              refine OW.cons (OP.val (v := (.bool true)) rfl (x_pickT' rfl hb143 rfl) ?_)
              refine OW.nil ?_
              exact ⟨true, hm, ⟨f110, f111, rfl, hL⟩⟩
            · refine OW.cons (OP.yes' rfl rfl hb143 (OP.val (v := v1) rfl (x_mv f110) ?_))
              refine OW.cons (OP.yes' rfl rfl hb143 (OP.val (v := (.int .i64 s_l1)) rfl (x_mv f111) ?_))
              obtain ⟨x144, ha145, hm⟩ := bndE hm
              obtain ⟨hz146, ha145⟩ := idxE ha145
              obtain ⟨b147, q148, hix149⟩ := rdL_ix (hL.rdS 0 rfl h2) hz146 ha145
              refine OW.cons (OP.yes' rfl rfl hb143 (OP.val (v := (.pointer (some ⟨b147, q148, none⟩))) rfl (x_ix Try.underlying38 Try_T67 rfl rfl hix149) ?_))
              refine OW.cons (OP.yes' rfl rfl hb143 (OP.val (v := (.pointer (some ⟨b147, q148 + 1, none⟩))) rfl (x_fieldAddr (fsz := 1) q148 1 (q148 + 1) Try.underlying67 rfl Try_T2 rfl rfl rfl) ?_))
              refine OW.cons (OP.yes' rfl rfl hb143 (OP.val (v := (.int .i64 x144.Value)) rfl (x_load1 Try.underlying2 rfl rfl (rdF_cells (hL.rdS 0 rfl h2) hix149 ha145 1 _ rfl)) ?_))
              obtain ⟨x150, hx151, hm⟩ := bndE hm
              refine OW.cons (OP.yes' rfl rfl hb143 (OP.call rfl (x_call (vs := [(.int .i64 x144.Value)]) Try_C59 ⟨rfl, trivial⟩) (M.spec_l22Factor_ok _ x144.Value hx151) ?_))
              rintro e152 wd153 ⟨rfl, hF154⟩
              refine ⟨_, rfl, ?_⟩
              have hL := hL.pushAll hF154
              simp only [List.cons_append, List.nil_append, List.set_cons_zero, List.set_cons_succ] at hL
              refine OW.cons (OP.yes' rfl rfl hb143 (OP.val (v := (.bool (!x150))) rfl (x_not rfl) ?_))
              refine OW.cons (OP.val (v := (.bool (!x150))) rfl (x_pickF' rfl hb143 rfl) ?_)
              refine OW.nil ?_
              exact ⟨!x150, hm, ⟨f110, f111, rfl, hL⟩⟩
          · intro s_j2 F131 wd132 hJ hm
            unfold M.spec_IsRatings_j2 at hm
            obtain ⟨f133, f134, f135, hL⟩ := hJ
            refine CW.condM (t := s_j2) f135 hm (fun hb136 hm => ?_) (fun hb136 hm => ?_)
            · refine CW.seq ?_
              refine CW.regionL ?_
              refine OW.cons (OP.val (v := (.bool false)) rfl (x_assign) ?_)
              refine OW.nil ?_
              refine CW.ret ?_
              obtain rfl := Option.some.inj hm
              have hm := hr101 _ rfl
              obtain rfl := Option.some.inj hm
              exact RR1 rfl rfl ⟨rfl, hL.fresh 0 rfl [] (by decide) (by decide) rfl⟩
            · refine CW.skip ?_
              refine CW.regionL ?_
              refine OW.cons (OP.val (v := (.int .i64 s_l1)) rfl (x_mv f134) ?_)
              refine OW.cons (OP.val (v := (.int .i64 (w64 (s_l1 + 1)))) rfl (x_add rfl rfl) ?_)
              refine OW.cons (OP.val (v := (.int .i64 (w64 (s_l1 + 1)))) rfl (x_assign) ?_)
              refine OW.nil ?_
              obtain rfl := Option.some.inj hm
              exact ⟨_, rfl, ⟨f133, rfl, hL⟩⟩
        · refine CW.exit ?_
          refine XJ.hit ?_
          obtain rfl := Option.some.inj hm
          exact ⟨_, rfl, ⟨f110, f111, hL⟩⟩

theorem M.spec_BoundedBoats_ok (w0 : World) (a0 : ProgressRules) (a1 : Int) (a2 : List Rating) {v1 : Value} (h2 : rdL (· < w0.heap.size) w0 v1 a2) {r : (List Int) × Int} (hm : M.spec_BoundedBoats a0 a1 a2 = some r) :
    Calls Try.prog 19 #[(.agg #[(.int .i64 a0.Gain), (.int .i64 a0.Step), (.int .i64 a0.Low), (.int .i64 a0.High)]), (.int .i64 a1), v1] w0 fun e w' => ∃ (rv0 : Value) (rS0 : Nat → Prop), e = .returned (.tuple #[rv0, (.int .i64 r.2)]) ∧ Fresh w0 w' [Ent.own 2 rS0 rv0 r.1] := by
  unfold M.spec_BoundedBoats at hm
  refine calls_CW (args := [(.agg #[(.int .i64 a0.Gain), (.int .i64 a0.Step), (.int .i64 a0.Low), (.int .i64 a0.High)]), (.int .i64 a1), v1]) Try.func19 rfl rfl rfl ?_
  have hL := Hp.start w0
  refine CW.seq ?_
  refine CW.regionL ?_
  refine OW.cons (S_box (cs := #[(.int .i64 a0.Gain), (.int .i64 a0.Step), (.int .i64 a0.Low), (.int .i64 a0.High)]) hL rfl rfl rfl ?_)
  intro wd3 b4 hL
  refine OW.cons (OP.val (v := (.slice none 0 0)) rfl (x_assign) ?_)
  refine OW.cons (OP.val (v := (.int .i64 0)) rfl (x_assign) ?_)
  refine OW.nil ?_
  refine CW.seq ?_
  refine CW.seq ?_
  refine CW.regionL ?_
  refine OW.cons (OP.val (v := (.agg #[(.int .i64 a0.Gain), (.int .i64 a0.Step), (.int .i64 a0.Low), (.int .i64 a0.High)])) rfl (x_loadN (cs := [(.int .i64 a0.Gain), (.int .i64 a0.Step), (.int .i64 a0.Low), (.int .i64 a0.High)]) Try.underlying25 Try_T25 rfl rfl (hL.cellsB 0 rfl (o := 0) (l := [(.int .i64 a0.Gain), (.int .i64 a0.Step), (.int .i64 a0.Low), (.int .i64 a0.High)]) (by intro j u hj; exact (by simpa using hj)))) ?_)
  obtain ⟨x5, hx6, hm⟩ := bndE hm
  refine OW.cons (OP.call rfl (x_call (vs := [(.agg #[(.int .i64 a0.Gain), (.int .i64 a0.Step), (.int .i64 a0.Low), (.int .i64 a0.High)])]) Try_C58 ⟨rfl, trivial⟩) (M.spec_IsProgress_ok _ a0 hx6) ?_)
  rintro e7 wd8 ⟨rfl, hF9⟩
  refine ⟨_, rfl, ?_⟩
  have hL := hL.pushAll hF9
  simp only [List.cons_append, List.nil_append, List.set_cons_zero, List.set_cons_succ] at hL
  refine OW.cons (OP.val (v := (.bool (!x5))) rfl (x_not rfl) ?_)
  refine OW.nil ?_
  refine CW.condM (t := !x5) rfl hm (fun hb10 hm => ?_) (fun hb10 hm => ?_)
  · refine CW.seq ?_
    refine CW.regionL ?_
    refine OW.cons (OP.val (v := (.slice none 0 0)) rfl (x_assign) ?_)
    refine OW.cons (OP.val (v := (.int .i64 1)) rfl (x_assign) ?_)
    refine OW.nil ?_
    refine CW.ret ?_
    have hL := hL.pushNil Int 2
    obtain rfl := Option.some.inj hm
    exact RR2 rfl rfl rfl ⟨(.slice none 0 0), None_, rfl, hL.fresh 2 rfl [0] (by decide) (by decide) rfl⟩
  · refine CW.skip ?_
    refine CW.seq ?_
    refine CW.seq ?_
    refine CW.regionL ?_
    refine OW.cons (OP.val (v := (.int .i64 a1)) rfl (x_move) ?_)
    refine OW.cons (OP.val (v := v1) rfl (x_move) ?_)
    obtain ⟨x11, hx12, hm⟩ := bndE hm
    refine OW.cons (OP.call rfl (x_call (vs := [(.int .i64 a1), v1]) Try_C62 ⟨rfl, rfl, trivial⟩) (M.spec_IsRatings_ok _ a1 a2 (hL.rdS 1 rfl h2) hx12) ?_)
    rintro e13 wd14 ⟨rfl, hF15⟩
    refine ⟨_, rfl, ?_⟩
    have hL := hL.pushAll hF15
    simp only [List.cons_append, List.nil_append, List.set_cons_zero, List.set_cons_succ] at hL
    refine OW.cons (OP.val (v := (.bool (!x11))) rfl (x_not rfl) ?_)
    refine OW.nil ?_
    refine CW.condM (t := !x11) rfl hm (fun hb16 hm => ?_) (fun hb16 hm => ?_)
    · refine CW.seq ?_
      refine CW.regionL ?_
      refine OW.cons (OP.val (v := (.slice none 0 0)) rfl (x_assign) ?_)
      refine OW.cons (OP.val (v := (.int .i64 2)) rfl (x_assign) ?_)
      refine OW.nil ?_
      refine CW.ret ?_
      have hL := hL.pushNil Int 2
      obtain rfl := Option.some.inj hm
      exact RR2 rfl rfl rfl ⟨(.slice none 0 0), None_, rfl, hL.fresh 2 rfl [0] (by decide) (by decide) rfl⟩
    · refine CW.skip ?_
      refine CW.seq ?_
      refine CW.regionL ?_
      refine OW.cons (S_lit ([] : List Int) hL Try.underlying34 Try_T2 rfl (by decide) (by first | (simp [Instr.fill, madeCells, Value.cells, ev, upd, Flat.enc, Flat.sz]; done) | rfl | kernel_rfl) rfl rfl ?_)
      intro wd17 v18 S19 hL
      refine OW.cons (OP.val (v := v18) rfl (x_assign) ?_)
      refine OW.nil ?_
      refine CW.seq ?_
      refine CW.seq ?_
      refine CW.regionL ?_
      refine OW.cons (OP.val (v := (.int .i64 0)) rfl (x_assign) ?_)
      refine OW.nil ?_
      obtain ⟨o450, ho451, hm⟩ := bndE hm
      refine CW.loopB (fun (s_l1 : (List Int) × Int) (F : Fr) (w : World) => ∃ (v446 : Value) (S447 : Nat → Prop), F 1 = (.int .i64 a1) ∧ F 2 = v1 ∧ F 3 = (.pointer (some ⟨b4, 0, none⟩)) ∧ F 8 = v446 ∧ F 9 = (.int .i64 s_l1.2) ∧ Hp w0 [Ent.own 2 S447 v446 s_l1.1, Ent.blk b4 25 #[(.int .i64 a0.Gain), (.int .i64 a0.Step), (.int .i64 a0.Low), (.int .i64 a0.High)], Ent.snap w0 w0.heap.size] w) (fun o => outc o (fun x => some x) (fun s => M.spec_BoundedBoats_a1 s) = some r) ho451 hm ⟨v18, S19, rfl, rfl, rfl, rfl, rfl, hL⟩ ?_ ?_
      · intro s_l1 F452 wd453 hJ hm
        have hm : M.spec_BoundedBoats_a1 s_l1 = some r := hm
        unfold M.spec_BoundedBoats_a1 at hm
        obtain ⟨v446, S447, f454, f455, f456, f457, f458, hL⟩ := hJ
        refine CW.seq ?_
        refine CW.regionL ?_
        refine OW.cons (OP.val (v := v446) rfl (x_mv f457) ?_)
        refine OW.cons (OP.val (v := v446) rfl (x_assign) ?_)
        refine OW.cons (OP.val (v := (.int .i64 0)) rfl (x_assign) ?_)
        refine OW.nil ?_
        refine CW.ret ?_
        obtain rfl := Option.some.inj hm
        exact RR2 rfl rfl rfl ⟨v446, S447, rfl, hL.fresh 2 rfl [0] (by decide) (by decide) rfl⟩
      · intro s_l1 F459 wd460 t448 hJ hm hr449
        unfold M.spec_BoundedBoats_l1 at hm
        obtain ⟨v446, S447, f461, f462, f463, f464, f465, hL⟩ := hJ
        refine CW.seq ?_
        refine CW.seq ?_
        refine CW.regionL ?_
        refine OW.cons (OP.val (v := (.int .i64 s_l1.2)) rfl (x_mv f465) ?_)
        refine OW.cons (OP.val (v := (.int .i64 a1)) rfl (x_mv f461) ?_)
        refine OW.cons (OP.val (v := (.bool (decide (s_l1.2 < a1)))) rfl (x_lss rfl rfl) ?_)
        refine OW.nil ?_
        refine CW.condM (t := decide (s_l1.2 < a1)) rfl hm (fun hb466 hm => ?_) (fun hb466 hm => ?_)
        · refine CW.skip ?_
          refine CW.seqJ (fun (s_j1 : (List Int)) (F : Fr) (w : World) => ∃ (v568 : Value) (S569 : Nat → Prop), F 1 = (.int .i64 a1) ∧ F 2 = v1 ∧ F 3 = (.pointer (some ⟨b4, 0, none⟩)) ∧ F 8 = v568 ∧ F 9 = (.int .i64 s_l1.2) ∧ Hp w0 [Ent.own 2 S569 v568 s_j1, Ent.blk b4 25 #[(.int .i64 a0.Gain), (.int .i64 a0.Step), (.int .i64 a0.Low), (.int .i64 a0.High)], Ent.snap w0 w0.heap.size] w) (fun s_j1 => M.spec_BoundedBoats_j1 s_l1 s_j1 = some t448) ?_ ?_
          · refine CW.blockJ (fun (s_j2 : (List Int)) (F : Fr) (w : World) => ∃ (v623 : Value) (S624 : Nat → Prop), F 1 = (.int .i64 a1) ∧ F 2 = v1 ∧ F 3 = (.pointer (some ⟨b4, 0, none⟩)) ∧ F 8 = v623 ∧ F 9 = (.int .i64 s_l1.2) ∧ Hp w0 [Ent.own 2 S624 v623 s_j2, Ent.blk b4 25 #[(.int .i64 a0.Gain), (.int .i64 a0.Step), (.int .i64 a0.Low), (.int .i64 a0.High)], Ent.snap w0 w0.heap.size] w) (fun s_j2 => M.spec_BoundedBoats_j2 s_l1 s_j2 = some t448) ?_ ?_
            · refine CW.seqJ (fun (s_j3 : Bool) (F : Fr) (w : World) => F 1 = (.int .i64 a1) ∧ F 2 = v1 ∧ F 3 = (.pointer (some ⟨b4, 0, none⟩)) ∧ F 8 = v446 ∧ F 9 = (.int .i64 s_l1.2) ∧ F 40 = (.bool s_j3) ∧ Hp w0 [Ent.own 2 S447 v446 s_l1.1, Ent.blk b4 25 #[(.int .i64 a0.Gain), (.int .i64 a0.Step), (.int .i64 a0.Low), (.int .i64 a0.High)], Ent.snap w0 w0.heap.size] w) (fun s_j3 => M.spec_BoundedBoats_j3 s_l1 s_j3 = some t448) ?_ ?_
              · refine CW.draw Try_mixed ?_
                have hL := hL.call (Mod.drew _)
                refine DW.pre (fuel := 0) (fin := (((((((((((((((((((Array.replicate 18 false).setIfInBounds 0 true).setIfInBounds 1 true).setIfInBounds 2 true).setIfInBounds 3 true).setIfInBounds 4 true).setIfInBounds 5 true).setIfInBounds 6 true).setIfInBounds 7 true).setIfInBounds 8 true).setIfInBounds 9 true).setIfInBounds 10 true).setIfInBounds 11 true).setIfInBounds 12 true).setIfInBounds 13 true).setIfInBounds 14 true).setIfInBounds 15 true).setIfInBounds 16 true).setIfInBounds 17 true)) (C := fun w' => Mod None_ _ w') [0, 1, 2, 3, 4, 5, 6, 7, 8, 9, 10, 11, 12, 13, 14, 15, 16, 17] (Mod.refl _ _) (by kernel_rfl) (by kernel_rfl) ?_
                refine QW.cons rfl (QP.val (v := v1) rfl (fun w' hm' => x_mv f462) ?_)
                refine QW.cons rfl (QP.val (v := (.int .i64 s_l1.2)) rfl (fun w' hm' => x_mv f465) ?_)
                obtain ⟨x663, ha664, hm⟩ := bndE hm
                obtain ⟨hz665, ha664⟩ := idxE ha664
                obtain ⟨b666, q667, hix668⟩ := rdL_ix (hL.rdS 2 rfl h2) hz665 ha664
                refine QW.cons rfl (QP.val (v := (.pointer (some ⟨b666, q667, none⟩))) rfl (fun w' hm' => x_ix Try.underlying38 Try_T67 rfl rfl hix668) ?_)
                refine QW.cons rfl (QP.val (v := (.pointer (some ⟨b666, q667 + 1, none⟩))) rfl (fun w' hm' => x_fieldAddr (fsz := 1) q667 1 (q667 + 1) Try.underlying67 rfl Try_T2 rfl rfl rfl) ?_)
                refine QW.cons rfl (QP.val (v := (.int .i64 x663.Value)) rfl (fun w' hm' => x_load1 Try.underlying2 rfl rfl (rdF_cells ((hL.call hm').rdS 2 rfl h2) hix668 ha664 1 _ rfl)) ?_)
                refine QW.cons rfl (QP.val (v := (.pointer (some ⟨b4, 2, none⟩))) rfl (fun w' hm' => x_fieldAddr (fsz := 1) 0 2 2 Try.underlying25 rfl Try_T2 rfl f463 rfl) ?_)
                refine QW.cons rfl (QP.val (v := (.int .i64 a0.Low)) rfl (fun w' hm' => x_load1 Try.underlying2 rfl rfl ((hL.call hm').cellB 1 rfl rfl)) ?_)
                refine QW.cons rfl (QP.val (v := (.bool (decide (x663.Value ≤ a0.Low)))) rfl (fun w' hm' => x_leq rfl rfl) ?_)
                refine QW.cons rfl (QP.val (v := (.bool (decide (x663.Value ≤ a0.Low)))) rfl (fun w' hm' => x_move) ?_)
                refine ifB_elim hm (fun hb669 hm => ?_) (fun hb669 hm => ?_)
                · refine QW.cons rfl (QP.no' rfl rfl hb669 rfl ?_)
                  refine QW.cons rfl (QP.no' rfl rfl hb669 rfl ?_)
                  refine QW.cons rfl (QP.no' rfl rfl hb669 rfl ?_)
                  refine QW.cons rfl (QP.no' rfl rfl hb669 rfl ?_)
                  refine QW.cons rfl (QP.no' rfl rfl hb669 rfl ?_)
                  refine QW.cons rfl (QP.no' rfl rfl hb669 rfl ?_)
                  refine QW.cons rfl (QP.no' rfl rfl hb669 rfl ?_)
                  refine QW.cons rfl (QP.no' rfl rfl hb669 rfl ?_)
                  refine QW.cons rfl (QP.val (v := (.bool true)) rfl (fun w' hm' => x_pickT' rfl hb669 rfl) ?_)
                  refine QW.nil ?_
                  intro wd670 hmod
                  have hL := hL.call hmod
                  refine DW.done (by kernel_rfl) ?_
                  exact ⟨true, hm, ⟨f461, f462, f463, f464, f465, rfl, hL⟩⟩
                · refine QW.cons rfl (QP.yes' rfl rfl hb669 (QP.val (v := v1) rfl (fun w' hm' => x_mv f462) ?_))
                  refine QW.cons rfl (QP.yes' rfl rfl hb669 (QP.val (v := (.int .i64 s_l1.2)) rfl (fun w' hm' => x_mv f465) ?_))
                  obtain ⟨x671, ha672, hm⟩ := bndE hm
                  obtain ⟨hz673, ha672⟩ := idxE ha672
                  obtain ⟨b674, q675, hix676⟩ := rdL_ix (hL.rdS 2 rfl h2) hz673 ha672
                  refine QW.cons rfl (QP.yes' rfl rfl hb669 (QP.val (v := (.pointer (some ⟨b674, q675, none⟩))) rfl (fun w' hm' => x_ix Try.underlying38 Try_T67 rfl rfl hix676) ?_))
                  refine QW.cons rfl (QP.yes' rfl rfl hb669 (QP.val (v := (.pointer (some ⟨b674, q675 + 1, none⟩))) rfl (fun w' hm' => x_fieldAddr (fsz := 1) q675 1 (q675 + 1) Try.underlying67 rfl Try_T2 rfl rfl rfl) ?_))
                  refine QW.cons rfl (QP.yes' rfl rfl hb669 (QP.val (v := (.int .i64 x671.Value)) rfl (fun w' hm' => x_load1 Try.underlying2 rfl rfl (rdF_cells ((hL.call hm').rdS 2 rfl h2) hix676 ha672 1 _ rfl)) ?_))
                  refine QW.cons rfl (QP.yes' rfl rfl hb669 (QP.val (v := (.pointer (some ⟨b4, 3, none⟩))) rfl (fun w' hm' => x_fieldAddr (fsz := 1) 0 3 3 Try.underlying25 rfl Try_T2 rfl f463 rfl) ?_))
                  refine QW.cons rfl (QP.yes' rfl rfl hb669 (QP.val (v := (.int .i64 a0.High)) rfl (fun w' hm' => x_load1 Try.underlying2 rfl rfl ((hL.call hm').cellB 1 rfl rfl)) ?_))
                  refine QW.cons rfl (QP.yes' rfl rfl hb669 (QP.val (v := (.bool (decide (a0.High ≤ x671.Value)))) rfl (fun w' hm' => x_geq rfl rfl) ?_))
                  refine QW.cons rfl (QP.val (v := (.bool (decide (a0.High ≤ x671.Value)))) rfl (fun w' hm' => x_pickF' rfl hb669 rfl) ?_)
                  refine QW.nil ?_
                  intro wd677 hmod
                  have hL := hL.call hmod
                  refine DW.done (by kernel_rfl) ?_
                  exact ⟨decide (a0.High ≤ x671.Value), hm, ⟨f461, f462, f463, f464, f465, rfl, hL⟩⟩
              · intro s_j3 F647 wd648 hJ hm
                unfold M.spec_BoundedBoats_j3 at hm
                obtain ⟨f649, f650, f651, f652, f653, f654, hL⟩ := hJ
                refine CW.condM (t := s_j3) f654 hm (fun hb655 hm => ?_) (fun hb655 hm => ?_)
                · refine CW.regionL ?_
                  refine OW.cons (OP.val (v := v446) rfl (x_mv f652) ?_)
                  refine OW.cons (OP.val (v := (.int .i64 s_l1.2)) rfl (x_mv f653) ?_)
                  refine OW.cons (S_lit [s_l1.2] hL Try.underlying34 Try_T2 rfl (by decide) (by first | (simp [Instr.fill, madeCells, Value.cells, ev, upd, Flat.enc, Flat.sz]; done) | rfl | kernel_rfl) rfl rfl ?_)
                  intro wd656 v657 S658 hL
                  obtain ⟨hc659, hm⟩ := chkE hm
                  refine OW.cons (S_append (ys := [s_l1.2]) hL 1 rfl Try.underlying34 Try_T2 rfl rfl rfl (hL.rdO 0 rfl) hc659 (by decide) rfl ?_)
                  intro wd660 v661 S662 hL
                  refine OW.cons (OP.val (v := v661) rfl (x_assign) ?_)
                  refine OW.nil ?_
                  have hL := hL.sel [1, 2, 3] (by decide) rfl
                  exact ⟨s_l1.1 ++ [s_l1.2], hm, ⟨v661, S662, f649, f650, f651, rfl, f653, hL⟩⟩
                · refine CW.skip ?_
                  exact ⟨s_l1.1, hm, ⟨v446, S447, f649, f650, f651, f652, f653, hL⟩⟩
            · intro s_j2 F625 wd626 hJ hm
              unfold M.spec_BoundedBoats_j2 at hm
              obtain ⟨v623, S624, f627, f628, f629, f630, f631, hL⟩ := hJ
              exact ⟨s_j2, hm, ⟨v623, S624, f627, f628, f629, f630, f631, hL⟩⟩
          · intro s_j1 F570 wd571 hJ hm
            unfold M.spec_BoundedBoats_j1 at hm
            obtain ⟨v568, S569, f572, f573, f574, f575, f576, hL⟩ := hJ
            refine CW.regionL ?_
            refine OW.cons (OP.val (v := (.int .i64 s_l1.2)) rfl (x_mv f576) ?_)
            refine OW.cons (OP.val (v := (.int .i64 (w64 (s_l1.2 + 1)))) rfl (x_add rfl rfl) ?_)
            refine OW.cons (OP.val (v := (.int .i64 (w64 (s_l1.2 + 1)))) rfl (x_assign) ?_)
            refine OW.nil ?_
            obtain rfl := Option.some.inj hm
            exact ⟨_, rfl, ⟨v568, S569, f572, f573, f574, f575, rfl, hL⟩⟩
        · refine CW.exit ?_
          refine XJ.hit ?_
          obtain rfl := Option.some.inj hm
          exact ⟨_, rfl, ⟨v446, S447, f461, f462, f463, f464, f465, hL⟩⟩

theorem M.impl_IsRatings_ok (w0 : World) (a0 : Int) (a1 : List Rating) {v1 : Value} (h2 : rdL (· < w0.heap.size) w0 v1 a1) {r : Bool} (hm : M.impl_IsRatings a0 a1 = some r) :
    Calls Try.prog 64 #[(.int .i64 a0), v1] w0 fun e w' => e = .returned (.bool r) ∧ Fresh w0 w' [] := by
  unfold M.impl_IsRatings at hm
  refine calls_CW (args := [(.int .i64 a0), v1]) Try.func64 rfl rfl rfl ?_
  have hL := Hp.start w0
  refine CW.seq ?_
  refine CW.regionL ?_
  refine OW.cons (OP.val (v := (.bool false)) rfl (x_assign) ?_)
  refine OW.nil ?_
  refine CW.seq ?_
  refine CW.seqJ (fun (s_j1 : Bool) (F : Fr) (w : World) => F 1 = v1 ∧ F 15 = (.bool s_j1) ∧ Hp w0 [Ent.snap w0 w0.heap.size] w) (fun s_j1 => M.impl_IsRatings_j1 a1 s_j1 = some r) ?_ ?_
  · refine CW.regionL ?_
    refine OW.cons (OP.val (v := (.int .i64 a0)) rfl (x_move) ?_)
    obtain ⟨x115, hx116, hm⟩ := bndE hm
    refine OW.cons (OP.call rfl (x_call (vs := [(.int .i64 a0), (.int .i64 1), (.int .i64 16)]) Try_C61 ⟨rfl, rfl, rfl, trivial⟩) (M.impl_within_ok _ a0 1 16 hx116) ?_)
    rintro e117 wd118 ⟨rfl, hF119⟩
    refine ⟨_, rfl, ?_⟩
    have hL := hL.pushAll hF119
    simp only [List.cons_append, List.nil_append, List.set_cons_zero, List.set_cons_succ] at hL
    refine OW.cons (OP.val (v := (.bool (!x115))) rfl (x_not rfl) ?_)
    refine OW.cons (OP.val (v := (.bool (!x115))) rfl (x_move) ?_)
    refine ifB_elim hm (fun hb120 hm => ?_) (fun hb120 hm => ?_)
    · refine OW.cons (OP.no' rfl rfl hb120 rfl ?_)
      refine OW.cons (OP.no' rfl rfl hb120 rfl ?_)
      refine OW.cons (OP.no' rfl rfl hb120 rfl ?_)
      refine OW.cons (OP.no' rfl rfl hb120 rfl ?_)
      refine OW.cons (OP.val (v := (.bool true)) rfl (x_pickT' rfl hb120 rfl) ?_)
      refine OW.nil ?_
      exact ⟨true, hm, ⟨rfl, rfl, hL⟩⟩
    · refine OW.cons (OP.yes' rfl rfl hb120 (OP.val (v := v1) rfl (x_move) ?_))
      refine OW.cons (OP.yes' rfl rfl hb120 (OP.val (v := (.int .i64 (a1.length : Int))) rfl (x_lenR Try.underlying38 rfl (hL.rdS 0 rfl h2)) ?_))
      refine OW.cons (OP.yes' rfl rfl hb120 (OP.val (v := (.int .i64 a0)) rfl (x_move) ?_))
      refine OW.cons (OP.yes' rfl rfl hb120 (OP.val (v := (.bool ((a1.length : Int) != a0))) rfl (x_neq rfl rfl) ?_))
      refine OW.cons (OP.val (v := (.bool ((a1.length : Int) != a0))) rfl (x_pickF' rfl hb120 rfl) ?_)
      refine OW.nil ?_
      exact ⟨(a1.length : Int) != a0, hm, ⟨rfl, rfl, hL⟩⟩
  · intro s_j1 F9 wd10 hJ hm
    unfold M.impl_IsRatings_j1 at hm
    obtain ⟨f11, f12, hL⟩ := hJ
    refine CW.condM (t := s_j1) f12 hm (fun hb13 hm => ?_) (fun hb13 hm => ?_)
    · refine CW.seq ?_
      refine CW.regionL ?_
      refine OW.cons (OP.val (v := (.bool false)) rfl (x_assign) ?_)
      refine OW.nil ?_
      refine CW.ret ?_
      obtain rfl := Option.some.inj hm
      exact RR1 rfl rfl ⟨rfl, hL.fresh 0 rfl [] (by decide) (by decide) rfl⟩
    · refine CW.skip ?_
      refine CW.seq ?_
      refine CW.seq ?_
      refine CW.regionL ?_
      refine OW.cons (OP.val (v := v1) rfl (x_mv f11) ?_)
      refine OW.cons (OP.val (v := (.int .i64 (a1.length : Int))) rfl (x_lenR Try.underlying38 rfl (hL.rdS 0 rfl h2)) ?_)
      refine OW.cons (OP.val (v := (.int .i64 0)) rfl (x_move) ?_)
      refine OW.nil ?_
      obtain ⟨o74, ho75, hm⟩ := bndE hm
      refine CW.loopB (fun (s_l1 : Int) (F : Fr) (w : World) => F 16 = v1 ∧ F 17 = (.int .i64 (a1.length : Int)) ∧ F 18 = (.int .i64 s_l1) ∧ Hp w0 [Ent.snap w0 w0.heap.size] w) (fun o => outc o (fun x => some x) (fun s => M.impl_IsRatings_a1 s) = some r) ho75 hm ⟨rfl, rfl, rfl, hL⟩ ?_ ?_
      · intro s_l1 F76 wd77 hJ hm
        have hm : M.impl_IsRatings_a1 s_l1 = some r := hm
        unfold M.impl_IsRatings_a1 at hm
        obtain ⟨f78, f79, f80, hL⟩ := hJ
        refine CW.seq ?_
        refine CW.regionL ?_
        refine OW.cons (OP.val (v := (.bool true)) rfl (x_assign) ?_)
        refine OW.nil ?_
        refine CW.ret ?_
        obtain rfl := Option.some.inj hm
        exact RR1 rfl rfl ⟨rfl, hL.fresh 0 rfl [] (by decide) (by decide) rfl⟩
      · intro s_l1 F81 wd82 t72 hJ hm hr73
        unfold M.impl_IsRatings_l1 at hm
        obtain ⟨f83, f84, f85, hL⟩ := hJ
        refine CW.seq ?_
        refine CW.regionL ?_
        refine OW.cons (OP.val (v := (.bool (decide (s_l1 < (a1.length : Int))))) rfl (x_lss f85 f84) ?_)
        refine OW.nil ?_
        refine CW.seq ?_
        refine CW.condM (t := decide (s_l1 < (a1.length : Int))) rfl hm (fun hb86 hm => ?_) (fun hb86 hm => ?_)
        · refine CW.skip ?_
          refine CW.seq ?_
          refine CW.block ?_
          refine CW.seq ?_
          refine CW.regionL ?_
          refine OW.cons (OP.val (v := (.int .i64 s_l1)) rfl (x_mv f85) ?_)
          obtain ⟨x87, ha88, hm⟩ := bndE hm
          obtain ⟨hz89, ha88⟩ := idxE ha88
          obtain ⟨b90, q91, hix92⟩ := rdL_ix (hL.rdS 0 rfl h2) hz89 ha88
          refine OW.cons (OP.val (v := (.pointer (some ⟨b90, q91, none⟩))) rfl (x_ix Try.underlying38 Try_T67 f83 f85 hix92) ?_)
          refine OW.cons (OP.val (v := (.agg #[(.int .i64 x87.Boat), (.int .i64 x87.Value)])) rfl (x_loadN (cs := [(.int .i64 x87.Boat), (.int .i64 x87.Value)]) Try.underlying67 Try_T67 rfl rfl (rdF_cells (hL.rdS 0 rfl h2) hix92 ha88)) ?_)
          refine OW.cons (S_alloc (cs := #[(.int .i64 0), (.int .i64 0)]) hL Try_T67 rfl rfl ?_)
          intro wd93 b94 hL
          refine OW.cons (OP.val (v := (.int .i64 s_l1)) rfl (x_assign) ?_)
          refine OW.cons (S_storeN (l := [(.int .i64 x87.Boat), (.int .i64 x87.Value)]) (cs' := #[(.int .i64 x87.Boat), (.int .i64 x87.Value)]) hL 0 rfl Try_T67 rfl rfl (by simp [Value.oneCell']) rfl (by decide) rfl ?_)
          intro wd95 hL
          refine OW.nil ?_
          refine CW.seqJ (fun (s_j2 : Bool) (F : Fr) (w : World) => F 16 = v1 ∧ F 17 = (.int .i64 (a1.length : Int)) ∧ F 18 = (.int .i64 s_l1) ∧ F 32 = (.bool s_j2) ∧ Hp w0 [Ent.blk b94 67 #[(.int .i64 x87.Boat), (.int .i64 x87.Value)], Ent.snap w0 w0.heap.size] w) (fun s_j2 => M.impl_IsRatings_j2 s_l1 s_j2 = some t72) ?_ ?_
          · refine CW.regionL ?_
            refine OW.cons (OP.val (v := (.pointer (some ⟨b94, 0, none⟩))) rfl (x_fieldAddr (fsz := 1) 0 0 0 Try.underlying67 rfl Try_T2 rfl rfl rfl) ?_)
            refine OW.cons (OP.val (v := (.int .i64 x87.Boat)) rfl (x_load1 Try.underlying2 rfl rfl (hL.cellB 0 rfl rfl)) ?_)
            refine OW.cons (OP.val (v := (.int .i64 s_l1)) rfl (x_move) ?_)
            refine OW.cons (OP.val (v := (.bool (x87.Boat != s_l1))) rfl (x_neq rfl rfl) ?_)
            refine OW.cons (OP.val (v := (.bool (x87.Boat != s_l1))) rfl (x_move) ?_)
            refine ifB_elim hm (fun hb109 hm => ?_) (fun hb109 hm => ?_)
            · refine OW.cons (OP.no' rfl rfl hb109 rfl ?_)
              refine OW.cons (OP.no' rfl rfl hb109 rfl ?_)
              refine OW.cons (OP.no' rfl rfl hb109 rfl ?_)
              refine OW.cons (OP.no' rfl rfl hb109 rfl ?_)
              refine OW.cons (OP.val (v := (.bool true)) rfl (x_pickT' rfl hb109 rfl) ?_)
              refine OW.nil ?_
              exact ⟨true, hm, ⟨f83, f84, f85, rfl, hL⟩⟩
            · refine OW.cons (OP.yes' rfl rfl hb109 (OP.val (v := (.pointer (some ⟨b94, 1, none⟩))) rfl (x_fieldAddr (fsz := 1) 0 1 1 Try.underlying67 rfl Try_T2 rfl rfl rfl) ?_))
              refine OW.cons (OP.yes' rfl rfl hb109 (OP.val (v := (.int .i64 x87.Value)) rfl (x_load1 Try.underlying2 rfl rfl (hL.cellB 0 rfl rfl)) ?_))
              obtain ⟨x110, hx111, hm⟩ := bndE hm
              refine OW.cons (OP.yes' rfl rfl hb109 (OP.call rfl (x_call (vs := [(.int .i64 x87.Value)]) Try_C56 ⟨rfl, trivial⟩) (M.impl_isFactor_ok _ x87.Value hx111) ?_))
              rintro e112 wd113 ⟨rfl, hF114⟩
              refine ⟨_, rfl, ?_⟩
              have hL := hL.pushAll hF114
              simp only [List.cons_append, List.nil_append, List.set_cons_zero, List.set_cons_succ] at hL
              refine OW.cons (OP.yes' rfl rfl hb109 (OP.val (v := (.bool (!x110))) rfl (x_not rfl) ?_))
              refine OW.cons (OP.val (v := (.bool (!x110))) rfl (x_pickF' rfl hb109 rfl) ?_)
              refine OW.nil ?_
              exact ⟨!x110, hm, ⟨f83, f84, f85, rfl, hL⟩⟩
          · intro s_j2 F102 wd103 hJ hm
            unfold M.impl_IsRatings_j2 at hm
            obtain ⟨f104, f105, f106, f107, hL⟩ := hJ
            refine CW.condM (t := s_j2) f107 hm (fun hb108 hm => ?_) (fun hb108 hm => ?_)
            · refine CW.seq ?_
              refine CW.regionL ?_
              refine OW.cons (OP.val (v := (.bool false)) rfl (x_assign) ?_)
              refine OW.nil ?_
              refine CW.ret ?_
              obtain rfl := Option.some.inj hm
              have hm := hr73 _ rfl
              obtain rfl := Option.some.inj hm
              exact RR1 rfl rfl ⟨rfl, hL.fresh 1 rfl [] (by decide) (by decide) rfl⟩
            · refine CW.skip ?_
              refine CW.regionL ?_
              refine OW.cons (OP.val (v := (.int .i64 (w64 (s_l1 + 1)))) rfl (x_add f106 rfl) ?_)
              refine OW.cons (OP.val (v := (.int .i64 (w64 (s_l1 + 1)))) rfl (x_move) ?_)
              refine OW.nil ?_
              have hL := hL.sel [1] (by decide) rfl
              obtain rfl := Option.some.inj hm
              exact ⟨_, rfl, ⟨f104, f105, rfl, hL⟩⟩
        · refine CW.exit ?_
          refine XJ.hit ?_
          obtain rfl := Option.some.inj hm
          exact ⟨_, rfl, ⟨f83, f84, f85, hL⟩⟩

theorem M.impl_BoundedBoats_ok (w0 : World) (a0 : ProgressRules) (a1 : Int) (a2 : List Rating) {v1 : Value} (h2 : rdL (· < w0.heap.size) w0 v1 a2) {r : (List Int) × Int} (hm : M.impl_BoundedBoats a0 a1 a2 = some r) :
    Calls Try.prog 22 #[(.agg #[(.int .i64 a0.Gain), (.int .i64 a0.Step), (.int .i64 a0.Low), (.int .i64 a0.High)]), (.int .i64 a1), v1] w0 fun e w' => ∃ (rv0 : Value) (rS0 : Nat → Prop), e = .returned (.tuple #[rv0, (.int .i64 r.2)]) ∧ Fresh w0 w' [Ent.own 2 rS0 rv0 r.1] := by
  unfold M.impl_BoundedBoats at hm
  refine calls_CW (args := [(.agg #[(.int .i64 a0.Gain), (.int .i64 a0.Step), (.int .i64 a0.Low), (.int .i64 a0.High)]), (.int .i64 a1), v1]) Try.func22 rfl rfl rfl ?_
  have hL := Hp.start w0
  refine CW.seq ?_
  refine CW.regionL ?_
  refine OW.cons (S_box (cs := #[(.int .i64 a0.Gain), (.int .i64 a0.Step), (.int .i64 a0.Low), (.int .i64 a0.High)]) hL rfl rfl rfl ?_)
  intro wd3 b4 hL
  refine OW.cons (OP.val (v := (.slice none 0 0)) rfl (x_assign) ?_)
  refine OW.cons (OP.val (v := (.int .i64 0)) rfl (x_assign) ?_)
  refine OW.nil ?_
  refine CW.seq ?_
  refine CW.seq ?_
  refine CW.regionL ?_
  refine OW.cons (OP.val (v := (.agg #[(.int .i64 a0.Gain), (.int .i64 a0.Step), (.int .i64 a0.Low), (.int .i64 a0.High)])) rfl (x_loadN (cs := [(.int .i64 a0.Gain), (.int .i64 a0.Step), (.int .i64 a0.Low), (.int .i64 a0.High)]) Try.underlying25 Try_T25 rfl rfl (hL.cellsB 0 rfl (o := 0) (l := [(.int .i64 a0.Gain), (.int .i64 a0.Step), (.int .i64 a0.Low), (.int .i64 a0.High)]) (by intro j u hj; exact (by simpa using hj)))) ?_)
  obtain ⟨x5, hx6, hm⟩ := bndE hm
  refine OW.cons (OP.call rfl (x_call (vs := [(.agg #[(.int .i64 a0.Gain), (.int .i64 a0.Step), (.int .i64 a0.Low), (.int .i64 a0.High)])]) Try_C17 ⟨rfl, trivial⟩) (M.impl_IsProgress_ok _ a0 hx6) ?_)
  rintro e7 wd8 ⟨rfl, hF9⟩
  refine ⟨_, rfl, ?_⟩
  have hL := hL.pushAll hF9
  simp only [List.cons_append, List.nil_append, List.set_cons_zero, List.set_cons_succ] at hL
  refine OW.cons (OP.val (v := (.bool (!x5))) rfl (x_not rfl) ?_)
  refine OW.nil ?_
  refine CW.condM (t := !x5) rfl hm (fun hb10 hm => ?_) (fun hb10 hm => ?_)
  · refine CW.seq ?_
    refine CW.regionL ?_
    refine OW.cons (OP.val (v := (.slice none 0 0)) rfl (x_assign) ?_)
    refine OW.cons (OP.val (v := (.int .i64 1)) rfl (x_assign) ?_)
    refine OW.nil ?_
    refine CW.ret ?_
    have hL := hL.pushNil Int 2
    obtain rfl := Option.some.inj hm
    exact RR2 rfl rfl rfl ⟨(.slice none 0 0), None_, rfl, hL.fresh 2 rfl [0] (by decide) (by decide) rfl⟩
  · refine CW.skip ?_
    refine CW.seq ?_
    refine CW.seq ?_
    refine CW.regionL ?_
    refine OW.cons (OP.val (v := (.int .i64 a1)) rfl (x_move) ?_)
    refine OW.cons (OP.val (v := v1) rfl (x_move) ?_)
    obtain ⟨x11, hx12, hm⟩ := bndE hm
    refine OW.cons (OP.call rfl (x_call (vs := [(.int .i64 a1), v1]) Try_C64 ⟨rfl, rfl, trivial⟩) (M.impl_IsRatings_ok _ a1 a2 (hL.rdS 1 rfl h2) hx12) ?_)
    rintro e13 wd14 ⟨rfl, hF15⟩
    refine ⟨_, rfl, ?_⟩
    have hL := hL.pushAll hF15
    simp only [List.cons_append, List.nil_append, List.set_cons_zero, List.set_cons_succ] at hL
    refine OW.cons (OP.val (v := (.bool (!x11))) rfl (x_not rfl) ?_)
    refine OW.nil ?_
    refine CW.condM (t := !x11) rfl hm (fun hb16 hm => ?_) (fun hb16 hm => ?_)
    · refine CW.seq ?_
      refine CW.regionL ?_
      refine OW.cons (OP.val (v := (.slice none 0 0)) rfl (x_assign) ?_)
      refine OW.cons (OP.val (v := (.int .i64 2)) rfl (x_assign) ?_)
      refine OW.nil ?_
      refine CW.ret ?_
      have hL := hL.pushNil Int 2
      obtain rfl := Option.some.inj hm
      exact RR2 rfl rfl rfl ⟨(.slice none 0 0), None_, rfl, hL.fresh 2 rfl [0] (by decide) (by decide) rfl⟩
    · refine CW.skip ?_
      refine CW.seq ?_
      refine CW.regionL ?_
      refine OW.cons (S_lit ([] : List Int) hL Try.underlying34 Try_T2 rfl (by decide) (by first | (simp [Instr.fill, madeCells, Value.cells, ev, upd, Flat.enc, Flat.sz]; done) | rfl | kernel_rfl) rfl rfl ?_)
      intro wd17 v18 S19 hL
      refine OW.cons (OP.val (v := v18) rfl (x_assign) ?_)
      refine OW.nil ?_
      refine CW.seq ?_
      refine CW.seq ?_
      refine CW.regionL ?_
      refine OW.cons (OP.val (v := v1) rfl (x_move) ?_)
      refine OW.cons (OP.val (v := (.int .i64 (a2.length : Int))) rfl (x_lenR Try.underlying38 rfl (hL.rdS 2 rfl h2)) ?_)
      refine OW.cons (OP.val (v := (.int .i64 0)) rfl (x_move) ?_)
      refine OW.nil ?_
      obtain ⟨o306, ho307, hm⟩ := bndE hm
      refine CW.loopB (fun (s_l1 : (List Int) × Int) (F : Fr) (w : World) => ∃ (v302 : Value) (S303 : Nat → Prop), F 3 = (.pointer (some ⟨b4, 0, none⟩)) ∧ F 8 = v302 ∧ F 19 = v1 ∧ F 20 = (.int .i64 (a2.length : Int)) ∧ F 21 = (.int .i64 s_l1.2) ∧ Hp w0 [Ent.own 2 S303 v302 s_l1.1, Ent.blk b4 25 #[(.int .i64 a0.Gain), (.int .i64 a0.Step), (.int .i64 a0.Low), (.int .i64 a0.High)], Ent.snap w0 w0.heap.size] w) (fun o => outc o (fun x => some x) (fun s => M.impl_BoundedBoats_a1 s) = some r) ho307 hm ⟨v18, S19, rfl, rfl, rfl, rfl, rfl, hL⟩ ?_ ?_
      · intro s_l1 F308 wd309 hJ hm
        have hm : M.impl_BoundedBoats_a1 s_l1 = some r := hm
        unfold M.impl_BoundedBoats_a1 at hm
        obtain ⟨v302, S303, f310, f311, f312, f313, f314, hL⟩ := hJ
        refine CW.seq ?_
        refine CW.regionL ?_
        refine OW.cons (OP.val (v := v302) rfl (x_mv f311) ?_)
        refine OW.cons (OP.val (v := v302) rfl (x_assign) ?_)
        refine OW.cons (OP.val (v := (.int .i64 0)) rfl (x_assign) ?_)
        refine OW.nil ?_
        refine CW.ret ?_
        obtain rfl := Option.some.inj hm
        exact RR2 rfl rfl rfl ⟨v302, S303, rfl, hL.fresh 2 rfl [0] (by decide) (by decide) rfl⟩
      · intro s_l1 F315 wd316 t304 hJ hm hr305
        unfold M.impl_BoundedBoats_l1 at hm
        obtain ⟨v302, S303, f317, f318, f319, f320, f321, hL⟩ := hJ
        refine CW.seq ?_
        refine CW.regionL ?_
        refine OW.cons (OP.val (v := (.bool (decide (s_l1.2 < (a2.length : Int))))) rfl (x_lss f321 f320) ?_)
        refine OW.nil ?_
        refine CW.seq ?_
        refine CW.condM (t := decide (s_l1.2 < (a2.length : Int))) rfl hm (fun hb322 hm => ?_) (fun hb322 hm => ?_)
        · refine CW.skip ?_
          refine CW.seqJ (fun (s_j1 : (List Int)) (F : Fr) (w : World) => ∃ (v388 : Value) (S389 : Nat → Prop), F 3 = (.pointer (some ⟨b4, 0, none⟩)) ∧ F 8 = v388 ∧ F 19 = v1 ∧ F 20 = (.int .i64 (a2.length : Int)) ∧ F 21 = (.int .i64 s_l1.2) ∧ Hp w0 [Ent.own 2 S389 v388 s_j1, Ent.blk b4 25 #[(.int .i64 a0.Gain), (.int .i64 a0.Step), (.int .i64 a0.Low), (.int .i64 a0.High)], Ent.snap w0 w0.heap.size] w) (fun s_j1 => M.impl_BoundedBoats_j1 s_l1 s_j1 = some t304) ?_ ?_
          · refine CW.blockJ (fun (s_j2 : (List Int)) (F : Fr) (w : World) => ∃ (v425 : Value) (S426 : Nat → Prop), F 3 = (.pointer (some ⟨b4, 0, none⟩)) ∧ F 8 = v425 ∧ F 19 = v1 ∧ F 20 = (.int .i64 (a2.length : Int)) ∧ F 21 = (.int .i64 s_l1.2) ∧ Hp w0 [Ent.own 2 S426 v425 s_j2, Ent.blk b4 25 #[(.int .i64 a0.Gain), (.int .i64 a0.Step), (.int .i64 a0.Low), (.int .i64 a0.High)], Ent.snap w0 w0.heap.size] w) (fun s_j2 => M.impl_BoundedBoats_j2 s_l1 s_j2 = some t304) ?_ ?_
            · refine CW.seq ?_
              refine CW.regionL ?_
              obtain ⟨x434, ha435, hm⟩ := bndE hm
              obtain ⟨hz436, ha435⟩ := idxE ha435
              obtain ⟨b437, q438, hix439⟩ := rdL_ix (hL.rdS 2 rfl h2) hz436 ha435
              refine OW.cons (OP.val (v := (.pointer (some ⟨b437, q438, none⟩))) rfl (x_ix Try.underlying38 Try_T67 f319 f321 hix439) ?_)
              refine OW.cons (OP.val (v := (.agg #[(.int .i64 x434.Boat), (.int .i64 x434.Value)])) rfl (x_loadN (cs := [(.int .i64 x434.Boat), (.int .i64 x434.Value)]) Try.underlying67 Try_T67 rfl rfl (rdF_cells (hL.rdS 2 rfl h2) hix439 ha435)) ?_)
              refine OW.cons (S_alloc (cs := #[(.int .i64 0), (.int .i64 0)]) hL Try_T67 rfl rfl ?_)
              intro wd440 b441 hL
              refine OW.cons (S_storeN (l := [(.int .i64 x434.Boat), (.int .i64 x434.Value)]) (cs' := #[(.int .i64 x434.Boat), (.int .i64 x434.Value)]) hL 0 rfl Try_T67 rfl rfl (by simp [Value.oneCell']) rfl (by decide) rfl ?_)
              intro wd442 hL
              refine OW.nil ?_
              refine CW.seqJ (fun (s_j3 : Bool) (F : Fr) (w : World) => F 3 = (.pointer (some ⟨b4, 0, none⟩)) ∧ F 8 = v302 ∧ F 10 = (.pointer (some ⟨b441, 0, none⟩)) ∧ F 19 = v1 ∧ F 20 = (.int .i64 (a2.length : Int)) ∧ F 21 = (.int .i64 s_l1.2) ∧ F 36 = (.bool s_j3) ∧ Hp w0 [Ent.blk b441 67 #[(.int .i64 x434.Boat), (.int .i64 x434.Value)], Ent.own 2 S303 v302 s_l1.1, Ent.blk b4 25 #[(.int .i64 a0.Gain), (.int .i64 a0.Step), (.int .i64 a0.Low), (.int .i64 a0.High)], Ent.snap w0 w0.heap.size] w) (fun s_j3 => M.impl_BoundedBoats_j3 s_l1 x434 s_j3 = some t304) ?_ ?_
              · refine CW.regionL ?_
                refine OW.cons (OP.val (v := (.pointer (some ⟨b441, 1, none⟩))) rfl (x_fieldAddr (fsz := 1) 0 1 1 Try.underlying67 rfl Try_T2 rfl rfl rfl) ?_)
                refine OW.cons (OP.val (v := (.int .i64 x434.Value)) rfl (x_load1 Try.underlying2 rfl rfl (hL.cellB 0 rfl rfl)) ?_)
                refine OW.cons (OP.val (v := (.pointer (some ⟨b4, 2, none⟩))) rfl (x_fieldAddr (fsz := 1) 0 2 2 Try.underlying25 rfl Try_T2 rfl f317 rfl) ?_)
                refine OW.cons (OP.val (v := (.int .i64 a0.Low)) rfl (x_load1 Try.underlying2 rfl rfl (hL.cellB 2 rfl rfl)) ?_)
                refine OW.cons (OP.val (v := (.bool (decide (x434.Value ≤ a0.Low)))) rfl (x_leq rfl rfl) ?_)
                refine OW.cons (OP.val (v := (.bool (decide (x434.Value ≤ a0.Low)))) rfl (x_move) ?_)
                refine ifB_elim hm (fun hb461 hm => ?_) (fun hb461 hm => ?_)
                · refine OW.cons (OP.no' rfl rfl hb461 rfl ?_)
                  refine OW.cons (OP.no' rfl rfl hb461 rfl ?_)
                  refine OW.cons (OP.no' rfl rfl hb461 rfl ?_)
                  refine OW.cons (OP.no' rfl rfl hb461 rfl ?_)
                  refine OW.cons (OP.no' rfl rfl hb461 rfl ?_)
                  refine OW.cons (OP.val (v := (.bool true)) rfl (x_pickT' rfl hb461 rfl) ?_)
                  refine OW.nil ?_
                  exact ⟨true, hm, ⟨f317, f318, rfl, f319, f320, f321, rfl, hL⟩⟩
                · refine OW.cons (OP.yes' rfl rfl hb461 (OP.val (v := (.pointer (some ⟨b441, 1, none⟩))) rfl (x_fieldAddr (fsz := 1) 0 1 1 Try.underlying67 rfl Try_T2 rfl rfl rfl) ?_))
                  refine OW.cons (OP.yes' rfl rfl hb461 (OP.val (v := (.int .i64 x434.Value)) rfl (x_load1 Try.underlying2 rfl rfl (hL.cellB 0 rfl rfl)) ?_))
                  refine OW.cons (OP.yes' rfl rfl hb461 (OP.val (v := (.pointer (some ⟨b4, 3, none⟩))) rfl (x_fieldAddr (fsz := 1) 0 3 3 Try.underlying25 rfl Try_T2 rfl f317 rfl) ?_))
                  refine OW.cons (OP.yes' rfl rfl hb461 (OP.val (v := (.int .i64 a0.High)) rfl (x_load1 Try.underlying2 rfl rfl (hL.cellB 2 rfl rfl)) ?_))
                  refine OW.cons (OP.yes' rfl rfl hb461 (OP.val (v := (.bool (decide (a0.High ≤ x434.Value)))) rfl (x_geq rfl rfl) ?_))
                  refine OW.cons (OP.val (v := (.bool (decide (a0.High ≤ x434.Value)))) rfl (x_pickF' rfl hb461 rfl) ?_)
                  refine OW.nil ?_
                  exact ⟨decide (a0.High ≤ x434.Value), hm, ⟨f317, f318, rfl, f319, f320, f321, rfl, hL⟩⟩
              · intro s_j3 F444 wd445 hJ hm
                unfold M.impl_BoundedBoats_j3 at hm
                obtain ⟨f446, f447, f448, f449, f450, f451, f452, hL⟩ := hJ
                refine CW.condM (t := s_j3) f452 hm (fun hb453 hm => ?_) (fun hb453 hm => ?_)
                · refine CW.regionL ?_
                  refine OW.cons (OP.val (v := v302) rfl (x_mv f447) ?_)
                  refine OW.cons (OP.val (v := (.pointer (some ⟨b441, 0, none⟩))) rfl (x_fieldAddr (fsz := 1) 0 0 0 Try.underlying67 rfl Try_T2 rfl f448 rfl) ?_)
                  refine OW.cons (OP.val (v := (.int .i64 x434.Boat)) rfl (x_load1 Try.underlying2 rfl rfl (hL.cellB 0 rfl rfl)) ?_)
                  refine OW.cons (S_lit [x434.Boat] hL Try.underlying34 Try_T2 rfl (by decide) (by first | (simp [Instr.fill, madeCells, Value.cells, ev, upd, Flat.enc, Flat.sz]; done) | rfl | kernel_rfl) rfl rfl ?_)
                  intro wd454 v455 S456 hL
                  obtain ⟨hc457, hm⟩ := chkE hm
                  refine OW.cons (S_append (ys := [x434.Boat]) hL 2 rfl Try.underlying34 Try_T2 rfl rfl rfl (hL.rdO 0 rfl) hc457 (by decide) rfl ?_)
                  intro wd458 v459 S460 hL
                  refine OW.cons (OP.val (v := v459) rfl (x_assign) ?_)
                  refine OW.nil ?_
                  have hL := hL.sel [2, 3, 4] (by decide) rfl
                  exact ⟨s_l1.1 ++ [x434.Boat], hm, ⟨v459, S460, f446, rfl, f449, f450, f451, hL⟩⟩
                · refine CW.skip ?_
                  have hL := hL.sel [1, 2, 3] (by decide) rfl
                  exact ⟨s_l1.1, hm, ⟨v302, S303, f446, f447, f449, f450, f451, hL⟩⟩
            · intro s_j2 F427 wd428 hJ hm
              unfold M.impl_BoundedBoats_j2 at hm
              obtain ⟨v425, S426, f429, f430, f431, f432, f433, hL⟩ := hJ
              exact ⟨s_j2, hm, ⟨v425, S426, f429, f430, f431, f432, f433, hL⟩⟩
          · intro s_j1 F390 wd391 hJ hm
            unfold M.impl_BoundedBoats_j1 at hm
            obtain ⟨v388, S389, f392, f393, f394, f395, f396, hL⟩ := hJ
            refine CW.regionL ?_
            refine OW.cons (OP.val (v := (.int .i64 (w64 (s_l1.2 + 1)))) rfl (x_add f396 rfl) ?_)
            refine OW.cons (OP.val (v := (.int .i64 (w64 (s_l1.2 + 1)))) rfl (x_move) ?_)
            refine OW.nil ?_
            obtain rfl := Option.some.inj hm
            exact ⟨_, rfl, ⟨v388, S389, f392, f393, f394, f395, rfl, hL⟩⟩
        · refine CW.exit ?_
          refine XJ.hit ?_
          obtain rfl := Option.some.inj hm
          exact ⟨_, rfl, ⟨v302, S303, f317, f318, f319, f320, f321, hL⟩⟩

theorem M.laws_eqInt64S_ok (w0 : World) (a0 : List Int) {v1 : Value} (h2 : rdL (· < w0.heap.size) w0 v1 a0) (a1 : List Int) {v3 : Value} (h4 : rdL (· < w0.heap.size) w0 v3 a1) {r : Bool} (hm : M.laws_eqInt64S a0 a1 = some r) :
    Calls Try.prog 23 #[v1, v3] w0 fun e w' => e = .returned (.bool r) ∧ Fresh w0 w' [] := by
  unfold M.laws_eqInt64S at hm
  refine calls_CW (args := [v1, v3]) Try.func23 rfl rfl rfl ?_
  have hL := Hp.start w0
  refine CW.seq ?_
  refine CW.regionL ?_
  refine OW.cons (OP.val (v := (.bool false)) rfl (x_assign) ?_)
  refine OW.nil ?_
  refine CW.seq ?_
  refine CW.seq ?_
  refine CW.regionL ?_
  refine OW.cons (OP.val (v := v1) rfl (x_move) ?_)
  refine OW.cons (OP.val (v := (.int .i64 (a0.length : Int))) rfl (x_lenR Try.underlying34 rfl (hL.rdS 0 rfl h2)) ?_)
  refine OW.cons (OP.val (v := v3) rfl (x_move) ?_)
  refine OW.cons (OP.val (v := (.int .i64 (a1.length : Int))) rfl (x_lenR Try.underlying34 rfl (hL.rdS 0 rfl h4)) ?_)
  refine OW.cons (OP.val (v := (.bool ((a0.length : Int) != (a1.length : Int)))) rfl (x_neq rfl rfl) ?_)
  refine OW.nil ?_
  refine CW.condM (t := (a0.length : Int) != (a1.length : Int)) rfl hm (fun hb5 hm => ?_) (fun hb5 hm => ?_)
  · refine CW.seq ?_
    refine CW.regionL ?_
    refine OW.cons (OP.val (v := (.bool false)) rfl (x_assign) ?_)
    refine OW.nil ?_
    refine CW.ret ?_
    obtain rfl := Option.some.inj hm
    exact RR1 rfl rfl ⟨rfl, hL.fresh 0 rfl [] (by decide) (by decide) rfl⟩
  · refine CW.skip ?_
    refine CW.seq ?_
    refine CW.seq ?_
    refine CW.regionL ?_
    refine OW.cons (OP.val (v := (.int .i64 0)) rfl (x_assign) ?_)
    refine OW.nil ?_
    obtain ⟨o38, ho39, hm⟩ := bndE hm
    refine CW.loopB (fun (s_l1 : Int) (F : Fr) (w : World) => F 0 = v1 ∧ F 1 = v3 ∧ F 5 = (.int .i64 s_l1) ∧ Hp w0 [Ent.snap w0 w0.heap.size] w) (fun o => outc o (fun x => some x) (fun s => M.laws_eqInt64S_a1 s) = some r) ho39 hm ⟨rfl, rfl, rfl, hL⟩ ?_ ?_
    · intro s_l1 F40 wd41 hJ hm
      have hm : M.laws_eqInt64S_a1 s_l1 = some r := hm
      unfold M.laws_eqInt64S_a1 at hm
      obtain ⟨f42, f43, f44, hL⟩ := hJ
      refine CW.seq ?_
      refine CW.regionL ?_
      refine OW.cons (OP.val (v := (.bool true)) rfl (x_assign) ?_)
      refine OW.nil ?_
      refine CW.ret ?_
      obtain rfl := Option.some.inj hm
      exact RR1 rfl rfl ⟨rfl, hL.fresh 0 rfl [] (by decide) (by decide) rfl⟩
    · intro s_l1 F45 wd46 t36 hJ hm hr37
      unfold M.laws_eqInt64S_l1 at hm
      obtain ⟨f47, f48, f49, hL⟩ := hJ
      refine CW.seq ?_
      refine CW.seq ?_
      refine CW.regionL ?_
      refine OW.cons (OP.val (v := (.int .i64 s_l1)) rfl (x_mv f49) ?_)
      refine OW.cons (OP.val (v := v1) rfl (x_mv f47) ?_)
      refine OW.cons (OP.val (v := (.int .i64 (a0.length : Int))) rfl (x_lenR Try.underlying34 rfl (hL.rdS 0 rfl h2)) ?_)
      refine OW.cons (OP.val (v := (.bool (decide (s_l1 < (a0.length : Int))))) rfl (x_lss rfl rfl) ?_)
      refine OW.nil ?_
      refine CW.condM (t := decide (s_l1 < (a0.length : Int))) rfl hm (fun hb50 hm => ?_) (fun hb50 hm => ?_)
      · refine CW.skip ?_
        refine CW.seq ?_
        refine CW.block ?_
        refine CW.seq ?_
        refine CW.draw Try_mixed ?_
        have hL := hL.call (Mod.drew _)
        refine DW.pre (fuel := 0) (fin := ((((((((((Array.replicate 9 false).setIfInBounds 0 true).setIfInBounds 1 true).setIfInBounds 2 true).setIfInBounds 3 true).setIfInBounds 4 true).setIfInBounds 5 true).setIfInBounds 6 true).setIfInBounds 7 true).setIfInBounds 8 true)) (C := fun w' => Mod None_ _ w') [0, 1, 2, 3, 4, 5, 6, 7, 8] (Mod.refl _ _) (by kernel_rfl) (by kernel_rfl) ?_
        refine QW.cons rfl (QP.val (v := v1) rfl (fun w' hm' => x_mv f47) ?_)
        refine QW.cons rfl (QP.val (v := (.int .i64 s_l1)) rfl (fun w' hm' => x_mv f49) ?_)
        obtain ⟨x51, ha52, hm⟩ := bndE hm
        obtain ⟨hz53, ha52⟩ := idxE ha52
        obtain ⟨b54, q55, hix56⟩ := rdL_ix (hL.rdS 0 rfl h2) hz53 ha52
        refine QW.cons rfl (QP.val (v := (.pointer (some ⟨b54, q55, none⟩))) rfl (fun w' hm' => x_ix Try.underlying34 Try_T2 rfl rfl hix56) ?_)
        refine QW.cons rfl (QP.val (v := (.int .i64 x51)) rfl (fun w' hm' => x_load1 Try.underlying2 rfl rfl (rdF_cells ((hL.call hm').rdS 0 rfl h2) hix56 ha52 0 _ rfl)) ?_)
        refine QW.cons rfl (QP.val (v := v3) rfl (fun w' hm' => x_mv f48) ?_)
        refine QW.cons rfl (QP.val (v := (.int .i64 s_l1)) rfl (fun w' hm' => x_mv f49) ?_)
        obtain ⟨x57, ha58, hm⟩ := bndE hm
        obtain ⟨hz59, ha58⟩ := idxE ha58
        obtain ⟨b60, q61, hix62⟩ := rdL_ix (hL.rdS 0 rfl h4) hz59 ha58
        refine QW.cons rfl (QP.val (v := (.pointer (some ⟨b60, q61, none⟩))) rfl (fun w' hm' => x_ix Try.underlying34 Try_T2 rfl rfl hix62) ?_)
        refine QW.cons rfl (QP.val (v := (.int .i64 x57)) rfl (fun w' hm' => x_load1 Try.underlying2 rfl rfl (rdF_cells ((hL.call hm').rdS 0 rfl h4) hix62 ha58 0 _ rfl)) ?_)
        refine QW.cons rfl (QP.val (v := (.bool (x51 != x57))) rfl (fun w' hm' => x_neq rfl rfl) ?_)
        refine QW.nil ?_
        intro wd63 hmod
        have hL := hL.call hmod
        refine DW.done (by kernel_rfl) ?_
        refine CW.condM (t := x51 != x57) rfl hm (fun hb64 hm => ?_) (fun hb64 hm => ?_)
        · refine CW.seq ?_
          refine CW.regionL ?_
          refine OW.cons (OP.val (v := (.bool false)) rfl (x_assign) ?_)
          refine OW.nil ?_
          refine CW.ret ?_
          obtain rfl := Option.some.inj hm
          have hm := hr37 _ rfl
          obtain rfl := Option.some.inj hm
          exact RR1 rfl rfl ⟨rfl, hL.fresh 0 rfl [] (by decide) (by decide) rfl⟩
        · refine CW.skip ?_
          refine CW.regionL ?_
          refine OW.cons (OP.val (v := (.int .i64 s_l1)) rfl (x_mv f49) ?_)
          refine OW.cons (OP.val (v := (.int .i64 (w64 (s_l1 + 1)))) rfl (x_add rfl rfl) ?_)
          refine OW.cons (OP.val (v := (.int .i64 (w64 (s_l1 + 1)))) rfl (x_assign) ?_)
          refine OW.nil ?_
          obtain rfl := Option.some.inj hm
          exact ⟨_, rfl, ⟨f47, f48, rfl, hL⟩⟩
      · refine CW.exit ?_
        refine XJ.hit ?_
        obtain rfl := Option.some.inj hm
        exact ⟨_, rfl, ⟨f47, f48, f49, hL⟩⟩

theorem M.laws_eqRating_ok (w0 : World) (a0 : Rating) (a1 : Rating) {r : Bool} (hm : M.laws_eqRating a0 a1 = some r) :
    Calls Try.prog 65 #[(.agg #[(.int .i64 a0.Boat), (.int .i64 a0.Value)]), (.agg #[(.int .i64 a1.Boat), (.int .i64 a1.Value)])] w0 fun e w' => e = .returned (.bool r) ∧ Fresh w0 w' [] := by
  unfold M.laws_eqRating at hm
  refine calls_CW (args := [(.agg #[(.int .i64 a0.Boat), (.int .i64 a0.Value)]), (.agg #[(.int .i64 a1.Boat), (.int .i64 a1.Value)])]) Try.func65 rfl rfl rfl ?_
  have hL := Hp.start w0
  refine CW.seq ?_
  refine CW.regionL ?_
  refine OW.cons (S_box (cs := #[(.int .i64 a0.Boat), (.int .i64 a0.Value)]) hL rfl rfl rfl ?_)
  intro wd1 b2 hL
  refine OW.cons (S_box (cs := #[(.int .i64 a1.Boat), (.int .i64 a1.Value)]) hL rfl rfl rfl ?_)
  intro wd3 b4 hL
  refine OW.cons (OP.val (v := (.bool false)) rfl (x_assign) ?_)
  refine OW.nil ?_
  refine CW.seq ?_
  refine CW.seq ?_
  refine CW.regionL ?_
  refine OW.cons (OP.val (v := (.pointer (some ⟨b2, 0, none⟩))) rfl (x_fieldAddr (fsz := 1) 0 0 0 Try.underlying67 rfl Try_T2 rfl rfl rfl) ?_)
  refine OW.cons (OP.val (v := (.int .i64 a0.Boat)) rfl (x_load1 Try.underlying2 rfl rfl (hL.cellB 1 rfl rfl)) ?_)
  refine OW.cons (OP.val (v := (.pointer (some ⟨b4, 0, none⟩))) rfl (x_fieldAddr (fsz := 1) 0 0 0 Try.underlying67 rfl Try_T2 rfl rfl rfl) ?_)
  refine OW.cons (OP.val (v := (.int .i64 a1.Boat)) rfl (x_load1 Try.underlying2 rfl rfl (hL.cellB 0 rfl rfl)) ?_)
  refine OW.cons (OP.val (v := (.bool (a0.Boat != a1.Boat))) rfl (x_neq rfl rfl) ?_)
  refine OW.nil ?_
  refine CW.condM (t := a0.Boat != a1.Boat) rfl hm (fun hb5 hm => ?_) (fun hb5 hm => ?_)
  · refine CW.seq ?_
    refine CW.regionL ?_
    refine OW.cons (OP.val (v := (.bool false)) rfl (x_assign) ?_)
    refine OW.nil ?_
    refine CW.ret ?_
    obtain rfl := Option.some.inj hm
    exact RR1 rfl rfl ⟨rfl, hL.fresh 2 rfl [] (by decide) (by decide) rfl⟩
  · refine CW.skip ?_
    refine CW.seq ?_
    refine CW.seq ?_
    refine CW.regionL ?_
    refine OW.cons (OP.val (v := (.pointer (some ⟨b2, 1, none⟩))) rfl (x_fieldAddr (fsz := 1) 0 1 1 Try.underlying67 rfl Try_T2 rfl rfl rfl) ?_)
    refine OW.cons (OP.val (v := (.int .i64 a0.Value)) rfl (x_load1 Try.underlying2 rfl rfl (hL.cellB 1 rfl rfl)) ?_)
    refine OW.cons (OP.val (v := (.pointer (some ⟨b4, 1, none⟩))) rfl (x_fieldAddr (fsz := 1) 0 1 1 Try.underlying67 rfl Try_T2 rfl rfl rfl) ?_)
    refine OW.cons (OP.val (v := (.int .i64 a1.Value)) rfl (x_load1 Try.underlying2 rfl rfl (hL.cellB 0 rfl rfl)) ?_)
    refine OW.cons (OP.val (v := (.bool (a0.Value != a1.Value))) rfl (x_neq rfl rfl) ?_)
    refine OW.nil ?_
    refine CW.condM (t := a0.Value != a1.Value) rfl hm (fun hb6 hm => ?_) (fun hb6 hm => ?_)
    · refine CW.seq ?_
      refine CW.regionL ?_
      refine OW.cons (OP.val (v := (.bool false)) rfl (x_assign) ?_)
      refine OW.nil ?_
      refine CW.ret ?_
      obtain rfl := Option.some.inj hm
      exact RR1 rfl rfl ⟨rfl, hL.fresh 2 rfl [] (by decide) (by decide) rfl⟩
    · refine CW.skip ?_
      refine CW.seq ?_
      refine CW.regionL ?_
      refine OW.cons (OP.val (v := (.bool true)) rfl (x_assign) ?_)
      refine OW.nil ?_
      refine CW.ret ?_
      obtain rfl := Option.some.inj hm
      exact RR1 rfl rfl ⟨rfl, hL.fresh 2 rfl [] (by decide) (by decide) rfl⟩

theorem M.laws_eqRatingS_ok (w0 : World) (a0 : List Rating) {v1 : Value} (h2 : rdL (· < w0.heap.size) w0 v1 a0) (a1 : List Rating) {v3 : Value} (h4 : rdL (· < w0.heap.size) w0 v3 a1) {r : Bool} (hm : M.laws_eqRatingS a0 a1 = some r) :
    Calls Try.prog 24 #[v1, v3] w0 fun e w' => e = .returned (.bool r) ∧ Fresh w0 w' [] := by
  unfold M.laws_eqRatingS at hm
  refine calls_CW (args := [v1, v3]) Try.func24 rfl rfl rfl ?_
  have hL := Hp.start w0
  refine CW.seq ?_
  refine CW.regionL ?_
  refine OW.cons (OP.val (v := (.bool false)) rfl (x_assign) ?_)
  refine OW.nil ?_
  refine CW.seq ?_
  refine CW.seq ?_
  refine CW.regionL ?_
  refine OW.cons (OP.val (v := v1) rfl (x_move) ?_)
  refine OW.cons (OP.val (v := (.int .i64 (a0.length : Int))) rfl (x_lenR Try.underlying38 rfl (hL.rdS 0 rfl h2)) ?_)
  refine OW.cons (OP.val (v := v3) rfl (x_move) ?_)
  refine OW.cons (OP.val (v := (.int .i64 (a1.length : Int))) rfl (x_lenR Try.underlying38 rfl (hL.rdS 0 rfl h4)) ?_)
  refine OW.cons (OP.val (v := (.bool ((a0.length : Int) != (a1.length : Int)))) rfl (x_neq rfl rfl) ?_)
  refine OW.nil ?_
  refine CW.condM (t := (a0.length : Int) != (a1.length : Int)) rfl hm (fun hb5 hm => ?_) (fun hb5 hm => ?_)
  · refine CW.seq ?_
    refine CW.regionL ?_
    refine OW.cons (OP.val (v := (.bool false)) rfl (x_assign) ?_)
    refine OW.nil ?_
    refine CW.ret ?_
    obtain rfl := Option.some.inj hm
    exact RR1 rfl rfl ⟨rfl, hL.fresh 0 rfl [] (by decide) (by decide) rfl⟩
  · refine CW.skip ?_
    refine CW.seq ?_
    refine CW.seq ?_
    refine CW.regionL ?_
    refine OW.cons (OP.val (v := (.int .i64 0)) rfl (x_assign) ?_)
    refine OW.nil ?_
    obtain ⟨o42, ho43, hm⟩ := bndE hm
    refine CW.loopB (fun (s_l1 : Int) (F : Fr) (w : World) => F 0 = v1 ∧ F 1 = v3 ∧ F 5 = (.int .i64 s_l1) ∧ Hp w0 [Ent.snap w0 w0.heap.size] w) (fun o => outc o (fun x => some x) (fun s => M.laws_eqRatingS_a1 s) = some r) ho43 hm ⟨rfl, rfl, rfl, hL⟩ ?_ ?_
    · intro s_l1 F44 wd45 hJ hm
      have hm : M.laws_eqRatingS_a1 s_l1 = some r := hm
      unfold M.laws_eqRatingS_a1 at hm
      obtain ⟨f46, f47, f48, hL⟩ := hJ
      refine CW.seq ?_
      refine CW.regionL ?_
      refine OW.cons (OP.val (v := (.bool true)) rfl (x_assign) ?_)
      refine OW.nil ?_
      refine CW.ret ?_
      obtain rfl := Option.some.inj hm
      exact RR1 rfl rfl ⟨rfl, hL.fresh 0 rfl [] (by decide) (by decide) rfl⟩
    · intro s_l1 F49 wd50 t40 hJ hm hr41
      unfold M.laws_eqRatingS_l1 at hm
      obtain ⟨f51, f52, f53, hL⟩ := hJ
      refine CW.seq ?_
      refine CW.seq ?_
      refine CW.regionL ?_
      refine OW.cons (OP.val (v := (.int .i64 s_l1)) rfl (x_mv f53) ?_)
      refine OW.cons (OP.val (v := v1) rfl (x_mv f51) ?_)
      refine OW.cons (OP.val (v := (.int .i64 (a0.length : Int))) rfl (x_lenR Try.underlying38 rfl (hL.rdS 0 rfl h2)) ?_)
      refine OW.cons (OP.val (v := (.bool (decide (s_l1 < (a0.length : Int))))) rfl (x_lss rfl rfl) ?_)
      refine OW.nil ?_
      refine CW.condM (t := decide (s_l1 < (a0.length : Int))) rfl hm (fun hb54 hm => ?_) (fun hb54 hm => ?_)
      · refine CW.skip ?_
        refine CW.seq ?_
        refine CW.block ?_
        refine CW.seq ?_
        refine CW.draw Try_mixed ?_
        have hL := hL.call (Mod.drew _)
        refine DW.pre (fuel := 0) (fin := (((((((((((Array.replicate 10 false).setIfInBounds 0 true).setIfInBounds 1 true).setIfInBounds 2 true).setIfInBounds 3 true).setIfInBounds 4 true).setIfInBounds 5 true).setIfInBounds 6 true).setIfInBounds 7 true).setIfInBounds 8 true).setIfInBounds 9 true)) (C := fun w' => Mod None_ _ w') [0, 1, 2, 3, 4, 5, 6, 7, 8, 9] (Mod.refl _ _) (by kernel_rfl) (by kernel_rfl) ?_
        refine QW.cons rfl (QP.val (v := v1) rfl (fun w' hm' => x_mv f51) ?_)
        refine QW.cons rfl (QP.val (v := (.int .i64 s_l1)) rfl (fun w' hm' => x_mv f53) ?_)
        obtain ⟨x55, ha56, hm⟩ := bndE hm
        obtain ⟨hz57, ha56⟩ := idxE ha56
        obtain ⟨b58, q59, hix60⟩ := rdL_ix (hL.rdS 0 rfl h2) hz57 ha56
        refine QW.cons rfl (QP.val (v := (.pointer (some ⟨b58, q59, none⟩))) rfl (fun w' hm' => x_ix Try.underlying38 Try_T67 rfl rfl hix60) ?_)
        refine QW.cons rfl (QP.val (v := (.agg #[(.int .i64 x55.Boat), (.int .i64 x55.Value)])) rfl (fun w' hm' => x_loadN (cs := [(.int .i64 x55.Boat), (.int .i64 x55.Value)]) Try.underlying67 Try_T67 rfl rfl (rdF_cells ((hL.call hm').rdS 0 rfl h2) hix60 ha56)) ?_)
        refine QW.cons rfl (QP.val (v := v3) rfl (fun w' hm' => x_mv f52) ?_)
        refine QW.cons rfl (QP.val (v := (.int .i64 s_l1)) rfl (fun w' hm' => x_mv f53) ?_)
        obtain ⟨x61, ha62, hm⟩ := bndE hm
        obtain ⟨hz63, ha62⟩ := idxE ha62
        obtain ⟨b64, q65, hix66⟩ := rdL_ix (hL.rdS 0 rfl h4) hz63 ha62
        refine QW.cons rfl (QP.val (v := (.pointer (some ⟨b64, q65, none⟩))) rfl (fun w' hm' => x_ix Try.underlying38 Try_T67 rfl rfl hix66) ?_)
        refine QW.cons rfl (QP.val (v := (.agg #[(.int .i64 x61.Boat), (.int .i64 x61.Value)])) rfl (fun w' hm' => x_loadN (cs := [(.int .i64 x61.Boat), (.int .i64 x61.Value)]) Try.underlying67 Try_T67 rfl rfl (rdF_cells ((hL.call hm').rdS 0 rfl h4) hix66 ha62)) ?_)
        obtain ⟨x67, hx68, hm⟩ := bndE hm
        refine QW.cons rfl (QP.call (v := (.bool x67)) rfl (fun w' hm' => x_call (vs := [(.agg #[(.int .i64 x55.Boat), (.int .i64 x55.Value)]), (.agg #[(.int .i64 x61.Boat), (.int .i64 x61.Value)])]) Try_C65 ⟨rfl, rfl, trivial⟩) (fun w' hm' => (M.laws_eqRating_ok w' x55 x61 hx68).mono (fun e w'' h => ⟨h.1, hm'.trans h.2.mod⟩)) ?_)
        refine QW.cons rfl (QP.val (v := (.bool (!x67))) rfl (fun w' hm' => x_not rfl) ?_)
        refine QW.nil ?_
        intro wd69 hmod
        have hL := hL.call hmod
        refine DW.done (by kernel_rfl) ?_
        refine CW.condM (t := !x67) rfl hm (fun hb70 hm => ?_) (fun hb70 hm => ?_)
        · refine CW.seq ?_
          refine CW.regionL ?_
          refine OW.cons (OP.val (v := (.bool false)) rfl (x_assign) ?_)
          refine OW.nil ?_
          refine CW.ret ?_
          obtain rfl := Option.some.inj hm
          have hm := hr41 _ rfl
          obtain rfl := Option.some.inj hm
          exact RR1 rfl rfl ⟨rfl, hL.fresh 0 rfl [] (by decide) (by decide) rfl⟩
        · refine CW.skip ?_
          refine CW.regionL ?_
          refine OW.cons (OP.val (v := (.int .i64 s_l1)) rfl (x_mv f53) ?_)
          refine OW.cons (OP.val (v := (.int .i64 (w64 (s_l1 + 1)))) rfl (x_add rfl rfl) ?_)
          refine OW.cons (OP.val (v := (.int .i64 (w64 (s_l1 + 1)))) rfl (x_assign) ?_)
          refine OW.nil ?_
          obtain rfl := Option.some.inj hm
          exact ⟨_, rfl, ⟨f51, f52, rfl, hL⟩⟩
      · refine CW.exit ?_
        refine XJ.hit ?_
        obtain rfl := Option.some.inj hm
        exact ⟨_, rfl, ⟨f51, f52, f53, hL⟩⟩

theorem M.laws_markRatingS_ok (w0 : World) {S2 : Nat → Prop} {v1 : Value} (a0 : List Rating) (he3 : (Ent.own 67 S2 v1 a0).H w0) (a1 : Int) {r : (Int) × (List Rating)} (hm : M.laws_markRatingS a0 a1 = some r) :
    Calls Try.prog 25 #[v1, (.int .i64 a1)] w0 fun e w' => ∃ (ioS : Nat → Prop), e = .returned (.int .i64 r.1) ∧ Mut w0 w' (Ent.own 67 S2 v1 a0).S [Ent.own 67 ioS v1 r.2] := by
  unfold M.laws_markRatingS at hm
  refine calls_CW (args := [v1, (.int .i64 a1)]) Try.func25 rfl rfl rfl ?_
  have hL := Hp.startIO he3
  refine CW.seq ?_
  refine CW.regionL ?_
  refine OW.cons (OP.val (v := (.int .i64 0)) rfl (x_assign) ?_)
  refine OW.nil ?_
  refine CW.seq ?_
  refine CW.seq ?_
  refine CW.regionL ?_
  refine OW.cons (OP.val (v := (.int .i64 0)) rfl (x_assign) ?_)
  refine OW.nil ?_
  obtain ⟨o38, ho39, hm⟩ := bndE hm
  refine CW.loopB (fun (s_l1 : (List Rating) × Int × Int) (F : Fr) (w : World) => ∃ (S35 : Nat → Prop), F 0 = v1 ∧ F 1 = (.int .i64 s_l1.2.1) ∧ F 5 = (.int .i64 s_l1.2.2) ∧ Hp w0 [Ent.own 67 S35 v1 s_l1.1, Ent.frz w0 (Ent.own 67 S2 v1 a0).S] w) (fun o => outc o (fun x => some x) (fun s => M.laws_markRatingS_a1 s) = some r) ho39 hm ⟨S2, rfl, rfl, rfl, hL⟩ ?_ ?_
  · intro s_l1 F40 wd41 hJ hm
    have hm : M.laws_markRatingS_a1 s_l1 = some r := hm
    unfold M.laws_markRatingS_a1 at hm
    obtain ⟨S35, f42, f43, f44, hL⟩ := hJ
    refine CW.seq ?_
    refine CW.regionL ?_
    refine OW.cons (OP.val (v := (.int .i64 s_l1.2.1)) rfl (x_mv f43) ?_)
    refine OW.cons (OP.val (v := (.int .i64 s_l1.2.1)) rfl (x_assign) ?_)
    refine OW.nil ?_
    refine CW.ret ?_
    obtain rfl := Option.some.inj hm
    exact RR1 rfl rfl ⟨S35, rfl, hL.mutOut 1 rfl [0] (by decide) (by decide) rfl⟩
  · intro s_l1 F45 wd46 t36 hJ hm hr37
    unfold M.laws_markRatingS_l1 at hm
    obtain ⟨S35, f47, f48, f49, hL⟩ := hJ
    refine CW.seq ?_
    refine CW.seq ?_
    refine CW.regionL ?_
    refine OW.cons (OP.val (v := (.int .i64 s_l1.2.2)) rfl (x_mv f49) ?_)
    refine OW.cons (OP.val (v := v1) rfl (x_mv f47) ?_)
    refine OW.cons (OP.val (v := (.int .i64 (s_l1.1.length : Int))) rfl (x_lenR Try.underlying38 rfl (hL.rdO 0 rfl)) ?_)
    refine OW.cons (OP.val (v := (.bool (decide (s_l1.2.2 < (s_l1.1.length : Int))))) rfl (x_lss rfl rfl) ?_)
    refine OW.nil ?_
    refine CW.condM (t := decide (s_l1.2.2 < (s_l1.1.length : Int))) rfl hm (fun hb50 hm => ?_) (fun hb50 hm => ?_)
    · refine CW.skip ?_
      refine CW.seq ?_
      refine CW.block ?_
      refine CW.seq ?_
      refine CW.regionL ?_
      refine OW.cons (OP.val (v := v1) rfl (x_mv f47) ?_)
      refine OW.cons (OP.val (v := (.int .i64 s_l1.2.2)) rfl (x_mv f49) ?_)
      refine OW.cons (OP.val (v := (.int .i64 s_l1.2.1)) rfl (x_mv f48) ?_)
      obtain ⟨x51, ha52, hm⟩ := bndE hm
      obtain ⟨hz53, ha52⟩ := idxE ha52
      obtain ⟨b54, q55, hix56⟩ := rdL_ix (hL.rdO 0 rfl) hz53 ha52
      refine OW.cons (OP.val (v := (.pointer (some ⟨b54, q55, none⟩))) rfl (x_ix Try.underlying38 Try_T67 rfl rfl hix56) ?_)
      refine OW.cons (OP.val (v := (.pointer (some ⟨b54, q55, none⟩))) rfl (x_fieldAddr (fsz := 1) q55 0 q55 Try.underlying67 rfl Try_T2 rfl rfl rfl) ?_)
      refine OW.cons (S_storeX (j := 0) (Rating.mk s_l1.2.1 x51.Value) hL 0 rfl Try_T2 hix56 ha52 rfl rfl rfl rfl rfl rfl ?_)
      intro wd57 hL
      refine OW.nil ?_
      refine CW.seq ?_
      refine CW.regionL ?_
      refine OW.cons (OP.val (v := (.int .i64 s_l1.2.1)) rfl (x_mv f48) ?_)
      refine OW.cons (OP.val (v := (.int .i64 (w64 (s_l1.2.1 + 1)))) rfl (x_add rfl rfl) ?_)
      refine OW.cons (OP.val (v := (.int .i64 (w64 (s_l1.2.1 + 1)))) rfl (x_assign) ?_)
      refine OW.nil ?_
      refine CW.seq ?_
      refine CW.regionL ?_
      refine OW.cons (OP.val (v := v1) rfl (x_mv f47) ?_)
      refine OW.cons (OP.val (v := (.int .i64 s_l1.2.2)) rfl (x_mv f49) ?_)
      refine OW.cons (OP.val (v := (.int .i64 (w64 (s_l1.2.1 + 1)))) rfl (x_move) ?_)
      obtain ⟨x58, ha59, hm⟩ := bndE hm
      obtain ⟨hz60, ha59⟩ := idxE ha59
      obtain ⟨b61, q62, hix63⟩ := rdL_ix (hL.rdO 0 rfl) hz60 ha59
      refine OW.cons (OP.val (v := (.pointer (some ⟨b61, q62, none⟩))) rfl (x_ix Try.underlying38 Try_T67 rfl rfl hix63) ?_)
      refine OW.cons (OP.val (v := (.pointer (some ⟨b61, q62 + 1, none⟩))) rfl (x_fieldAddr (fsz := 1) q62 1 (q62 + 1) Try.underlying67 rfl Try_T2 rfl rfl rfl) ?_)
      refine OW.cons (S_storeX (j := 1) (Rating.mk x58.Boat (w64 (s_l1.2.1 + 1))) hL 0 rfl Try_T2 hix63 ha59 rfl rfl rfl rfl rfl rfl ?_)
      intro wd64 hL
      refine OW.nil ?_
      refine CW.regionL ?_
      refine OW.cons (OP.val (v := (.int .i64 (w64 (s_l1.2.1 + 1)))) rfl (x_move) ?_)
      refine OW.cons (OP.val (v := (.int .i64 (w64 ((w64 (s_l1.2.1 + 1)) + 1)))) rfl (x_add rfl rfl) ?_)
      refine OW.cons (OP.val (v := (.int .i64 (w64 ((w64 (s_l1.2.1 + 1)) + 1)))) rfl (x_assign) ?_)
      refine OW.nil ?_
      refine CW.regionL ?_
      refine OW.cons (OP.val (v := (.int .i64 s_l1.2.2)) rfl (x_mv f49) ?_)
      refine OW.cons (OP.val (v := (.int .i64 (w64 (s_l1.2.2 + 1)))) rfl (x_add rfl rfl) ?_)
      refine OW.cons (OP.val (v := (.int .i64 (w64 (s_l1.2.2 + 1)))) rfl (x_assign) ?_)
      refine OW.nil ?_
      obtain rfl := Option.some.inj hm
      exact ⟨_, rfl, ⟨S35, f47, rfl, rfl, hL⟩⟩
    · refine CW.exit ?_
      refine XJ.hit ?_
      obtain rfl := Option.some.inj hm
      exact ⟨_, rfl, ⟨S35, f47, f48, f49, hL⟩⟩

theorem M.laws_markInt64S_ok (w0 : World) {S2 : Nat → Prop} {v1 : Value} (a0 : List Int) (he3 : (Ent.own 2 S2 v1 a0).H w0) (a1 : Int) {r : (Int) × (List Int)} (hm : M.laws_markInt64S a0 a1 = some r) :
    Calls Try.prog 26 #[v1, (.int .i64 a1)] w0 fun e w' => ∃ (ioS : Nat → Prop), e = .returned (.int .i64 r.1) ∧ Mut w0 w' (Ent.own 2 S2 v1 a0).S [Ent.own 2 ioS v1 r.2] := by
  unfold M.laws_markInt64S at hm
  refine calls_CW (args := [v1, (.int .i64 a1)]) Try.func26 rfl rfl rfl ?_
  have hL := Hp.startIO he3
  refine CW.seq ?_
  refine CW.regionL ?_
  refine OW.cons (OP.val (v := (.int .i64 0)) rfl (x_assign) ?_)
  refine OW.nil ?_
  refine CW.seq ?_
  refine CW.seq ?_
  refine CW.regionL ?_
  refine OW.cons (OP.val (v := (.int .i64 0)) rfl (x_assign) ?_)
  refine OW.nil ?_
  obtain ⟨o24, ho25, hm⟩ := bndE hm
  refine CW.loopB (fun (s_l1 : (List Int) × Int × Int) (F : Fr) (w : World) => ∃ (S21 : Nat → Prop), F 0 = v1 ∧ F 1 = (.int .i64 s_l1.2.1) ∧ F 5 = (.int .i64 s_l1.2.2) ∧ Hp w0 [Ent.own 2 S21 v1 s_l1.1, Ent.frz w0 (Ent.own 2 S2 v1 a0).S] w) (fun o => outc o (fun x => some x) (fun s => M.laws_markInt64S_a1 s) = some r) ho25 hm ⟨S2, rfl, rfl, rfl, hL⟩ ?_ ?_
  · intro s_l1 F26 wd27 hJ hm
    have hm : M.laws_markInt64S_a1 s_l1 = some r := hm
    unfold M.laws_markInt64S_a1 at hm
    obtain ⟨S21, f28, f29, f30, hL⟩ := hJ
    refine CW.seq ?_
    refine CW.regionL ?_
    refine OW.cons (OP.val (v := (.int .i64 s_l1.2.1)) rfl (x_mv f29) ?_)
    refine OW.cons (OP.val (v := (.int .i64 s_l1.2.1)) rfl (x_assign) ?_)
    refine OW.nil ?_
    refine CW.ret ?_
    obtain rfl := Option.some.inj hm
    exact RR1 rfl rfl ⟨S21, rfl, hL.mutOut 1 rfl [0] (by decide) (by decide) rfl⟩
  · intro s_l1 F31 wd32 t22 hJ hm hr23
    unfold M.laws_markInt64S_l1 at hm
    obtain ⟨S21, f33, f34, f35, hL⟩ := hJ
    refine CW.seq ?_
    refine CW.seq ?_
    refine CW.regionL ?_
    refine OW.cons (OP.val (v := (.int .i64 s_l1.2.2)) rfl (x_mv f35) ?_)
    refine OW.cons (OP.val (v := v1) rfl (x_mv f33) ?_)
    refine OW.cons (OP.val (v := (.int .i64 (s_l1.1.length : Int))) rfl (x_lenR Try.underlying34 rfl (hL.rdO 0 rfl)) ?_)
    refine OW.cons (OP.val (v := (.bool (decide (s_l1.2.2 < (s_l1.1.length : Int))))) rfl (x_lss rfl rfl) ?_)
    refine OW.nil ?_
    refine CW.condM (t := decide (s_l1.2.2 < (s_l1.1.length : Int))) rfl hm (fun hb36 hm => ?_) (fun hb36 hm => ?_)
    · refine CW.skip ?_
      refine CW.seq ?_
      refine CW.block ?_
      refine CW.seq ?_
      refine CW.regionL ?_
      refine OW.cons (OP.val (v := v1) rfl (x_mv f33) ?_)
      refine OW.cons (OP.val (v := (.int .i64 s_l1.2.2)) rfl (x_mv f35) ?_)
      refine OW.cons (OP.val (v := (.int .i64 s_l1.2.1)) rfl (x_mv f34) ?_)
      obtain ⟨x37, ha38, hm⟩ := bndE hm
      obtain ⟨hz39, ha38⟩ := idxE ha38
      obtain ⟨b40, q41, hix42⟩ := rdL_ix (hL.rdO 0 rfl) hz39 ha38
      refine OW.cons (OP.val (v := (.pointer (some ⟨b40, q41, none⟩))) rfl (x_ix Try.underlying34 Try_T2 rfl rfl hix42) ?_)
      refine OW.cons (S_storeX (j := 0) s_l1.2.1 hL 0 rfl Try_T2 hix42 ha38 rfl rfl rfl rfl rfl rfl ?_)
      intro wd43 hL
      refine OW.nil ?_
      refine CW.regionL ?_
      refine OW.cons (OP.val (v := (.int .i64 s_l1.2.1)) rfl (x_mv f34) ?_)
      refine OW.cons (OP.val (v := (.int .i64 (w64 (s_l1.2.1 + 1)))) rfl (x_add rfl rfl) ?_)
      refine OW.cons (OP.val (v := (.int .i64 (w64 (s_l1.2.1 + 1)))) rfl (x_assign) ?_)
      refine OW.nil ?_
      refine CW.regionL ?_
      refine OW.cons (OP.val (v := (.int .i64 s_l1.2.2)) rfl (x_mv f35) ?_)
      refine OW.cons (OP.val (v := (.int .i64 (w64 (s_l1.2.2 + 1)))) rfl (x_add rfl rfl) ?_)
      refine OW.cons (OP.val (v := (.int .i64 (w64 (s_l1.2.2 + 1)))) rfl (x_assign) ?_)
      refine OW.nil ?_
      obtain rfl := Option.some.inj hm
      exact ⟨_, rfl, ⟨S21, f33, rfl, rfl, hL⟩⟩
    · refine CW.exit ?_
      refine XJ.hit ?_
      obtain rfl := Option.some.inj hm
      exact ⟨_, rfl, ⟨S21, f33, f34, f35, hL⟩⟩

theorem M.laws_heldInt64S_ok (w0 : World) (a0 : List Int) {v1 : Value} (h2 : rdL (· < w0.heap.size) w0 v1 a0) (a1 : Int) {r : Int} (hm : M.laws_heldInt64S a0 a1 = some r) :
    Calls Try.prog 27 #[v1, (.int .i64 a1)] w0 fun e w' => e = .returned (.int .i64 r) ∧ Fresh w0 w' [] := by
  unfold M.laws_heldInt64S at hm
  refine calls_CW (args := [v1, (.int .i64 a1)]) Try.func27 rfl rfl rfl ?_
  have hL := Hp.start w0
  refine CW.seq ?_
  refine CW.regionL ?_
  refine OW.cons (OP.val (v := (.int .i64 0)) rfl (x_assign) ?_)
  refine OW.nil ?_
  refine CW.seq ?_
  refine CW.seq ?_
  refine CW.regionL ?_
  refine OW.cons (OP.val (v := (.int .i64 0)) rfl (x_assign) ?_)
  refine OW.nil ?_
  obtain ⟨o21, ho22, hm⟩ := bndE hm
  refine CW.loopB (fun (s_l1 : Int × Int) (F : Fr) (w : World) => F 0 = v1 ∧ F 1 = (.int .i64 s_l1.1) ∧ F 5 = (.int .i64 s_l1.2) ∧ Hp w0 [Ent.snap w0 w0.heap.size] w) (fun o => outc o (fun x => some x) (fun s => M.laws_heldInt64S_a1 s) = some r) ho22 hm ⟨rfl, rfl, rfl, hL⟩ ?_ ?_
  · intro s_l1 F23 wd24 hJ hm
    have hm : M.laws_heldInt64S_a1 s_l1 = some r := hm
    unfold M.laws_heldInt64S_a1 at hm
    obtain ⟨f25, f26, f27, hL⟩ := hJ
    refine CW.seq ?_
    refine CW.regionL ?_
    refine OW.cons (OP.val (v := (.int .i64 s_l1.1)) rfl (x_mv f26) ?_)
    refine OW.cons (OP.val (v := (.int .i64 s_l1.1)) rfl (x_assign) ?_)
    refine OW.nil ?_
    refine CW.ret ?_
    obtain rfl := Option.some.inj hm
    exact RR1 rfl rfl ⟨rfl, hL.fresh 0 rfl [] (by decide) (by decide) rfl⟩
  · intro s_l1 F28 wd29 t19 hJ hm hr20
    unfold M.laws_heldInt64S_l1 at hm
    obtain ⟨f30, f31, f32, hL⟩ := hJ
    refine CW.seq ?_
    refine CW.seq ?_
    refine CW.regionL ?_
    refine OW.cons (OP.val (v := (.int .i64 s_l1.2)) rfl (x_mv f32) ?_)
    refine OW.cons (OP.val (v := v1) rfl (x_mv f30) ?_)
    refine OW.cons (OP.val (v := (.int .i64 (a0.length : Int))) rfl (x_lenR Try.underlying34 rfl (hL.rdS 0 rfl h2)) ?_)
    refine OW.cons (OP.val (v := (.bool (decide (s_l1.2 < (a0.length : Int))))) rfl (x_lss rfl rfl) ?_)
    refine OW.nil ?_
    refine CW.condM (t := decide (s_l1.2 < (a0.length : Int))) rfl hm (fun hb33 hm => ?_) (fun hb33 hm => ?_)
    · refine CW.skip ?_
      refine CW.seq ?_
      refine CW.block ?_
      refine CW.seq ?_
      refine CW.seq ?_
      refine CW.regionL ?_
      refine OW.cons (OP.val (v := v1) rfl (x_mv f30) ?_)
      refine OW.cons (OP.val (v := (.int .i64 s_l1.2)) rfl (x_mv f32) ?_)
      obtain ⟨x34, ha35, hm⟩ := bndE hm
      obtain ⟨hz36, ha35⟩ := idxE ha35
      obtain ⟨b37, q38, hix39⟩ := rdL_ix (hL.rdS 0 rfl h2) hz36 ha35
      refine OW.cons (OP.val (v := (.pointer (some ⟨b37, q38, none⟩))) rfl (x_ix Try.underlying34 Try_T2 rfl rfl hix39) ?_)
      refine OW.cons (OP.val (v := (.int .i64 x34)) rfl (x_load1 Try.underlying2 rfl rfl (rdF_cells (hL.rdS 0 rfl h2) hix39 ha35 0 _ rfl)) ?_)
      refine OW.cons (OP.val (v := (.int .i64 s_l1.1)) rfl (x_mv f31) ?_)
      refine OW.cons (OP.val (v := (.bool (x34 != s_l1.1))) rfl (x_neq rfl rfl) ?_)
      refine OW.nil ?_
      refine CW.condM (t := x34 != s_l1.1) rfl hm (fun hb40 hm => ?_) (fun hb40 hm => ?_)
      · refine CW.seq ?_
        refine CW.regionL ?_
        refine OW.cons (OP.val (v := (.int .i64 (-1))) rfl (x_assign) ?_)
        refine OW.nil ?_
        refine CW.ret ?_
        obtain rfl := Option.some.inj hm
        have hm := hr20 _ rfl
        obtain rfl := Option.some.inj hm
        exact RR1 rfl rfl ⟨rfl, hL.fresh 0 rfl [] (by decide) (by decide) rfl⟩
      · refine CW.skip ?_
        refine CW.regionL ?_
        refine OW.cons (OP.val (v := (.int .i64 s_l1.1)) rfl (x_mv f31) ?_)
        refine OW.cons (OP.val (v := (.int .i64 (w64 (s_l1.1 + 1)))) rfl (x_add rfl rfl) ?_)
        refine OW.cons (OP.val (v := (.int .i64 (w64 (s_l1.1 + 1)))) rfl (x_assign) ?_)
        refine OW.nil ?_
        refine CW.regionL ?_
        refine OW.cons (OP.val (v := (.int .i64 s_l1.2)) rfl (x_mv f32) ?_)
        refine OW.cons (OP.val (v := (.int .i64 (w64 (s_l1.2 + 1)))) rfl (x_add rfl rfl) ?_)
        refine OW.cons (OP.val (v := (.int .i64 (w64 (s_l1.2 + 1)))) rfl (x_assign) ?_)
        refine OW.nil ?_
        obtain rfl := Option.some.inj hm
        exact ⟨_, rfl, ⟨f30, rfl, rfl, hL⟩⟩
    · refine CW.exit ?_
      refine XJ.hit ?_
      obtain rfl := Option.some.inj hm
      exact ⟨_, rfl, ⟨f30, f31, f32, hL⟩⟩

theorem M.laws_FnExactBoundedBoats_ok (w0 : World) (a0 : ProgressRules) (a1 : Int) (a2 : List Rating) {v1 : Value} (h2 : rdL (· < w0.heap.size) w0 v1 a2) {r : Bool} (hm : M.laws_FnExactBoundedBoats a0 a1 a2 = some r) :
    Calls Try.prog 4 #[(.agg #[(.int .i64 a0.Gain), (.int .i64 a0.Step), (.int .i64 a0.Low), (.int .i64 a0.High)]), (.int .i64 a1), v1] w0 fun e w' => e = .returned (.bool r) ∧ Fresh w0 w' [] := by
  unfold M.laws_FnExactBoundedBoats at hm
  refine calls_CW (args := [(.agg #[(.int .i64 a0.Gain), (.int .i64 a0.Step), (.int .i64 a0.Low), (.int .i64 a0.High)]), (.int .i64 a1), v1]) Try.func4 rfl rfl rfl ?_
  have hL := Hp.start w0
  refine CW.seq ?_
  refine CW.regionL ?_
  refine OW.cons (S_box (cs := #[(.int .i64 a0.Gain), (.int .i64 a0.Step), (.int .i64 a0.Low), (.int .i64 a0.High)]) hL rfl rfl rfl ?_)
  intro wd3 b4 hL
  refine OW.cons (OP.val (v := (.bool false)) rfl (x_assign) ?_)
  refine OW.nil ?_
  refine CW.seq ?_
  refine CW.regionL ?_
  refine OW.cons (OP.val (v := (.int .i64 1048576)) rfl (x_assign) ?_)
  refine OW.nil ?_
  refine CW.seq ?_
  refine CW.regionL ?_
  refine OW.cons (OP.val (v := v1) rfl (x_move) ?_)
  refine OW.cons (OP.val (v := (.int .i64 1048576)) rfl (x_move) ?_)
  obtain ⟨x5, hx6, hm⟩ := bndE hm
  refine OW.cons (OP.call rfl (x_call (vs := [v1, (.int .i64 1048576)]) Try_C18 ⟨rfl, rfl, trivial⟩) (M.laws_szRatingS_ok _ a2 (hL.rdS 1 rfl h2) 1048576 hx6) ?_)
  rintro e7 wd8 ⟨rfl, hF9⟩
  refine ⟨_, rfl, ?_⟩
  have hL := hL.pushAll hF9
  simp only [List.cons_append, List.nil_append, List.set_cons_zero, List.set_cons_succ] at hL
  refine OW.cons (OP.val (v := (.int .i64 x5)) rfl (x_assign) ?_)
  refine OW.nil ?_
  refine CW.seq ?_
  refine CW.seq ?_
  refine CW.regionL ?_
  refine OW.cons (OP.val (v := (.int .i64 x5)) rfl (x_move) ?_)
  refine OW.cons (OP.val (v := (.bool (decide (x5 < 0)))) rfl (x_lss rfl rfl) ?_)
  refine OW.nil ?_
  refine CW.condM (t := decide (x5 < 0)) rfl hm (fun hb10 hm => ?_) (fun hb10 hm => ?_)
  · refine CW.seq ?_
    refine CW.regionL ?_
    refine OW.cons (OP.val (v := (.bool true)) rfl (x_assign) ?_)
    refine OW.nil ?_
    refine CW.ret ?_
    obtain rfl := Option.some.inj hm
    exact RR1 rfl rfl ⟨rfl, hL.fresh 1 rfl [] (by decide) (by decide) rfl⟩
  · refine CW.skip ?_
    refine CW.seq ?_
    refine CW.regionL ?_
    refine OW.cons (OP.val (v := (.agg #[(.int .i64 a0.Gain), (.int .i64 a0.Step), (.int .i64 a0.Low), (.int .i64 a0.High)])) rfl (x_loadN (cs := [(.int .i64 a0.Gain), (.int .i64 a0.Step), (.int .i64 a0.Low), (.int .i64 a0.High)]) Try.underlying31 Try_T31 rfl rfl (hL.cellsB 0 rfl (o := 0) (l := [(.int .i64 a0.Gain), (.int .i64 a0.Step), (.int .i64 a0.Low), (.int .i64 a0.High)]) (by intro j u hj; exact (by simpa using hj)))) ?_)
    obtain ⟨x11, hx12, hm⟩ := bndE hm
    refine OW.cons (OP.call rfl (x_call (vs := [(.agg #[(.int .i64 a0.Gain), (.int .i64 a0.Step), (.int .i64 a0.Low), (.int .i64 a0.High)])]) Try_C20 ⟨rfl, trivial⟩) (M.laws_toProgressRules_ok _ a0 hx12) ?_)
    rintro e13 wd14 ⟨rfl, hF15⟩
    refine ⟨_, rfl, ?_⟩
    have hL := hL.pushAll hF15
    simp only [List.cons_append, List.nil_append, List.set_cons_zero, List.set_cons_succ] at hL
    refine OW.cons (OP.val (v := (.int .i64 a1)) rfl (x_move) ?_)
    refine OW.cons (OP.val (v := v1) rfl (x_move) ?_)
    obtain ⟨x16, hx17, hm⟩ := bndE hm
    refine OW.cons (OP.call rfl (x_call (vs := [v1]) Try_C21 ⟨rfl, trivial⟩) (M.laws_toRatingS_ok _ a2 (hL.rdS 1 rfl h2) hx17) ?_)
    rintro e20 wd21 ⟨v19, S18, rfl, hF22⟩
    refine ⟨_, rfl, ?_⟩
    have hL := hL.pushAll hF22
    simp only [List.cons_append, List.nil_append, List.set_cons_zero, List.set_cons_succ] at hL
    obtain ⟨x23, hx24, hm⟩ := bndE hm
    refine OW.cons (OP.call rfl (x_call (vs := [(.agg #[(.int .i64 x11.Gain), (.int .i64 x11.Step), (.int .i64 x11.Low), (.int .i64 x11.High)]), (.int .i64 a1), v19]) Try_C19 ⟨rfl, rfl, rfl, trivial⟩) (M.spec_BoundedBoats_ok _ x11 a1 x16 (hL.rdO 0 rfl) hx24) ?_)
    rintro e27 wd28 ⟨v26, S25, rfl, hF29⟩
    refine ⟨_, rfl, ?_⟩
    have hL := hL.pushAll hF29
    simp only [List.cons_append, List.nil_append, List.set_cons_zero, List.set_cons_succ] at hL
    refine OW.cons (OP.val (v := (.tuple #[v26, (.int .i64 x23.2)])) rfl (x_move) ?_)
    refine OW.cons (OP.val (v := v26) rfl (x_extract rfl rfl) ?_)
    refine OW.cons (OP.val (v := (.int .i64 x23.2)) rfl (x_extract rfl rfl) ?_)
    refine OW.cons (OP.val (v := v26) rfl (x_assign) ?_)
    refine OW.cons (OP.val (v := (.int .i64 x23.2)) rfl (x_assign) ?_)
    refine OW.nil ?_
    refine CW.seq ?_
    refine CW.regionL ?_
    refine OW.cons (OP.val (v := v1) rfl (x_move) ?_)
    obtain ⟨x30, hx31, hm⟩ := bndE hm
    refine OW.cons (OP.call rfl (x_call (vs := [v1]) Try_C21 ⟨rfl, trivial⟩) (M.laws_toRatingS_ok _ a2 (hL.rdS 3 rfl h2) hx31) ?_)
    rintro e34 wd35 ⟨v33, S32, rfl, hF36⟩
    refine ⟨_, rfl, ?_⟩
    have hL := hL.pushAll hF36
    simp only [List.cons_append, List.nil_append, List.set_cons_zero, List.set_cons_succ] at hL
    refine OW.cons (OP.val (v := v33) rfl (x_assign) ?_)
    refine OW.nil ?_
    refine CW.seq ?_
    refine CW.regionL ?_
    refine OW.cons (OP.val (v := (.agg #[(.int .i64 a0.Gain), (.int .i64 a0.Step), (.int .i64 a0.Low), (.int .i64 a0.High)])) rfl (x_loadN (cs := [(.int .i64 a0.Gain), (.int .i64 a0.Step), (.int .i64 a0.Low), (.int .i64 a0.High)]) Try.underlying31 Try_T31 rfl rfl (hL.cellsB 3 rfl (o := 0) (l := [(.int .i64 a0.Gain), (.int .i64 a0.Step), (.int .i64 a0.Low), (.int .i64 a0.High)]) (by intro j u hj; exact (by simpa using hj)))) ?_)
    obtain ⟨x37, hx38, hm⟩ := bndE hm
    refine OW.cons (OP.call rfl (x_call (vs := [(.agg #[(.int .i64 a0.Gain), (.int .i64 a0.Step), (.int .i64 a0.Low), (.int .i64 a0.High)])]) Try_C20 ⟨rfl, trivial⟩) (M.laws_toProgressRules_ok _ a0 hx38) ?_)
    rintro e39 wd40 ⟨rfl, hF41⟩
    refine ⟨_, rfl, ?_⟩
    have hL := hL.pushAll hF41
    simp only [List.cons_append, List.nil_append, List.set_cons_zero, List.set_cons_succ] at hL
    refine OW.cons (OP.val (v := (.int .i64 a1)) rfl (x_move) ?_)
    refine OW.cons (OP.val (v := v33) rfl (x_move) ?_)
    obtain ⟨x42, hx43, hm⟩ := bndE hm
    refine OW.cons (OP.call rfl (x_call (vs := [(.agg #[(.int .i64 x37.Gain), (.int .i64 x37.Step), (.int .i64 x37.Low), (.int .i64 x37.High)]), (.int .i64 a1), v33]) Try_C22 ⟨rfl, rfl, rfl, trivial⟩) (M.impl_BoundedBoats_ok _ x37 a1 x30 (hL.rdO 0 rfl) hx43) ?_)
    rintro e46 wd47 ⟨v45, S44, rfl, hF48⟩
    refine ⟨_, rfl, ?_⟩
    have hL := hL.pushAll hF48
    simp only [List.cons_append, List.nil_append, List.set_cons_zero, List.set_cons_succ] at hL
    refine OW.cons (OP.val (v := (.tuple #[v45, (.int .i64 x42.2)])) rfl (x_move) ?_)
    refine OW.cons (OP.val (v := v45) rfl (x_extract rfl rfl) ?_)
    refine OW.cons (OP.val (v := (.int .i64 x42.2)) rfl (x_extract rfl rfl) ?_)
    refine OW.cons (OP.val (v := v45) rfl (x_assign) ?_)
    refine OW.cons (OP.val (v := (.int .i64 x42.2)) rfl (x_assign) ?_)
    refine OW.nil ?_
    refine CW.seq ?_
    refine CW.seqJ (fun (s_j1 : Bool) (F : Fr) (w : World) => F 1 = (.int .i64 a1) ∧ F 2 = v1 ∧ F 3 = (.pointer (some ⟨b4, 0, none⟩)) ∧ F 8 = v26 ∧ F 9 = (.int .i64 x23.2) ∧ F 10 = v33 ∧ F 11 = v45 ∧ F 12 = (.int .i64 x42.2) ∧ F 50 = (.bool s_j1) ∧ Hp w0 [Ent.own 2 S44 v45 x42.1, Ent.own 67 S32 v33 x30, Ent.own 2 S25 v26 x23.1, Ent.blk b4 31 #[(.int .i64 a0.Gain), (.int .i64 a0.Step), (.int .i64 a0.Low), (.int .i64 a0.High)], Ent.snap w0 w0.heap.size] w) (fun s_j1 => M.laws_FnExactBoundedBoats_j1 a0 a1 a2 x23 x30 x42 s_j1 = some r) ?_ ?_
    · refine CW.regionL ?_
      refine OW.cons (OP.val (v := v45) rfl (x_move) ?_)
      refine OW.cons (OP.val (v := v26) rfl (x_move) ?_)
      obtain ⟨x167, hx168, hm⟩ := bndE hm
      refine OW.cons (OP.call rfl (x_call (vs := [v45, v26]) Try_C23 ⟨rfl, rfl, trivial⟩) (M.laws_eqInt64S_ok _ x42.1 (hL.rdO 0 rfl) x23.1 (hL.rdO 2 rfl) hx168) ?_)
      rintro e169 wd170 ⟨rfl, hF171⟩
      refine ⟨_, rfl, ?_⟩
      have hL := hL.pushAll hF171
      simp only [List.cons_append, List.nil_append, List.set_cons_zero, List.set_cons_succ] at hL
      refine OW.cons (OP.val (v := (.bool (!x167))) rfl (x_not rfl) ?_)
      refine OW.cons (OP.val (v := (.bool (!x167))) rfl (x_move) ?_)
      refine ifB_elim hm (fun hb172 hm => ?_) (fun hb172 hm => ?_)
      · refine OW.cons (OP.no' rfl rfl hb172 rfl ?_)
        refine OW.cons (OP.no' rfl rfl hb172 rfl ?_)
        refine OW.cons (OP.no' rfl rfl hb172 rfl ?_)
        refine OW.cons (OP.val (v := (.bool true)) rfl (x_pickT' rfl hb172 rfl) ?_)
        refine OW.nil ?_
        have hL := hL.sel [0, 1, 2, 4, 5] (by decide) rfl
        exact ⟨true, hm, ⟨rfl, rfl, rfl, rfl, rfl, rfl, rfl, rfl, rfl, hL⟩⟩
      · refine OW.cons (OP.yes' rfl rfl hb172 (OP.val (v := (.int .i64 x42.2)) rfl (x_move) ?_))
        refine OW.cons (OP.yes' rfl rfl hb172 (OP.val (v := (.int .i64 x23.2)) rfl (x_move) ?_))
        refine OW.cons (OP.yes' rfl rfl hb172 (OP.val (v := (.bool (x42.2 != x23.2))) rfl (x_neq rfl rfl) ?_))
        refine OW.cons (OP.val (v := (.bool (x42.2 != x23.2))) rfl (x_pickF' rfl hb172 rfl) ?_)
        refine OW.nil ?_
        have hL := hL.sel [0, 1, 2, 4, 5] (by decide) rfl
        exact ⟨x42.2 != x23.2, hm, ⟨rfl, rfl, rfl, rfl, rfl, rfl, rfl, rfl, rfl, hL⟩⟩
    · intro s_j1 F55 wd56 hJ hm
      unfold M.laws_FnExactBoundedBoats_j1 at hm
      obtain ⟨f57, f58, f59, f60, f61, f62, f63, f64, f65, hL⟩ := hJ
      refine CW.condM (t := s_j1) f65 hm (fun hb66 hm => ?_) (fun hb66 hm => ?_)
      · refine CW.seq ?_
        refine CW.regionL ?_
        refine OW.cons (OP.val (v := (.bool false)) rfl (x_assign) ?_)
        refine OW.nil ?_
        refine CW.ret ?_
        obtain rfl := Option.some.inj hm
        exact RR1 rfl rfl ⟨rfl, hL.fresh 4 rfl [] (by decide) (by decide) rfl⟩
      · refine CW.skip ?_
        refine CW.seq ?_
        refine CW.seq ?_
        refine CW.regionL ?_
        refine OW.cons (OP.val (v := v33) rfl (x_mv f62) ?_)
        refine OW.cons (OP.val (v := v1) rfl (x_mv f58) ?_)
        obtain ⟨x67, hx68, hm⟩ := bndE hm
        refine OW.cons (OP.call rfl (x_call (vs := [v1]) Try_C21 ⟨rfl, trivial⟩) (M.laws_toRatingS_ok _ a2 (hL.rdS 4 rfl h2) hx68) ?_)
        rintro e71 wd72 ⟨v70, S69, rfl, hF73⟩
        refine ⟨_, rfl, ?_⟩
        have hL := hL.pushAll hF73
        simp only [List.cons_append, List.nil_append, List.set_cons_zero, List.set_cons_succ] at hL
        obtain ⟨x74, hx75, hm⟩ := bndE hm
        refine OW.cons (OP.call rfl (x_call (vs := [v33, v70]) Try_C24 ⟨rfl, rfl, trivial⟩) (M.laws_eqRatingS_ok _ x30 (hL.rdO 2 rfl) x67 (hL.rdO 0 rfl) hx75) ?_)
        rintro e76 wd77 ⟨rfl, hF78⟩
        refine ⟨_, rfl, ?_⟩
        have hL := hL.pushAll hF78
        simp only [List.cons_append, List.nil_append, List.set_cons_zero, List.set_cons_succ] at hL
        refine OW.cons (OP.val (v := (.bool (!x74))) rfl (x_not rfl) ?_)
        refine OW.nil ?_
        refine CW.condM (t := !x74) rfl hm (fun hb79 hm => ?_) (fun hb79 hm => ?_)
        · refine CW.seq ?_
          refine CW.regionL ?_
          refine OW.cons (OP.val (v := (.bool false)) rfl (x_assign) ?_)
          refine OW.nil ?_
          refine CW.ret ?_
          obtain rfl := Option.some.inj hm
          exact RR1 rfl rfl ⟨rfl, hL.fresh 5 rfl [] (by decide) (by decide) rfl⟩
        · refine CW.skip ?_
          refine CW.seq ?_
          refine CW.regionL ?_
          refine OW.cons (OP.val (v := (.int .i64 1)) rfl (x_assign) ?_)
          refine OW.nil ?_
          refine CW.seq ?_
          refine CW.regionL ?_
          refine OW.cons (OP.val (v := v33) rfl (x_mv f62) ?_)
          refine OW.cons (OP.val (v := (.int .i64 1)) rfl (x_move) ?_)
          obtain ⟨x80, hx81, hm⟩ := bndE hm
          refine OW.cons (OP.call rfl (x_call (vs := [v33, (.int .i64 1)]) Try_C25 ⟨rfl, rfl, trivial⟩) (M.laws_markRatingS_ok _ x30 (hL.get 2 rfl) 1 hx81) ?_)
          rintro e82 wd83 ⟨S85, rfl, hF84⟩
          refine ⟨_, rfl, ?_⟩
          have hL := hL.mut 2 rfl hF84
          simp only [List.cons_append, List.nil_append, List.set_cons_zero, List.set_cons_succ] at hL
          refine OW.cons (OP.val (v := (.int .i64 x80.1)) rfl (x_assign) ?_)
          refine OW.nil ?_
          refine CW.seq ?_
          refine CW.seqJ (fun (s_j2 : Bool) (F : Fr) (w : World) => F 1 = (.int .i64 a1) ∧ F 2 = v1 ∧ F 3 = (.pointer (some ⟨b4, 0, none⟩)) ∧ F 8 = v26 ∧ F 9 = (.int .i64 x23.2) ∧ F 11 = v45 ∧ F 71 = (.bool s_j2) ∧ Hp w0 [Ent.own 2 S44 v45 x42.1, Ent.own 2 S25 v26 x23.1, Ent.blk b4 31 #[(.int .i64 a0.Gain), (.int .i64 a0.Step), (.int .i64 a0.Low), (.int .i64 a0.High)], Ent.snap w0 w0.heap.size] w) (fun s_j2 => M.laws_FnExactBoundedBoats_j2 a0 a1 a2 x23 x42 s_j2 = some r) ?_ ?_
          · refine CW.regionL ?_
            refine OW.cons (OP.val (v := (.int .i64 x80.1)) rfl (x_move) ?_)
            refine OW.cons (OP.val (v := (.bool (decide (x80.1 < 0)))) rfl (x_lss rfl rfl) ?_)
            refine OW.cons (OP.val (v := (.bool (decide (x80.1 < 0)))) rfl (x_move) ?_)
            refine ifB_elim hm (fun hb160 hm => ?_) (fun hb160 hm => ?_)
            · refine OW.cons (OP.no' rfl rfl hb160 rfl ?_)
              refine OW.cons (OP.no' rfl rfl hb160 rfl ?_)
              refine OW.cons (OP.no' rfl rfl hb160 rfl ?_)
              refine OW.cons (OP.no' rfl rfl hb160 rfl ?_)
              refine OW.cons (OP.val (v := (.bool true)) rfl (x_pickT' rfl hb160 rfl) ?_)
              refine OW.cons (OP.val (v := (.bool true)) rfl (x_move) ?_)
              refine OW.cons (OP.no' rfl rfl rfl rfl ?_)
              refine OW.cons (OP.no' rfl rfl rfl rfl ?_)
              refine OW.cons (OP.no' rfl rfl rfl rfl ?_)
              refine OW.cons (OP.val (v := (.bool true)) rfl (x_pickT' rfl rfl rfl) ?_)
              refine OW.nil ?_
              have hL := hL.sel [1, 3, 4, 5] (by decide) rfl
              exact ⟨true, hm, ⟨f57, f58, f59, f60, f61, f63, rfl, hL⟩⟩
            · refine OW.cons (OP.yes' rfl rfl hb160 (OP.val (v := v45) rfl (x_mv f63) ?_))
              refine OW.cons (OP.yes' rfl rfl hb160 (OP.val (v := v26) rfl (x_mv f60) ?_))
              obtain ⟨x161, hx162, hm⟩ := bndE hm
              refine OW.cons (OP.yes' rfl rfl hb160 (OP.call rfl (x_call (vs := [v45, v26]) Try_C23 ⟨rfl, rfl, trivial⟩) (M.laws_eqInt64S_ok _ x42.1 (hL.rdO 1 rfl) x23.1 (hL.rdO 3 rfl) hx162) ?_))
              rintro e163 wd164 ⟨rfl, hF165⟩
              refine ⟨_, rfl, ?_⟩
              have hL := hL.pushAll hF165
              simp only [List.cons_append, List.nil_append, List.set_cons_zero, List.set_cons_succ] at hL
              refine OW.cons (OP.yes' rfl rfl hb160 (OP.val (v := (.bool (!x161))) rfl (x_not rfl) ?_))
              refine OW.cons (OP.val (v := (.bool (!x161))) rfl (x_pickF' rfl hb160 rfl) ?_)
              refine OW.cons (OP.val (v := (.bool (!x161))) rfl (x_move) ?_)
              refine ifB_elim hm (fun hb166 hm => ?_) (fun hb166 hm => ?_)
              · refine OW.cons (OP.no' rfl rfl hb166 rfl ?_)
                refine OW.cons (OP.no' rfl rfl hb166 rfl ?_)
                refine OW.cons (OP.no' rfl rfl hb166 rfl ?_)
                refine OW.cons (OP.val (v := (.bool true)) rfl (x_pickT' rfl hb166 rfl) ?_)
                refine OW.nil ?_
                have hL := hL.sel [1, 3, 4, 5] (by decide) rfl
                exact ⟨true, hm, ⟨f57, f58, f59, f60, f61, f63, rfl, hL⟩⟩
              · refine OW.cons (OP.yes' rfl rfl hb166 (OP.val (v := (.int .i64 x42.2)) rfl (x_mv f64) ?_))
                refine OW.cons (OP.yes' rfl rfl hb166 (OP.val (v := (.int .i64 x23.2)) rfl (x_mv f61) ?_))
                refine OW.cons (OP.yes' rfl rfl hb166 (OP.val (v := (.bool (x42.2 != x23.2))) rfl (x_neq rfl rfl) ?_))
                refine OW.cons (OP.val (v := (.bool (x42.2 != x23.2))) rfl (x_pickF' rfl hb166 rfl) ?_)
                refine OW.nil ?_
                have hL := hL.sel [1, 3, 4, 5] (by decide) rfl
                exact ⟨x42.2 != x23.2, hm, ⟨f57, f58, f59, f60, f61, f63, rfl, hL⟩⟩
          · intro s_j2 F93 wd94 hJ hm
            unfold M.laws_FnExactBoundedBoats_j2 at hm
            obtain ⟨f95, f96, f97, f98, f99, f100, f101, hL⟩ := hJ
            refine CW.condM (t := s_j2) f101 hm (fun hb102 hm => ?_) (fun hb102 hm => ?_)
            · refine CW.seq ?_
              refine CW.regionL ?_
              refine OW.cons (OP.val (v := (.bool false)) rfl (x_assign) ?_)
              refine OW.nil ?_
              refine CW.ret ?_
              obtain rfl := Option.some.inj hm
              exact RR1 rfl rfl ⟨rfl, hL.fresh 3 rfl [] (by decide) (by decide) rfl⟩
            · refine CW.skip ?_
              refine CW.seq ?_
              refine CW.regionL ?_
              refine OW.cons (OP.val (v := (.int .i64 1)) rfl (x_assign) ?_)
              refine OW.nil ?_
              refine CW.seq ?_
              refine CW.regionL ?_
              refine OW.cons (OP.val (v := v45) rfl (x_mv f100) ?_)
              refine OW.cons (OP.val (v := (.int .i64 1)) rfl (x_move) ?_)
              obtain ⟨x103, hx104, hm⟩ := bndE hm
              refine OW.cons (OP.call rfl (x_call (vs := [v45, (.int .i64 1)]) Try_C26 ⟨rfl, rfl, trivial⟩) (M.laws_markInt64S_ok _ x42.1 (hL.get 0 rfl) 1 hx104) ?_)
              rintro e105 wd106 ⟨S108, rfl, hF107⟩
              refine ⟨_, rfl, ?_⟩
              have hL := hL.mut 0 rfl hF107
              simp only [List.cons_append, List.nil_append, List.set_cons_zero, List.set_cons_succ] at hL
              refine OW.cons (OP.val (v := (.int .i64 x103.1)) rfl (x_assign) ?_)
              refine OW.nil ?_
              refine CW.seq ?_
              refine CW.regionL ?_
              refine OW.cons (OP.val (v := (.int .i64 1)) rfl (x_assign) ?_)
              refine OW.nil ?_
              refine CW.seq ?_
              refine CW.regionL ?_
              refine OW.cons (OP.val (v := v45) rfl (x_mv f100) ?_)
              refine OW.cons (OP.val (v := (.int .i64 1)) rfl (x_move) ?_)
              obtain ⟨x109, hx110, hm⟩ := bndE hm
              refine OW.cons (OP.call rfl (x_call (vs := [v45, (.int .i64 1)]) Try_C27 ⟨rfl, rfl, trivial⟩) (M.laws_heldInt64S_ok _ x103.2 (hL.rdO 0 rfl) 1 hx110) ?_)
              rintro e111 wd112 ⟨rfl, hF113⟩
              refine ⟨_, rfl, ?_⟩
              have hL := hL.pushAll hF113
              simp only [List.cons_append, List.nil_append, List.set_cons_zero, List.set_cons_succ] at hL
              refine OW.cons (OP.val (v := (.int .i64 x109)) rfl (x_assign) ?_)
              refine OW.nil ?_
              refine CW.seq ?_
              refine CW.seq ?_
              refine CW.regionL ?_
              refine OW.cons (OP.val (v := (.int .i64 x109)) rfl (x_move) ?_)
              refine OW.cons (OP.val (v := (.bool (decide (x109 < 0)))) rfl (x_lss rfl rfl) ?_)
              refine OW.nil ?_
              refine CW.condM (t := decide (x109 < 0)) rfl hm (fun hb114 hm => ?_) (fun hb114 hm => ?_)
              · refine CW.seq ?_
                refine CW.regionL ?_
                refine OW.cons (OP.val (v := (.bool false)) rfl (x_assign) ?_)
                refine OW.nil ?_
                refine CW.ret ?_
                obtain rfl := Option.some.inj hm
                exact RR1 rfl rfl ⟨rfl, hL.fresh 3 rfl [] (by decide) (by decide) rfl⟩
              · refine CW.skip ?_
                refine CW.seq ?_
                refine CW.seq ?_
                refine CW.regionL ?_
                refine OW.cons (OP.val (v := (.int .i64 x109)) rfl (x_move) ?_)
                refine OW.cons (OP.val (v := (.int .i64 x103.1)) rfl (x_move) ?_)
                refine OW.cons (OP.val (v := (.bool (x109 != x103.1))) rfl (x_neq rfl rfl) ?_)
                refine OW.nil ?_
                refine CW.condM (t := x109 != x103.1) rfl hm (fun hb115 hm => ?_) (fun hb115 hm => ?_)
                · refine CW.seq ?_
                  refine CW.regionL ?_
                  refine OW.cons (OP.val (v := (.bool false)) rfl (x_assign) ?_)
                  refine OW.nil ?_
                  refine CW.ret ?_
                  obtain rfl := Option.some.inj hm
                  exact RR1 rfl rfl ⟨rfl, hL.fresh 3 rfl [] (by decide) (by decide) rfl⟩
                · refine CW.skip ?_
                  refine CW.seq ?_
                  refine CW.regionL ?_
                  refine OW.cons (OP.val (v := (.agg #[(.int .i64 a0.Gain), (.int .i64 a0.Step), (.int .i64 a0.Low), (.int .i64 a0.High)])) rfl (x_loadN (cs := [(.int .i64 a0.Gain), (.int .i64 a0.Step), (.int .i64 a0.Low), (.int .i64 a0.High)]) Try.underlying31 Try_T31 rfl f97 (hL.cellsB 2 rfl (o := 0) (l := [(.int .i64 a0.Gain), (.int .i64 a0.Step), (.int .i64 a0.Low), (.int .i64 a0.High)]) (by intro j u hj; exact (by simpa using hj)))) ?_)
                  obtain ⟨x116, hx117, hm⟩ := bndE hm
                  refine OW.cons (OP.call rfl (x_call (vs := [(.agg #[(.int .i64 a0.Gain), (.int .i64 a0.Step), (.int .i64 a0.Low), (.int .i64 a0.High)])]) Try_C20 ⟨rfl, trivial⟩) (M.laws_toProgressRules_ok _ a0 hx117) ?_)
                  rintro e118 wd119 ⟨rfl, hF120⟩
                  refine ⟨_, rfl, ?_⟩
                  have hL := hL.pushAll hF120
                  simp only [List.cons_append, List.nil_append, List.set_cons_zero, List.set_cons_succ] at hL
                  refine OW.cons (OP.val (v := (.int .i64 a1)) rfl (x_mv f95) ?_)
                  refine OW.cons (OP.val (v := v1) rfl (x_mv f96) ?_)
                  obtain ⟨x121, hx122, hm⟩ := bndE hm
                  refine OW.cons (OP.call rfl (x_call (vs := [v1]) Try_C21 ⟨rfl, trivial⟩) (M.laws_toRatingS_ok _ a2 (hL.rdS 3 rfl h2) hx122) ?_)
                  rintro e125 wd126 ⟨v124, S123, rfl, hF127⟩
                  refine ⟨_, rfl, ?_⟩
                  have hL := hL.pushAll hF127
                  simp only [List.cons_append, List.nil_append, List.set_cons_zero, List.set_cons_succ] at hL
                  obtain ⟨x128, hx129, hm⟩ := bndE hm
                  refine OW.cons (OP.call rfl (x_call (vs := [(.agg #[(.int .i64 x116.Gain), (.int .i64 x116.Step), (.int .i64 x116.Low), (.int .i64 x116.High)]), (.int .i64 a1), v124]) Try_C22 ⟨rfl, rfl, rfl, trivial⟩) (M.impl_BoundedBoats_ok _ x116 a1 x121 (hL.rdO 0 rfl) hx129) ?_)
                  rintro e132 wd133 ⟨v131, S130, rfl, hF134⟩
                  refine ⟨_, rfl, ?_⟩
                  have hL := hL.pushAll hF134
                  simp only [List.cons_append, List.nil_append, List.set_cons_zero, List.set_cons_succ] at hL
                  refine OW.cons (OP.val (v := (.tuple #[v131, (.int .i64 x128.2)])) rfl (x_move) ?_)
                  refine OW.cons (OP.val (v := v131) rfl (x_extract rfl rfl) ?_)
                  refine OW.cons (OP.val (v := (.int .i64 x128.2)) rfl (x_extract rfl rfl) ?_)
                  refine OW.cons (OP.val (v := v131) rfl (x_assign) ?_)
                  refine OW.cons (OP.val (v := (.int .i64 x128.2)) rfl (x_assign) ?_)
                  refine OW.nil ?_
                  refine CW.seq ?_
                  refine CW.seqJ (fun (s_j3 : Bool) (F : Fr) (w : World) => F 11 = v45 ∧ F 14 = (.int .i64 x103.1) ∧ F 100 = (.bool s_j3) ∧ Hp w0 [Ent.own 2 S108 v45 x103.2, Ent.blk b4 31 #[(.int .i64 a0.Gain), (.int .i64 a0.Step), (.int .i64 a0.Low), (.int .i64 a0.High)], Ent.snap w0 w0.heap.size] w) (fun s_j3 => M.laws_FnExactBoundedBoats_j3 x103 s_j3 = some r) ?_ ?_
                  · refine CW.regionL ?_
                    refine OW.cons (OP.val (v := v131) rfl (x_move) ?_)
                    refine OW.cons (OP.val (v := v26) rfl (x_mv f98) ?_)
                    obtain ⟨x154, hx155, hm⟩ := bndE hm
                    refine OW.cons (OP.call rfl (x_call (vs := [v131, v26]) Try_C23 ⟨rfl, rfl, trivial⟩) (M.laws_eqInt64S_ok _ x128.1 (hL.rdO 0 rfl) x23.1 (hL.rdO 3 rfl) hx155) ?_)
                    rintro e156 wd157 ⟨rfl, hF158⟩
                    refine ⟨_, rfl, ?_⟩
                    have hL := hL.pushAll hF158
                    simp only [List.cons_append, List.nil_append, List.set_cons_zero, List.set_cons_succ] at hL
                    refine OW.cons (OP.val (v := (.bool (!x154))) rfl (x_not rfl) ?_)
                    refine OW.cons (OP.val (v := (.bool (!x154))) rfl (x_move) ?_)
                    refine ifB_elim hm (fun hb159 hm => ?_) (fun hb159 hm => ?_)
                    · refine OW.cons (OP.no' rfl rfl hb159 rfl ?_)
                      refine OW.cons (OP.no' rfl rfl hb159 rfl ?_)
                      refine OW.cons (OP.no' rfl rfl hb159 rfl ?_)
                      refine OW.cons (OP.val (v := (.bool true)) rfl (x_pickT' rfl hb159 rfl) ?_)
                      refine OW.nil ?_
                      have hL := hL.sel [2, 4, 5] (by decide) rfl
                      exact ⟨true, hm, ⟨f100, rfl, rfl, hL⟩⟩
                    · refine OW.cons (OP.yes' rfl rfl hb159 (OP.val (v := (.int .i64 x128.2)) rfl (x_move) ?_))
                      refine OW.cons (OP.yes' rfl rfl hb159 (OP.val (v := (.int .i64 x23.2)) rfl (x_mv f99) ?_))
                      refine OW.cons (OP.yes' rfl rfl hb159 (OP.val (v := (.bool (x128.2 != x23.2))) rfl (x_neq rfl rfl) ?_))
                      refine OW.cons (OP.val (v := (.bool (x128.2 != x23.2))) rfl (x_pickF' rfl hb159 rfl) ?_)
                      refine OW.nil ?_
                      have hL := hL.sel [2, 4, 5] (by decide) rfl
                      exact ⟨x128.2 != x23.2, hm, ⟨f100, rfl, rfl, hL⟩⟩
                  · intro s_j3 F141 wd142 hJ hm
                    unfold M.laws_FnExactBoundedBoats_j3 at hm
                    obtain ⟨f143, f144, f145, hL⟩ := hJ
                    refine CW.condM (t := s_j3) f145 hm (fun hb146 hm => ?_) (fun hb146 hm => ?_)
                    · refine CW.seq ?_
                      refine CW.regionL ?_
                      refine OW.cons (OP.val (v := (.bool false)) rfl (x_assign) ?_)
                      refine OW.nil ?_
                      refine CW.ret ?_
                      obtain rfl := Option.some.inj hm
                      exact RR1 rfl rfl ⟨rfl, hL.fresh 2 rfl [] (by decide) (by decide) rfl⟩
                    · refine CW.skip ?_
                      refine CW.seq ?_
                      refine CW.regionL ?_
                      refine OW.cons (OP.val (v := (.int .i64 1)) rfl (x_assign) ?_)
                      refine OW.nil ?_
                      refine CW.seq ?_
                      refine CW.regionL ?_
                      refine OW.cons (OP.val (v := v45) rfl (x_mv f143) ?_)
                      refine OW.cons (OP.val (v := (.int .i64 1)) rfl (x_move) ?_)
                      obtain ⟨x147, hx148, hm⟩ := bndE hm
                      refine OW.cons (OP.call rfl (x_call (vs := [v45, (.int .i64 1)]) Try_C27 ⟨rfl, rfl, trivial⟩) (M.laws_heldInt64S_ok _ x103.2 (hL.rdO 0 rfl) 1 hx148) ?_)
                      rintro e149 wd150 ⟨rfl, hF151⟩
                      refine ⟨_, rfl, ?_⟩
                      have hL := hL.pushAll hF151
                      simp only [List.cons_append, List.nil_append, List.set_cons_zero, List.set_cons_succ] at hL
                      refine OW.cons (OP.val (v := (.int .i64 x147)) rfl (x_assign) ?_)
                      refine OW.nil ?_
                      refine CW.seq ?_
                      refine CW.seq ?_
                      refine CW.regionL ?_
                      refine OW.cons (OP.val (v := (.int .i64 x147)) rfl (x_move) ?_)
                      refine OW.cons (OP.val (v := (.bool (decide (x147 < 0)))) rfl (x_lss rfl rfl) ?_)
                      refine OW.nil ?_
                      refine CW.condM (t := decide (x147 < 0)) rfl hm (fun hb152 hm => ?_) (fun hb152 hm => ?_)
                      · refine CW.seq ?_
                        refine CW.regionL ?_
                        refine OW.cons (OP.val (v := (.bool false)) rfl (x_assign) ?_)
                        refine OW.nil ?_
                        refine CW.ret ?_
                        obtain rfl := Option.some.inj hm
                        exact RR1 rfl rfl ⟨rfl, hL.fresh 2 rfl [] (by decide) (by decide) rfl⟩
                      · refine CW.skip ?_
                        refine CW.seq ?_
                        refine CW.seq ?_
                        refine CW.regionL ?_
                        refine OW.cons (OP.val (v := (.int .i64 x147)) rfl (x_move) ?_)
                        refine OW.cons (OP.val (v := (.int .i64 x103.1)) rfl (x_mv f144) ?_)
                        refine OW.cons (OP.val (v := (.bool (x147 != x103.1))) rfl (x_neq rfl rfl) ?_)
                        refine OW.nil ?_
                        refine CW.condM (t := x147 != x103.1) rfl hm (fun hb153 hm => ?_) (fun hb153 hm => ?_)
                        · refine CW.seq ?_
                          refine CW.regionL ?_
                          refine OW.cons (OP.val (v := (.bool false)) rfl (x_assign) ?_)
                          refine OW.nil ?_
                          refine CW.ret ?_
                          obtain rfl := Option.some.inj hm
                          exact RR1 rfl rfl ⟨rfl, hL.fresh 2 rfl [] (by decide) (by decide) rfl⟩
                        · refine CW.skip ?_
                          refine CW.seq ?_
                          refine CW.regionL ?_
                          refine OW.cons (OP.val (v := (.bool true)) rfl (x_assign) ?_)
                          refine OW.nil ?_
                          refine CW.ret ?_
                          obtain rfl := Option.some.inj hm
                          exact RR1 rfl rfl ⟨rfl, hL.fresh 2 rfl [] (by decide) (by decide) rfl⟩

end Go.Proofs.Ytiacilijcnbblaa
