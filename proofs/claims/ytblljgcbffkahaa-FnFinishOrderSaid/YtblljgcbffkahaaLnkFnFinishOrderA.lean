/- Links: each Go function returns what its model computes and leaves what was there. Printed by my generator. -/
import Derived.Test.YtblljgcbffkahaaMod2
import Derived.Test.YtblljgcbffkahaaProg
import Derived.KernelRfl
namespace Go.Proofs.Ytblljgcbffkahaa
set_option maxRecDepth 10000
open Go Go.RowKit Go.ChangeShapes Go.WideShapes
set_option linter.unusedVariables false
set_option linter.unusedSimpArgs false

theorem Try_mixed : Try.prog.follows .mixedOrders = true := by kernel_rfl
theorem Try_T2 : TyI Try.prog 2 1 8 (.int .i64 0) := by unfold TyI; kernel_rfl
theorem Try_T3 : TyI Try.prog 3 1 8 (.int .i64 0) := by unfold TyI; kernel_rfl
theorem Try_T5 : TyI Try.prog 5 1 1 (.int .u8 0) := by unfold TyI; kernel_rfl
theorem Try_T22 : TyI Try.prog 22 1 24 (.slice none 0 0) := by unfold TyI; kernel_rfl
theorem Try_T24 : TyI Try.prog 24 1 24 (.agg #[.slice none 0 0]) := by unfold TyI; kernel_rfl
theorem Try_T27 : TyI Try.prog 27 1 24 (.slice none 0 0) := by unfold TyI; kernel_rfl
theorem Try_T29 : TyI Try.prog 29 1 24 (.agg #[.slice none 0 0]) := by unfold TyI; kernel_rfl
theorem Try_T33 : TyI Try.prog 33 1 24 (.slice none 0 0) := by unfold TyI; kernel_rfl
theorem Try_T35 : TyI Try.prog 35 3 56 (.agg #[.int .i64 0, .slice none 0 0, .slice none 0 0]) := by unfold TyI; kernel_rfl
theorem Try_T38 : TyI Try.prog 38 3 56 (.agg #[.int .i64 0, .slice none 0 0, .slice none 0 0]) := by unfold TyI; kernel_rfl
theorem Try_T42 : TyI Try.prog 42 1 24 (.slice none 0 0) := by unfold TyI; kernel_rfl
theorem Try_T44 : TyI Try.prog 44 3 40 (.agg #[.int .i64 0, .int .i64 0, .slice none 0 0]) := by unfold TyI; kernel_rfl
theorem Try_T47 : TyI Try.prog 47 1 24 (.slice none 0 0) := by unfold TyI; kernel_rfl
theorem Try_T49 : TyI Try.prog 49 3 40 (.agg #[.int .i64 0, .int .i64 0, .slice none 0 0]) := by unfold TyI; kernel_rfl
theorem Try_T53 : TyI Try.prog 53 1 24 (.slice none 0 0) := by unfold TyI; kernel_rfl
theorem Try_T59 : TyI Try.prog 59 1 24 (.slice none 0 0) := by unfold TyI; kernel_rfl
theorem Try_T88 : TyI Try.prog 88 3 24 (.agg #[.int .i64 0, .int .i64 0, .int .i64 0]) := by unfold TyI; kernel_rfl
theorem Try_T105 : TyI Try.prog 105 3 24 (.agg #[.int .i64 0, .int .i64 0, .int .i64 0]) := by unfold TyI; kernel_rfl
theorem Try_B29 : BuildI Try.prog 29 [(0, 1)] #[.slice none 0 0] := by unfold BuildI; kernel_rfl
theorem Try_B38 : BuildI Try.prog 38 [(0, 1), (1, 1), (2, 1)] #[.int .i64 0, .slice none 0 0, .slice none 0 0] := by unfold BuildI; kernel_rfl
theorem Try_B49 : BuildI Try.prog 49 [(0, 1), (1, 1), (2, 1)] #[.int .i64 0, .int .i64 0, .slice none 0 0] := by unfold BuildI; kernel_rfl
theorem Try_B88 : BuildI Try.prog 88 [(0, 1), (1, 1), (2, 1)] #[.int .i64 0, .int .i64 0, .int .i64 0] := by unfold BuildI; kernel_rfl
theorem Try_B111 : BuildI Try.prog 111 [(0, 1), (1, 1), (2, 1)] #[.slice none 0 0, .int .i64 0, .int .i64 0] := by unfold BuildI; kernel_rfl
theorem Try_C13 : CallOK Try.prog 13 := ⟨_, _, Try.func13, rfl, by kernel_rfl⟩
theorem Try_C14 : CallOK Try.prog 14 := ⟨_, _, Try.func14, rfl, by kernel_rfl⟩
theorem Try_C15 : CallOK Try.prog 15 := ⟨_, _, Try.func15, rfl, by kernel_rfl⟩
theorem Try_C16 : CallOK Try.prog 16 := ⟨_, _, Try.func16, rfl, by kernel_rfl⟩
theorem Try_C17 : CallOK Try.prog 17 := ⟨_, _, Try.func17, rfl, by kernel_rfl⟩
theorem Try_C18 : CallOK Try.prog 18 := ⟨_, _, Try.func18, rfl, by kernel_rfl⟩
theorem Try_C19 : CallOK Try.prog 19 := ⟨_, _, Try.func19, rfl, by kernel_rfl⟩
theorem Try_C20 : CallOK Try.prog 20 := ⟨_, _, Try.func20, rfl, by kernel_rfl⟩
theorem Try_C21 : CallOK Try.prog 21 := ⟨_, _, Try.func21, rfl, by kernel_rfl⟩
theorem Try_C22 : CallOK Try.prog 22 := ⟨_, _, Try.func22, rfl, by kernel_rfl⟩
theorem Try_C23 : CallOK Try.prog 23 := ⟨_, _, Try.func23, rfl, by kernel_rfl⟩
theorem Try_C24 : CallOK Try.prog 24 := ⟨_, _, Try.func24, rfl, by kernel_rfl⟩
theorem Try_C25 : CallOK Try.prog 25 := ⟨_, _, Try.func25, rfl, by kernel_rfl⟩
theorem Try_C26 : CallOK Try.prog 26 := ⟨_, _, Try.func26, rfl, by kernel_rfl⟩
theorem Try_C27 : CallOK Try.prog 27 := ⟨_, _, Try.func27, rfl, by kernel_rfl⟩
theorem Try_C28 : CallOK Try.prog 28 := ⟨_, _, Try.func28, rfl, by kernel_rfl⟩
theorem Try_C29 : CallOK Try.prog 29 := ⟨_, _, Try.func29, rfl, by kernel_rfl⟩
theorem Try_C30 : CallOK Try.prog 30 := ⟨_, _, Try.func30, rfl, by kernel_rfl⟩
theorem Try_C31 : CallOK Try.prog 31 := ⟨_, _, Try.func31, rfl, by kernel_rfl⟩
theorem Try_C32 : CallOK Try.prog 32 := ⟨_, _, Try.func32, rfl, by kernel_rfl⟩
theorem Try_C33 : CallOK Try.prog 33 := ⟨_, _, Try.func33, rfl, by kernel_rfl⟩
theorem Try_C34 : CallOK Try.prog 34 := ⟨_, _, Try.func34, rfl, by kernel_rfl⟩
theorem Try_C35 : CallOK Try.prog 35 := ⟨_, _, Try.func35, rfl, by kernel_rfl⟩
theorem Try_C36 : CallOK Try.prog 36 := ⟨_, _, Try.func36, rfl, by kernel_rfl⟩
theorem Try_C37 : CallOK Try.prog 37 := ⟨_, _, Try.func37, rfl, by kernel_rfl⟩
theorem Try_C38 : CallOK Try.prog 38 := ⟨_, _, Try.func38, rfl, by kernel_rfl⟩
theorem Try_C39 : CallOK Try.prog 39 := ⟨_, _, Try.func39, rfl, by kernel_rfl⟩
theorem Try_C40 : CallOK Try.prog 40 := ⟨_, _, Try.func40, rfl, by kernel_rfl⟩
theorem Try_C41 : CallOK Try.prog 41 := ⟨_, _, Try.func41, rfl, by kernel_rfl⟩
theorem Try_C42 : CallOK Try.prog 42 := ⟨_, _, Try.func42, rfl, by kernel_rfl⟩
theorem Try_C43 : CallOK Try.prog 43 := ⟨_, _, Try.func43, rfl, by kernel_rfl⟩
theorem Try_C44 : CallOK Try.prog 44 := ⟨_, _, Try.func44, rfl, by kernel_rfl⟩
theorem Try_C45 : CallOK Try.prog 45 := ⟨_, _, Try.func45, rfl, by kernel_rfl⟩
theorem Try_C46 : CallOK Try.prog 46 := ⟨_, _, Try.func46, rfl, by kernel_rfl⟩
theorem Try_C47 : CallOK Try.prog 47 := ⟨_, _, Try.func47, rfl, by kernel_rfl⟩
theorem Try_C48 : CallOK Try.prog 48 := ⟨_, _, Try.func48, rfl, by kernel_rfl⟩
theorem Try_C49 : CallOK Try.prog 49 := ⟨_, _, Try.func49, rfl, by kernel_rfl⟩
theorem Try_C50 : CallOK Try.prog 50 := ⟨_, _, Try.func50, rfl, by kernel_rfl⟩
theorem Try_C51 : CallOK Try.prog 51 := ⟨_, _, Try.func51, rfl, by kernel_rfl⟩
theorem Try_C52 : CallOK Try.prog 52 := ⟨_, _, Try.func52, rfl, by kernel_rfl⟩
theorem Try_C53 : CallOK Try.prog 53 := ⟨_, _, Try.func53, rfl, by kernel_rfl⟩
theorem Try_C54 : CallOK Try.prog 54 := ⟨_, _, Try.func54, rfl, by kernel_rfl⟩
theorem Try_C55 : CallOK Try.prog 55 := ⟨_, _, Try.func55, rfl, by kernel_rfl⟩
theorem Try_C56 : CallOK Try.prog 56 := ⟨_, _, Try.func56, rfl, by kernel_rfl⟩
theorem Try_C57 : CallOK Try.prog 57 := ⟨_, _, Try.func57, rfl, by kernel_rfl⟩
theorem Try_C58 : CallOK Try.prog 58 := ⟨_, _, Try.func58, rfl, by kernel_rfl⟩
theorem Try_C59 : CallOK Try.prog 59 := ⟨_, _, Try.func59, rfl, by kernel_rfl⟩
theorem Try_C60 : CallOK Try.prog 60 := ⟨_, _, Try.func60, rfl, by kernel_rfl⟩
theorem Try_C61 : CallOK Try.prog 61 := ⟨_, _, Try.func61, rfl, by kernel_rfl⟩
theorem Try_C62 : CallOK Try.prog 62 := ⟨_, _, Try.func62, rfl, by kernel_rfl⟩
theorem Try_C63 : CallOK Try.prog 63 := ⟨_, _, Try.func63, rfl, by kernel_rfl⟩
theorem Try_C64 : CallOK Try.prog 64 := ⟨_, _, Try.func64, rfl, by kernel_rfl⟩
theorem Try_C65 : CallOK Try.prog 65 := ⟨_, _, Try.func65, rfl, by kernel_rfl⟩
theorem Try_C66 : CallOK Try.prog 66 := ⟨_, _, Try.func66, rfl, by kernel_rfl⟩
theorem Try_C67 : CallOK Try.prog 67 := ⟨_, _, Try.func67, rfl, by kernel_rfl⟩
theorem Try_C68 : CallOK Try.prog 68 := ⟨_, _, Try.func68, rfl, by kernel_rfl⟩
theorem Try_C69 : CallOK Try.prog 69 := ⟨_, _, Try.func69, rfl, by kernel_rfl⟩
theorem Try_C70 : CallOK Try.prog 70 := ⟨_, _, Try.func70, rfl, by kernel_rfl⟩
theorem Try_C71 : CallOK Try.prog 71 := ⟨_, _, Try.func71, rfl, by kernel_rfl⟩
theorem Try_C72 : CallOK Try.prog 72 := ⟨_, _, Try.func72, rfl, by kernel_rfl⟩
theorem Try_C73 : CallOK Try.prog 73 := ⟨_, _, Try.func73, rfl, by kernel_rfl⟩
theorem Try_C74 : CallOK Try.prog 74 := ⟨_, _, Try.func74, rfl, by kernel_rfl⟩
theorem Try_C75 : CallOK Try.prog 75 := ⟨_, _, Try.func75, rfl, by kernel_rfl⟩
theorem Try_C76 : CallOK Try.prog 76 := ⟨_, _, Try.func76, rfl, by kernel_rfl⟩
theorem Try_C77 : CallOK Try.prog 77 := ⟨_, _, Try.func77, rfl, by kernel_rfl⟩
theorem Try_C78 : CallOK Try.prog 78 := ⟨_, _, Try.func78, rfl, by kernel_rfl⟩
theorem Try_C79 : CallOK Try.prog 79 := ⟨_, _, Try.func79, rfl, by kernel_rfl⟩
theorem Try_C80 : CallOK Try.prog 80 := ⟨_, _, Try.func80, rfl, by kernel_rfl⟩
theorem Try_C81 : CallOK Try.prog 81 := ⟨_, _, Try.func81, rfl, by kernel_rfl⟩
theorem Try_C82 : CallOK Try.prog 82 := ⟨_, _, Try.func82, rfl, by kernel_rfl⟩
theorem Try_C83 : CallOK Try.prog 83 := ⟨_, _, Try.func83, rfl, by kernel_rfl⟩
theorem Try_C84 : CallOK Try.prog 84 := ⟨_, _, Try.func84, rfl, by kernel_rfl⟩
theorem Try_C85 : CallOK Try.prog 85 := ⟨_, _, Try.func85, rfl, by kernel_rfl⟩
theorem Try_C86 : CallOK Try.prog 86 := ⟨_, _, Try.func86, rfl, by kernel_rfl⟩
theorem Try_C87 : CallOK Try.prog 87 := ⟨_, _, Try.func87, rfl, by kernel_rfl⟩
theorem Try_C88 : CallOK Try.prog 88 := ⟨_, _, Try.func88, rfl, by kernel_rfl⟩
theorem Try_C89 : CallOK Try.prog 89 := ⟨_, _, Try.func89, rfl, by kernel_rfl⟩
theorem Try_C90 : CallOK Try.prog 90 := ⟨_, _, Try.func90, rfl, by kernel_rfl⟩
theorem Try_C91 : CallOK Try.prog 91 := ⟨_, _, Try.func91, rfl, by kernel_rfl⟩
theorem Try_C92 : CallOK Try.prog 92 := ⟨_, _, Try.func92, rfl, by kernel_rfl⟩
theorem Try_C93 : CallOK Try.prog 93 := ⟨_, _, Try.func93, rfl, by kernel_rfl⟩
theorem Try_C94 : CallOK Try.prog 94 := ⟨_, _, Try.func94, rfl, by kernel_rfl⟩
theorem Try_C95 : CallOK Try.prog 95 := ⟨_, _, Try.func95, rfl, by kernel_rfl⟩
theorem Try_C96 : CallOK Try.prog 96 := ⟨_, _, Try.func96, rfl, by kernel_rfl⟩
theorem Try_C97 : CallOK Try.prog 97 := ⟨_, _, Try.func97, rfl, by kernel_rfl⟩

theorem M.spec_l01In_ok (w0 : World) (a0 : Int) (a1 : Int) (a2 : Int) {r : Bool} (hm : M.spec_l01In a0 a1 a2 = some r) :
    Calls Try.prog 51 #[(.int .i64 a0), (.int .i64 a1), (.int .i64 a2)] w0 fun e w' => e = .returned (.bool r) ∧ Fresh w0 w' [] := by
  unfold M.spec_l01In at hm
  refine calls_CW (args := [(.int .i64 a0), (.int .i64 a1), (.int .i64 a2)]) Try.func51 rfl rfl rfl ?_
  have hL := Hp.start w0
  refine CW.seq ?_
  refine CW.regionL ?_
  refine OW.cons (OP.val (v := (.bool false)) rfl (x_assign) ?_)
  refine OW.nil ?_
  refine CW.seqJ (fun (s_j1 : Bool) (F : Fr) (w : World) => F 6 = (.bool s_j1) ∧ Hp w0 [Ent.snap w0 w0.heap.size] w) (fun s_j1 => M.spec_l01In_j1 s_j1 = some r) ?_ ?_
  · refine CW.regionL ?_
    refine OW.cons (OP.val (v := (.int .i64 a0)) rfl (x_move) ?_)
    refine OW.cons (OP.val (v := (.int .i64 a1)) rfl (x_move) ?_)
    refine OW.cons (OP.val (v := (.bool (decide (a1 ≤ a0)))) rfl (x_geq rfl rfl) ?_)
    refine OW.cons (OP.val (v := (.bool (decide (a1 ≤ a0)))) rfl (x_move) ?_)
    refine ifB_elim hm (fun hb5 hm => ?_) (fun hb5 hm => ?_)
    · refine OW.cons (OP.yes' rfl rfl hb5 (OP.val (v := (.int .i64 a0)) rfl (x_move) ?_))
      refine OW.cons (OP.yes' rfl rfl hb5 (OP.val (v := (.int .i64 a2)) rfl (x_move) ?_))
      refine OW.cons (OP.yes' rfl rfl hb5 (OP.val (v := (.bool (decide (a0 ≤ a2)))) rfl (x_leq rfl rfl) ?_))
      refine OW.cons (OP.val (v := (.bool (decide (a0 ≤ a2)))) rfl (x_pickT' rfl hb5 rfl) ?_)
      refine OW.cons (OP.val (v := (.bool (decide (a0 ≤ a2)))) rfl (x_assign) ?_)
      refine OW.nil ?_
      exact ⟨decide (a0 ≤ a2), hm, ⟨rfl, hL⟩⟩
    · refine OW.cons (OP.no' rfl rfl hb5 rfl ?_)
      refine OW.cons (OP.no' rfl rfl hb5 rfl ?_)
      refine OW.cons (OP.no' rfl rfl hb5 rfl ?_)
      refine OW.cons (OP.val (v := (.bool false)) rfl (x_pickF' rfl hb5 rfl) ?_)
      refine OW.cons (OP.val (v := (.bool false)) rfl (x_assign) ?_)
      refine OW.nil ?_
      exact ⟨false, hm, ⟨rfl, hL⟩⟩
  · intro s_j1 F2 wd3 hJ hm
    unfold M.spec_l01In_j1 at hm
    obtain ⟨f4, hL⟩ := hJ
    refine CW.ret ?_
    obtain rfl := Option.some.inj hm
    exact RR1 rfl f4 ⟨rfl, hL.fresh 0 rfl [] (by decide) (by decide) rfl⟩

theorem M.spec_l26Code_ok (w0 : World) (a0 : Int) {r : Bool} (hm : M.spec_l26Code a0 = some r) :
    Calls Try.prog 57 #[(.int .i64 a0)] w0 fun e w' => e = .returned (.bool r) ∧ Fresh w0 w' [] := by
  unfold M.spec_l26Code at hm
  refine calls_CW (args := [(.int .i64 a0)]) Try.func57 rfl rfl rfl ?_
  have hL := Hp.start w0
  refine CW.seq ?_
  refine CW.regionL ?_
  refine OW.cons (OP.val (v := (.bool false)) rfl (x_assign) ?_)
  refine OW.nil ?_
  refine CW.seq ?_
  refine CW.regionL ?_
  refine OW.cons (OP.val (v := (.int .i64 a0)) rfl (x_move) ?_)
  obtain ⟨x1, hx2, hm⟩ := bndE hm
  refine OW.cons (OP.call rfl (x_call (vs := [(.int .i64 a0), (.int .i64 0), (.int .i64 9)]) Try_C51 ⟨rfl, rfl, rfl, trivial⟩) (M.spec_l01In_ok _ a0 0 9 hx2) ?_)
  rintro e3 wd4 ⟨rfl, hF5⟩
  refine ⟨_, rfl, ?_⟩
  have hL := hL.pushAll hF5
  simp only [List.cons_append, List.nil_append, List.set_cons_zero, List.set_cons_succ] at hL
  refine OW.cons (OP.val (v := (.bool x1)) rfl (x_assign) ?_)
  refine OW.nil ?_
  refine CW.ret ?_
  obtain rfl := Option.some.inj hm
  exact RR1 rfl rfl ⟨rfl, hL.fresh 0 rfl [] (by decide) (by decide) rfl⟩

theorem M.spec_l26Race_ok (w0 : World) (a0 : Int) (a1 : Race) {v1 : Value} (h2 : rdL (· < w0.heap.size) w0 v1 a1.Finishes) {r : Bool} (hm : M.spec_l26Race a0 a1 = some r) :
    Calls Try.prog 52 #[(.int .i64 a0), (.agg #[v1])] w0 fun e w' => e = .returned (.bool r) ∧ Fresh w0 w' [] := by
  unfold M.spec_l26Race at hm
  refine calls_CW (args := [(.int .i64 a0), (.agg #[v1])]) Try.func52 rfl rfl rfl ?_
  have hL := Hp.start w0
  refine CW.seq ?_
  refine CW.regionL ?_
  refine OW.cons (S_box (cs := #[v1]) hL rfl rfl rfl ?_)
  intro wd3 b4 hL
  refine OW.cons (OP.val (v := (.bool false)) rfl (x_assign) ?_)
  refine OW.nil ?_
  refine CW.seq ?_
  refine CW.seq ?_
  refine CW.regionL ?_
  refine OW.cons (OP.val (v := (.pointer (some ⟨b4, 0, none⟩))) rfl (x_fieldAddr (fsz := 1) 0 0 0 Try.underlying29 rfl Try_T27 rfl rfl rfl) ?_)
  refine OW.cons (OP.val (v := v1) rfl (x_load1 Try.underlying27 rfl rfl (hL.cellB 0 rfl rfl)) ?_)
  refine OW.cons (OP.val (v := (.int .i64 (a1.Finishes.length : Int))) rfl (x_lenR Try.underlying27 rfl (hL.rdS 1 rfl h2)) ?_)
  refine OW.cons (OP.val (v := (.int .i64 a0)) rfl (x_move) ?_)
  refine OW.cons (OP.val (v := (.bool ((a1.Finishes.length : Int) != a0))) rfl (x_neq rfl rfl) ?_)
  refine OW.nil ?_
  refine CW.condM (t := (a1.Finishes.length : Int) != a0) rfl hm (fun hb5 hm => ?_) (fun hb5 hm => ?_)
  · refine CW.seq ?_
    refine CW.regionL ?_
    refine OW.cons (OP.val (v := (.bool false)) rfl (x_assign) ?_)
    refine OW.nil ?_
    refine CW.ret ?_
    obtain rfl := Option.some.inj hm
    exact RR1 rfl rfl ⟨rfl, hL.fresh 1 rfl [] (by decide) (by decide) rfl⟩
  · refine CW.skip ?_
    refine CW.seq ?_
    refine CW.seq ?_
    refine CW.regionL ?_
    refine OW.cons (OP.val (v := (.int .i64 0)) rfl (x_assign) ?_)
    refine OW.nil ?_
    obtain ⟨o116, ho117, hm⟩ := bndE hm
    refine CW.loopB (fun (s_l1 : Int) (F : Fr) (w : World) => F 3 = (.pointer (some ⟨b4, 0, none⟩)) ∧ F 5 = (.int .i64 s_l1) ∧ Hp w0 [Ent.blk b4 29 #[v1], Ent.snap w0 w0.heap.size] w) (fun o => outc o (fun x => some x) (fun s => M.spec_l26Race_a1 s) = some r) ho117 hm ⟨rfl, rfl, hL⟩ ?_ ?_
    · intro s_l1 F118 wd119 hJ hm
      have hm := outcE hm
      have hm : M.spec_l26Race_a1 s_l1 = some r := hm
      unfold M.spec_l26Race_a1 at hm
      obtain ⟨f120, f121, hL⟩ := hJ
      refine CW.seq ?_
      refine CW.regionL ?_
      refine OW.cons (OP.val (v := (.bool true)) rfl (x_assign) ?_)
      refine OW.nil ?_
      refine CW.ret ?_
      obtain rfl := Option.some.inj hm
      exact RR1 rfl rfl ⟨rfl, hL.fresh 1 rfl [] (by decide) (by decide) rfl⟩
    · intro s_l1 F122 wd123 t114 hJ hm hr115
      unfold M.spec_l26Race_l1 at hm
      obtain ⟨f124, f125, hL⟩ := hJ
      refine CW.seq ?_
      refine CW.seq ?_
      refine CW.regionL ?_
      refine OW.cons (OP.val (v := (.int .i64 s_l1)) rfl (x_mv f125) ?_)
      refine OW.cons (OP.val (v := (.pointer (some ⟨b4, 0, none⟩))) rfl (x_fieldAddr (fsz := 1) 0 0 0 Try.underlying29 rfl Try_T27 rfl f124 rfl) ?_)
      refine OW.cons (OP.val (v := v1) rfl (x_load1 Try.underlying27 rfl rfl (hL.cellB 0 rfl rfl)) ?_)
      refine OW.cons (OP.val (v := (.int .i64 (a1.Finishes.length : Int))) rfl (x_lenR Try.underlying27 rfl (hL.rdS 1 rfl h2)) ?_)
      refine OW.cons (OP.val (v := (.bool (decide (s_l1 < (a1.Finishes.length : Int))))) rfl (x_lss rfl rfl) ?_)
      refine OW.nil ?_
      refine CW.condM (t := decide (s_l1 < (a1.Finishes.length : Int))) rfl hm (fun hb126 hm => ?_) (fun hb126 hm => ?_)
      · refine CW.skip ?_
        refine CW.seq ?_
        refine CW.block ?_
        refine CW.seq ?_
        refine CW.regionL ?_
        refine OW.cons (OP.val (v := (.pointer (some ⟨b4, 0, none⟩))) rfl (x_fieldAddr (fsz := 1) 0 0 0 Try.underlying29 rfl Try_T27 rfl f124 rfl) ?_)
        refine OW.cons (OP.val (v := v1) rfl (x_load1 Try.underlying27 rfl rfl (hL.cellB 0 rfl rfl)) ?_)
        refine OW.cons (OP.val (v := (.int .i64 s_l1)) rfl (x_mv f125) ?_)
        obtain ⟨x127, ha128, hm⟩ := bndE hm
        obtain ⟨hz129, ha133⟩ := idxE ha128
        obtain ⟨b130, q131, hix132⟩ := rdL_ix (hL.rdS 1 rfl h2) hz129 ha133
        refine OW.cons (OP.val (v := (.pointer (some ⟨b130, q131, none⟩))) rfl (x_ix Try.underlying27 Try_T88 rfl rfl hix132) ?_)
        refine OW.cons (OP.val (v := (.agg #[(.int .i64 x127.Boat), (.int .i64 x127.Code), (.int .i64 x127.Time)])) rfl (x_loadN (cs := [(.int .i64 x127.Boat), (.int .i64 x127.Code), (.int .i64 x127.Time)]) Try.underlying88 Try_T88 rfl rfl (rdF_cells (hL.rdS 1 rfl h2) hix132 ha133)) ?_)
        refine OW.cons (S_alloc (cs := #[(.int .i64 0), (.int .i64 0), (.int .i64 0)]) hL Try_T88 rfl rfl ?_)
        intro wd134 b135 hL
        refine OW.cons (S_storeN (l := [(.int .i64 x127.Boat), (.int .i64 x127.Code), (.int .i64 x127.Time)]) (cs' := #[(.int .i64 x127.Boat), (.int .i64 x127.Code), (.int .i64 x127.Time)]) hL 0 rfl Try_T88 rfl rfl (List.forall_mem_cons.2 ⟨rfl, (List.forall_mem_cons.2 ⟨rfl, (List.forall_mem_cons.2 ⟨rfl, (fun _ h => by cases h)⟩)⟩)⟩) rfl (Nat.le_of_ble_eq_true rfl) rfl ?_)
        intro wd136 hL
        refine OW.nil ?_
        refine CW.seq ?_
        refine CW.seqJ (fun (s_j1 : Bool) (F : Fr) (w : World) => F 3 = (.pointer (some ⟨b4, 0, none⟩)) ∧ F 5 = (.int .i64 s_l1) ∧ F 6 = (.pointer (some ⟨b135, 0, none⟩)) ∧ F 33 = (.bool s_j1) ∧ Hp w0 [Ent.blk b135 88 #[(.int .i64 x127.Boat), (.int .i64 x127.Code), (.int .i64 x127.Time)], Ent.blk b4 29 #[v1], Ent.snap w0 w0.heap.size] w) (fun s_j1 => M.spec_l26Race_j1 s_l1 x127 s_j1 = some t114) ?_ ?_
        · refine CW.regionL ?_
          refine OW.cons (OP.val (v := (.pointer (some ⟨b135, 0, none⟩))) rfl (x_fieldAddr (fsz := 1) 0 0 0 Try.underlying88 rfl Try_T2 rfl rfl rfl) ?_)
          refine OW.cons (OP.val (v := (.int .i64 x127.Boat)) rfl (x_load1 Try.underlying2 rfl rfl (hL.cellB 0 rfl rfl)) ?_)
          refine OW.cons (OP.val (v := (.int .i64 s_l1)) rfl (x_mv f125) ?_)
          refine OW.cons (OP.val (v := (.bool (x127.Boat != s_l1))) rfl (x_neq rfl rfl) ?_)
          refine OW.cons (OP.val (v := (.bool (x127.Boat != s_l1))) rfl (x_move) ?_)
          refine ifB_elim hm (fun hb174 hm => ?_) (fun hb174 hm => ?_)
          · refine OW.cons (OP.no' rfl rfl hb174 rfl ?_)
            refine OW.cons (OP.no' rfl rfl hb174 rfl ?_)
            refine OW.cons (OP.no' rfl rfl hb174 rfl ?_)
            refine OW.cons (OP.no' rfl rfl hb174 rfl ?_)
            refine OW.cons (OP.val (v := (.bool true)) rfl (x_pickT' rfl hb174 rfl) ?_)
            refine OW.nil ?_
            exact ⟨true, hm, ⟨f124, f125, rfl, rfl, hL⟩⟩
          · refine OW.cons (OP.yes' rfl rfl hb174 (OP.val (v := (.pointer (some ⟨b135, 1, none⟩))) rfl (x_fieldAddr (fsz := 1) 0 1 1 Try.underlying88 rfl Try_T2 rfl rfl rfl) ?_))
            refine OW.cons (OP.yes' rfl rfl hb174 (OP.val (v := (.int .i64 x127.Code)) rfl (x_load1 Try.underlying2 rfl rfl (hL.cellB 0 rfl rfl)) ?_))
            obtain ⟨x175, hx176, hm⟩ := bndE hm
            refine OW.cons (OP.yes' rfl rfl hb174 (OP.call rfl (x_call (vs := [(.int .i64 x127.Code)]) Try_C57 ⟨rfl, trivial⟩) (M.spec_l26Code_ok _ x127.Code hx176) ?_))
            rintro e177 wd178 ⟨rfl, hF179⟩
            refine ⟨_, rfl, ?_⟩
            have hL := hL.pushAll hF179
            simp only [List.cons_append, List.nil_append, List.set_cons_zero, List.set_cons_succ] at hL
            refine OW.cons (OP.yes' rfl rfl hb174 (OP.val (v := (.bool (!x175))) rfl (x_not rfl) ?_))
            refine OW.cons (OP.val (v := (.bool (!x175))) rfl (x_pickF' rfl hb174 rfl) ?_)
            refine OW.nil ?_
            exact ⟨!x175, hm, ⟨f124, f125, rfl, rfl, hL⟩⟩
        · intro s_j1 F143 wd144 hJ hm
          unfold M.spec_l26Race_j1 at hm
          obtain ⟨f145, f146, f147, f148, hL⟩ := hJ
          refine CW.condM (t := s_j1) f148 hm (fun hb149 hm => ?_) (fun hb149 hm => ?_)
          · refine CW.seq ?_
            refine CW.regionL ?_
            refine OW.cons (OP.val (v := (.bool false)) rfl (x_assign) ?_)
            refine OW.nil ?_
            refine CW.ret ?_
            obtain rfl := Option.some.inj hm
            have hm := hr115 _ rfl
            obtain rfl := Option.some.inj hm
            exact RR1 rfl rfl ⟨rfl, hL.fresh 2 rfl [] (by decide) (by decide) rfl⟩
          · refine CW.skip ?_
            refine CW.seqJ (fun (s_j2 : Bool) (F : Fr) (w : World) => F 3 = (.pointer (some ⟨b4, 0, none⟩)) ∧ F 5 = (.int .i64 s_l1) ∧ F 52 = (.bool s_j2) ∧ Hp w0 [Ent.blk b135 88 #[(.int .i64 x127.Boat), (.int .i64 x127.Code), (.int .i64 x127.Time)], Ent.blk b4 29 #[v1], Ent.snap w0 w0.heap.size] w) (fun s_j2 => M.spec_l26Race_j2 s_l1 s_j2 = some t114) ?_ ?_
            · refine CW.regionL ?_
              refine OW.cons (OP.val (v := (.pointer (some ⟨b135, 1, none⟩))) rfl (x_fieldAddr (fsz := 1) 0 1 1 Try.underlying88 rfl Try_T2 rfl f147 rfl) ?_)
              refine OW.cons (OP.val (v := (.int .i64 x127.Code)) rfl (x_load1 Try.underlying2 rfl rfl (hL.cellB 0 rfl rfl)) ?_)
              refine OW.cons (OP.val (v := (.bool (x127.Code == 0))) rfl (x_eql rfl rfl) ?_)
              refine OW.cons (OP.val (v := (.bool (x127.Code == 0))) rfl (x_move) ?_)
              refine ifB_elim hm (fun hb165 hm => ?_) (fun hb165 hm => ?_)
              · refine OW.cons (OP.yes' rfl rfl hb165 (OP.val (v := (.pointer (some ⟨b135, 2, none⟩))) rfl (x_fieldAddr (fsz := 1) 0 2 2 Try.underlying88 rfl Try_T2 rfl f147 rfl) ?_))
                refine OW.cons (OP.yes' rfl rfl hb165 (OP.val (v := (.int .i64 x127.Time)) rfl (x_load1 Try.underlying2 rfl rfl (hL.cellB 0 rfl rfl)) ?_))
                obtain ⟨x166, hx167, hm⟩ := bndE hm
                refine OW.cons (OP.yes' rfl rfl hb165 (OP.call rfl (x_call (vs := [(.int .i64 x127.Time), (.int .i64 1), (.int .i64 1000000000)]) Try_C51 ⟨rfl, rfl, rfl, trivial⟩) (M.spec_l01In_ok _ x127.Time 1 1000000000 hx167) ?_))
                rintro e168 wd169 ⟨rfl, hF170⟩
                refine ⟨_, rfl, ?_⟩
                have hL := hL.pushAll hF170
                simp only [List.cons_append, List.nil_append, List.set_cons_zero, List.set_cons_succ] at hL
                refine OW.cons (OP.yes' rfl rfl hb165 (OP.val (v := (.bool (!x166))) rfl (x_not rfl) ?_))
                refine OW.cons (OP.val (v := (.bool (!x166))) rfl (x_pickT' rfl hb165 rfl) ?_)
                refine OW.cons (OP.val (v := (.bool (!x166))) rfl (x_move) ?_)
                refine ifB_elim hm (fun hb171 hm => ?_) (fun hb171 hm => ?_)
                · refine OW.cons (OP.no' rfl rfl hb171 rfl ?_)
                  refine OW.cons (OP.no' rfl rfl hb171 rfl ?_)
                  refine OW.cons (OP.no' rfl rfl hb171 rfl ?_)
                  refine OW.cons (OP.no' rfl rfl hb171 rfl ?_)
                  refine OW.cons (OP.noU rfl rfl rfl ?_)
                  refine OW.cons (OP.noU rfl rfl rfl ?_)
                  refine OW.cons (OP.noU rfl rfl rfl ?_)
                  refine OW.cons (OP.no' rfl rfl hb171 rfl ?_)
                  refine OW.cons (OP.val (v := (.bool true)) rfl (x_pickT' rfl hb171 rfl) ?_)
                  refine OW.nil ?_
                  exact ⟨true, hm, ⟨f145, f146, rfl, hL⟩⟩
                · refine OW.cons (OP.yes' rfl rfl hb171 (OP.val (v := (.pointer (some ⟨b135, 1, none⟩))) rfl (x_fieldAddr (fsz := 1) 0 1 1 Try.underlying88 rfl Try_T2 rfl f147 rfl) ?_))
                  refine OW.cons (OP.yes' rfl rfl hb171 (OP.val (v := (.int .i64 x127.Code)) rfl (x_load1 Try.underlying2 rfl rfl (hL.cellB 0 rfl rfl)) ?_))
                  refine OW.cons (OP.yes' rfl rfl hb171 (OP.val (v := (.bool (x127.Code != 0))) rfl (x_neq rfl rfl) ?_))
                  refine OW.cons (OP.yes' rfl rfl hb171 (OP.val (v := (.bool (x127.Code != 0))) rfl (x_move) ?_))
                  refine ifB_elim hm (fun hb172 hm => ?_) (fun hb172 hm => ?_)
                  · refine OW.cons (OP.yes' rfl rfl hb172 (OP.val (v := (.pointer (some ⟨b135, 2, none⟩))) rfl (x_fieldAddr (fsz := 1) 0 2 2 Try.underlying88 rfl Try_T2 rfl f147 rfl) ?_))
                    refine OW.cons (OP.yes' rfl rfl hb172 (OP.val (v := (.int .i64 x127.Time)) rfl (x_load1 Try.underlying2 rfl rfl (hL.cellB 0 rfl rfl)) ?_))
                    refine OW.cons (OP.yes' rfl rfl hb172 (OP.val (v := (.bool (x127.Time != 0))) rfl (x_neq rfl rfl) ?_))
                    refine OW.cons (OP.yes' rfl rfl hb171 (OP.val (v := (.bool (x127.Time != 0))) rfl (x_pickT' rfl hb172 rfl) ?_))
                    refine OW.cons (OP.val (v := (.bool (x127.Time != 0))) rfl (x_pickF' rfl hb171 rfl) ?_)
                    refine OW.nil ?_
                    exact ⟨x127.Time != 0, hm, ⟨f145, f146, rfl, hL⟩⟩
                  · refine OW.cons (OP.no' rfl rfl hb172 rfl ?_)
                    refine OW.cons (OP.no' rfl rfl hb172 rfl ?_)
                    refine OW.cons (OP.no' rfl rfl hb172 rfl ?_)
                    refine OW.cons (OP.yes' rfl rfl hb171 (OP.val (v := (.bool false)) rfl (x_pickF' rfl hb172 rfl) ?_))
                    refine OW.cons (OP.val (v := (.bool false)) rfl (x_pickF' rfl hb171 rfl) ?_)
                    refine OW.nil ?_
                    exact ⟨false, hm, ⟨f145, f146, rfl, hL⟩⟩
              · refine OW.cons (OP.no' rfl rfl hb165 rfl ?_)
                refine OW.cons (OP.no' rfl rfl hb165 rfl ?_)
                refine OW.cons (OP.no' rfl rfl hb165 rfl ?_)
                refine OW.cons (OP.no' rfl rfl hb165 rfl ?_)
                refine OW.cons (OP.val (v := (.bool false)) rfl (x_pickF' rfl hb165 rfl) ?_)
                refine OW.cons (OP.val (v := (.bool false)) rfl (x_move) ?_)
                refine OW.cons (OP.yes' rfl rfl rfl (OP.val (v := (.pointer (some ⟨b135, 1, none⟩))) rfl (x_fieldAddr (fsz := 1) 0 1 1 Try.underlying88 rfl Try_T2 rfl f147 rfl) ?_))
                refine OW.cons (OP.yes' rfl rfl rfl (OP.val (v := (.int .i64 x127.Code)) rfl (x_load1 Try.underlying2 rfl rfl (hL.cellB 0 rfl rfl)) ?_))
                refine OW.cons (OP.yes' rfl rfl rfl (OP.val (v := (.bool (x127.Code != 0))) rfl (x_neq rfl rfl) ?_))
                refine OW.cons (OP.yes' rfl rfl rfl (OP.val (v := (.bool (x127.Code != 0))) rfl (x_move) ?_))
                refine ifB_elim hm (fun hb173 hm => ?_) (fun hb173 hm => ?_)
                · refine OW.cons (OP.yes' rfl rfl hb173 (OP.val (v := (.pointer (some ⟨b135, 2, none⟩))) rfl (x_fieldAddr (fsz := 1) 0 2 2 Try.underlying88 rfl Try_T2 rfl f147 rfl) ?_))
                  refine OW.cons (OP.yes' rfl rfl hb173 (OP.val (v := (.int .i64 x127.Time)) rfl (x_load1 Try.underlying2 rfl rfl (hL.cellB 0 rfl rfl)) ?_))
                  refine OW.cons (OP.yes' rfl rfl hb173 (OP.val (v := (.bool (x127.Time != 0))) rfl (x_neq rfl rfl) ?_))
                  refine OW.cons (OP.yes' rfl rfl rfl (OP.val (v := (.bool (x127.Time != 0))) rfl (x_pickT' rfl hb173 rfl) ?_))
                  refine OW.cons (OP.val (v := (.bool (x127.Time != 0))) rfl (x_pickF' rfl rfl rfl) ?_)
                  refine OW.nil ?_
                  exact ⟨x127.Time != 0, hm, ⟨f145, f146, rfl, hL⟩⟩
                · refine OW.cons (OP.no' rfl rfl hb173 rfl ?_)
                  refine OW.cons (OP.no' rfl rfl hb173 rfl ?_)
                  refine OW.cons (OP.no' rfl rfl hb173 rfl ?_)
                  refine OW.cons (OP.yes' rfl rfl rfl (OP.val (v := (.bool false)) rfl (x_pickF' rfl hb173 rfl) ?_))
                  refine OW.cons (OP.val (v := (.bool false)) rfl (x_pickF' rfl rfl rfl) ?_)
                  refine OW.nil ?_
                  exact ⟨false, hm, ⟨f145, f146, rfl, hL⟩⟩
            · intro s_j2 F159 wd160 hJ hm
              unfold M.spec_l26Race_j2 at hm
              obtain ⟨f161, f162, f163, hL⟩ := hJ
              refine CW.condM (t := s_j2) f163 hm (fun hb164 hm => ?_) (fun hb164 hm => ?_)
              · refine CW.seq ?_
                refine CW.regionL ?_
                refine OW.cons (OP.val (v := (.bool false)) rfl (x_assign) ?_)
                refine OW.nil ?_
                refine CW.ret ?_
                obtain rfl := Option.some.inj hm
                have hm := hr115 _ rfl
                obtain rfl := Option.some.inj hm
                exact RR1 rfl rfl ⟨rfl, hL.fresh 2 rfl [] (by decide) (by decide) rfl⟩
              · refine CW.skip ?_
                refine CW.regionL ?_
                refine OW.cons (OP.val (v := (.int .i64 s_l1)) rfl (x_mv f162) ?_)
                refine OW.cons (OP.val (v := (.int .i64 (w64 (s_l1 + 1)))) rfl (x_add rfl rfl) ?_)
                refine OW.cons (OP.val (v := (.int .i64 (w64 (s_l1 + 1)))) rfl (x_assign) ?_)
                refine OW.nil ?_
                have hL := hL.sel [1, 2] (by decide) rfl
                obtain rfl := Option.some.inj hm
                exact ⟨_, rfl, ⟨f161, rfl, hL⟩⟩
      · refine CW.exit ?_
        refine XJ.hit ?_
        obtain rfl := Option.some.inj hm
        exact ⟨_, rfl, ⟨f124, f125, hL⟩⟩

theorem M.spec_IsRace_ok (w0 : World) (a0 : Int) (a1 : Race) {v1 : Value} (h2 : rdL (· < w0.heap.size) w0 v1 a1.Finishes) {r : Bool} (hm : M.spec_IsRace a0 a1 = some r) :
    Calls Try.prog 14 #[(.int .i64 a0), (.agg #[v1])] w0 fun e w' => e = .returned (.bool r) ∧ Fresh w0 w' [] := by
  unfold M.spec_IsRace at hm
  refine calls_CW (args := [(.int .i64 a0), (.agg #[v1])]) Try.func14 rfl rfl rfl ?_
  have hL := Hp.start w0
  refine CW.seq ?_
  refine CW.regionL ?_
  refine OW.cons (S_box (cs := #[v1]) hL rfl rfl rfl ?_)
  intro wd3 b4 hL
  refine OW.cons (OP.val (v := (.bool false)) rfl (x_assign) ?_)
  refine OW.nil ?_
  refine CW.seqJ (fun (s_j1 : Bool) (F : Fr) (w : World) => F 4 = (.bool s_j1) ∧ Hp w0 [Ent.blk b4 29 #[v1], Ent.snap w0 w0.heap.size] w) (fun s_j1 => M.spec_IsRace_j1 s_j1 = some r) ?_ ?_
  · refine CW.regionL ?_
    refine OW.cons (OP.val (v := (.int .i64 a0)) rfl (x_move) ?_)
    obtain ⟨x19, hx20, hm⟩ := bndE hm
    refine OW.cons (OP.call rfl (x_call (vs := [(.int .i64 a0), (.int .i64 1), (.int .i64 16)]) Try_C51 ⟨rfl, rfl, rfl, trivial⟩) (M.spec_l01In_ok _ a0 1 16 hx20) ?_)
    rintro e21 wd22 ⟨rfl, hF23⟩
    refine ⟨_, rfl, ?_⟩
    have hL := hL.pushAll hF23
    simp only [List.cons_append, List.nil_append, List.set_cons_zero, List.set_cons_succ] at hL
    refine OW.cons (OP.val (v := (.bool x19)) rfl (x_move) ?_)
    refine ifB_elim hm (fun hb24 hm => ?_) (fun hb24 hm => ?_)
    · refine OW.cons (OP.yes' rfl rfl hb24 (OP.val (v := (.int .i64 a0)) rfl (x_move) ?_))
      refine OW.cons (OP.yes' rfl rfl hb24 (OP.val (v := (.agg #[v1])) rfl (x_loadN (cs := [v1]) Try.underlying29 Try_T29 rfl rfl (hL.cellsB 0 rfl (o := 0) (l := [v1]) (by intro j u hj; exact (by simpa using hj)))) ?_))
      obtain ⟨x25, hx26, hm⟩ := bndE hm
      refine OW.cons (OP.yes' rfl rfl hb24 (OP.call rfl (x_call (vs := [(.int .i64 a0), (.agg #[v1])]) Try_C52 ⟨rfl, rfl, trivial⟩) (M.spec_l26Race_ok _ a0 a1 (hL.rdS 1 rfl h2) hx26) ?_))
      rintro e27 wd28 ⟨rfl, hF29⟩
      refine ⟨_, rfl, ?_⟩
      have hL := hL.pushAll hF29
      simp only [List.cons_append, List.nil_append, List.set_cons_zero, List.set_cons_succ] at hL
      refine OW.cons (OP.val (v := (.bool x25)) rfl (x_pickT' rfl hb24 rfl) ?_)
      refine OW.cons (OP.val (v := (.bool x25)) rfl (x_assign) ?_)
      refine OW.nil ?_
      exact ⟨x25, hm, ⟨rfl, hL⟩⟩
    · refine OW.cons (OP.no' rfl rfl hb24 rfl ?_)
      refine OW.cons (OP.no' rfl rfl hb24 rfl ?_)
      refine OW.cons (OP.no' rfl rfl hb24 rfl ?_)
      refine OW.cons (OP.val (v := (.bool false)) rfl (x_pickF' rfl hb24 rfl) ?_)
      refine OW.cons (OP.val (v := (.bool false)) rfl (x_assign) ?_)
      refine OW.nil ?_
      exact ⟨false, hm, ⟨rfl, hL⟩⟩
  · intro s_j1 F16 wd17 hJ hm
    unfold M.spec_IsRace_j1 at hm
    obtain ⟨f18, hL⟩ := hJ
    refine CW.ret ?_
    obtain rfl := Option.some.inj hm
    exact RR1 rfl f18 ⟨rfl, hL.fresh 1 rfl [] (by decide) (by decide) rfl⟩

theorem M.impl_within_ok (w0 : World) (a0 : Int) (a1 : Int) (a2 : Int) {r : Bool} (hm : M.impl_within a0 a1 a2 = some r) :
    Calls Try.prog 59 #[(.int .i64 a0), (.int .i64 a1), (.int .i64 a2)] w0 fun e w' => e = .returned (.bool r) ∧ Fresh w0 w' [] := by
  unfold M.impl_within at hm
  refine calls_CW (args := [(.int .i64 a0), (.int .i64 a1), (.int .i64 a2)]) Try.func59 rfl rfl rfl ?_
  have hL := Hp.start w0
  refine CW.seq ?_
  refine CW.regionL ?_
  refine OW.cons (OP.val (v := (.bool false)) rfl (x_assign) ?_)
  refine OW.nil ?_
  refine CW.seqJ (fun (s_j1 : Bool) (F : Fr) (w : World) => F 6 = (.bool s_j1) ∧ Hp w0 [Ent.snap w0 w0.heap.size] w) (fun s_j1 => M.impl_within_j1 s_j1 = some r) ?_ ?_
  · refine CW.regionL ?_
    refine OW.cons (OP.val (v := (.int .i64 a0)) rfl (x_move) ?_)
    refine OW.cons (OP.val (v := (.int .i64 a1)) rfl (x_move) ?_)
    refine OW.cons (OP.val (v := (.bool (decide (a1 ≤ a0)))) rfl (x_geq rfl rfl) ?_)
    refine OW.cons (OP.val (v := (.bool (decide (a1 ≤ a0)))) rfl (x_move) ?_)
    refine ifB_elim hm (fun hb5 hm => ?_) (fun hb5 hm => ?_)
    · refine OW.cons (OP.yes' rfl rfl hb5 (OP.val (v := (.int .i64 a0)) rfl (x_move) ?_))
      refine OW.cons (OP.yes' rfl rfl hb5 (OP.val (v := (.int .i64 a2)) rfl (x_move) ?_))
      refine OW.cons (OP.yes' rfl rfl hb5 (OP.val (v := (.bool (decide (a0 ≤ a2)))) rfl (x_leq rfl rfl) ?_))
      refine OW.cons (OP.val (v := (.bool (decide (a0 ≤ a2)))) rfl (x_pickT' rfl hb5 rfl) ?_)
      refine OW.cons (OP.val (v := (.bool (decide (a0 ≤ a2)))) rfl (x_assign) ?_)
      refine OW.nil ?_
      exact ⟨decide (a0 ≤ a2), hm, ⟨rfl, hL⟩⟩
    · refine OW.cons (OP.no' rfl rfl hb5 rfl ?_)
      refine OW.cons (OP.no' rfl rfl hb5 rfl ?_)
      refine OW.cons (OP.no' rfl rfl hb5 rfl ?_)
      refine OW.cons (OP.val (v := (.bool false)) rfl (x_pickF' rfl hb5 rfl) ?_)
      refine OW.cons (OP.val (v := (.bool false)) rfl (x_assign) ?_)
      refine OW.nil ?_
      exact ⟨false, hm, ⟨rfl, hL⟩⟩
  · intro s_j1 F2 wd3 hJ hm
    unfold M.impl_within_j1 at hm
    obtain ⟨f4, hL⟩ := hJ
    refine CW.ret ?_
    obtain rfl := Option.some.inj hm
    exact RR1 rfl f4 ⟨rfl, hL.fresh 0 rfl [] (by decide) (by decide) rfl⟩

theorem M.impl_isBoat_ok (w0 : World) (a0 : Int) {r : Bool} (hm : M.impl_isBoat a0 = some r) :
    Calls Try.prog 95 #[(.int .i64 a0)] w0 fun e w' => e = .returned (.bool r) ∧ Fresh w0 w' [] := by
  unfold M.impl_isBoat at hm
  refine calls_CW (args := [(.int .i64 a0)]) Try.func95 rfl rfl rfl ?_
  have hL := Hp.start w0
  refine CW.seq ?_
  refine CW.regionL ?_
  refine OW.cons (OP.val (v := (.bool false)) rfl (x_assign) ?_)
  refine OW.nil ?_
  refine CW.seq ?_
  refine CW.regionL ?_
  refine OW.cons (OP.val (v := (.int .i64 a0)) rfl (x_move) ?_)
  obtain ⟨x1, hx2, hm⟩ := bndE hm
  refine OW.cons (OP.call rfl (x_call (vs := [(.int .i64 a0), (.int .i64 0), (.int .i64 15)]) Try_C59 ⟨rfl, rfl, rfl, trivial⟩) (M.impl_within_ok _ a0 0 15 hx2) ?_)
  rintro e3 wd4 ⟨rfl, hF5⟩
  refine ⟨_, rfl, ?_⟩
  have hL := hL.pushAll hF5
  simp only [List.cons_append, List.nil_append, List.set_cons_zero, List.set_cons_succ] at hL
  refine OW.cons (OP.val (v := (.bool x1)) rfl (x_assign) ?_)
  refine OW.nil ?_
  refine CW.ret ?_
  obtain rfl := Option.some.inj hm
  exact RR1 rfl rfl ⟨rfl, hL.fresh 0 rfl [] (by decide) (by decide) rfl⟩

theorem M.impl_IsFinish_ok (w0 : World) (a0 : Finish) {r : Bool} (hm : M.impl_IsFinish a0 = some r) :
    Calls Try.prog 84 #[(.agg #[(.int .i64 a0.Boat), (.int .i64 a0.Code), (.int .i64 a0.Time)])] w0 fun e w' => e = .returned (.bool r) ∧ Fresh w0 w' [] := by
  unfold M.impl_IsFinish at hm
  refine calls_CW (args := [(.agg #[(.int .i64 a0.Boat), (.int .i64 a0.Code), (.int .i64 a0.Time)])]) Try.func84 rfl rfl rfl ?_
  have hL := Hp.start w0
  refine CW.seq ?_
  refine CW.regionL ?_
  refine OW.cons (S_box (cs := #[(.int .i64 a0.Boat), (.int .i64 a0.Code), (.int .i64 a0.Time)]) hL rfl rfl rfl ?_)
  intro wd1 b2 hL
  refine OW.cons (OP.val (v := (.bool false)) rfl (x_assign) ?_)
  refine OW.nil ?_
  refine CW.seq ?_
  refine CW.seq ?_
  refine CW.regionL ?_
  refine OW.cons (OP.val (v := (.pointer (some ⟨b2, 1, none⟩))) rfl (x_fieldAddr (fsz := 1) 0 1 1 Try.underlying88 rfl Try_T2 rfl rfl rfl) ?_)
  refine OW.cons (OP.val (v := (.int .i64 a0.Code)) rfl (x_load1 Try.underlying2 rfl rfl (hL.cellB 0 rfl rfl)) ?_)
  refine OW.cons (OP.val (v := (.bool (a0.Code == 0))) rfl (x_eql rfl rfl) ?_)
  refine OW.nil ?_
  refine CW.condM (t := a0.Code == 0) rfl hm (fun hb3 hm => ?_) (fun hb3 hm => ?_)
  · refine CW.seqJ (fun (s_j1 : Bool) (F : Fr) (w : World) => F 2 = (.bool s_j1) ∧ Hp w0 [Ent.blk b2 88 #[(.int .i64 a0.Boat), (.int .i64 a0.Code), (.int .i64 a0.Time)], Ent.snap w0 w0.heap.size] w) (fun s_j1 => M.impl_IsFinish_j1 s_j1 = some r) ?_ ?_
    · refine CW.regionL ?_
      refine OW.cons (OP.val (v := (.pointer (some ⟨b2, 0, none⟩))) rfl (x_fieldAddr (fsz := 1) 0 0 0 Try.underlying88 rfl Try_T2 rfl rfl rfl) ?_)
      refine OW.cons (OP.val (v := (.int .i64 a0.Boat)) rfl (x_load1 Try.underlying2 rfl rfl (hL.cellB 0 rfl rfl)) ?_)
      obtain ⟨x18, hx19, hm⟩ := bndE hm
      refine OW.cons (OP.call rfl (x_call (vs := [(.int .i64 a0.Boat)]) Try_C95 ⟨rfl, trivial⟩) (M.impl_isBoat_ok _ a0.Boat hx19) ?_)
      rintro e20 wd21 ⟨rfl, hF22⟩
      refine ⟨_, rfl, ?_⟩
      have hL := hL.pushAll hF22
      simp only [List.cons_append, List.nil_append, List.set_cons_zero, List.set_cons_succ] at hL
      refine OW.cons (OP.val (v := (.bool x18)) rfl (x_move) ?_)
      refine ifB_elim hm (fun hb23 hm => ?_) (fun hb23 hm => ?_)
      · refine OW.cons (OP.yes' rfl rfl hb23 (OP.val (v := (.pointer (some ⟨b2, 2, none⟩))) rfl (x_fieldAddr (fsz := 1) 0 2 2 Try.underlying88 rfl Try_T2 rfl rfl rfl) ?_))
        refine OW.cons (OP.yes' rfl rfl hb23 (OP.val (v := (.int .i64 a0.Time)) rfl (x_load1 Try.underlying2 rfl rfl (hL.cellB 0 rfl rfl)) ?_))
        obtain ⟨x24, hx25, hm⟩ := bndE hm
        refine OW.cons (OP.yes' rfl rfl hb23 (OP.call rfl (x_call (vs := [(.int .i64 a0.Time), (.int .i64 1), (.int .i64 1000000000)]) Try_C59 ⟨rfl, rfl, rfl, trivial⟩) (M.impl_within_ok _ a0.Time 1 1000000000 hx25) ?_))
        rintro e26 wd27 ⟨rfl, hF28⟩
        refine ⟨_, rfl, ?_⟩
        have hL := hL.pushAll hF28
        simp only [List.cons_append, List.nil_append, List.set_cons_zero, List.set_cons_succ] at hL
        refine OW.cons (OP.val (v := (.bool x24)) rfl (x_pickT' rfl hb23 rfl) ?_)
        refine OW.cons (OP.val (v := (.bool x24)) rfl (x_assign) ?_)
        refine OW.nil ?_
        exact ⟨x24, hm, ⟨rfl, hL⟩⟩
      · refine OW.cons (OP.no' rfl rfl hb23 rfl ?_)
        refine OW.cons (OP.no' rfl rfl hb23 rfl ?_)
        refine OW.cons (OP.no' rfl rfl hb23 rfl ?_)
        refine OW.cons (OP.val (v := (.bool false)) rfl (x_pickF' rfl hb23 rfl) ?_)
        refine OW.cons (OP.val (v := (.bool false)) rfl (x_assign) ?_)
        refine OW.nil ?_
        exact ⟨false, hm, ⟨rfl, hL⟩⟩
    · intro s_j1 F15 wd16 hJ hm
      unfold M.impl_IsFinish_j1 at hm
      obtain ⟨f17, hL⟩ := hJ
      refine CW.ret ?_
      obtain rfl := Option.some.inj hm
      exact RR1 rfl f17 ⟨rfl, hL.fresh 1 rfl [] (by decide) (by decide) rfl⟩
  · refine CW.skip ?_
    refine CW.seqJ (fun (s_j2 : Bool) (F : Fr) (w : World) => F 2 = (.bool s_j2) ∧ Hp w0 [Ent.blk b2 88 #[(.int .i64 a0.Boat), (.int .i64 a0.Code), (.int .i64 a0.Time)], Ent.snap w0 w0.heap.size] w) (fun s_j2 => M.impl_IsFinish_j2 s_j2 = some r) ?_ ?_
    · refine CW.regionL ?_
      refine OW.cons (OP.val (v := (.pointer (some ⟨b2, 0, none⟩))) rfl (x_fieldAddr (fsz := 1) 0 0 0 Try.underlying88 rfl Try_T2 rfl rfl rfl) ?_)
      refine OW.cons (OP.val (v := (.int .i64 a0.Boat)) rfl (x_load1 Try.underlying2 rfl rfl (hL.cellB 0 rfl rfl)) ?_)
      obtain ⟨x44, hx45, hm⟩ := bndE hm
      refine OW.cons (OP.call rfl (x_call (vs := [(.int .i64 a0.Boat)]) Try_C95 ⟨rfl, trivial⟩) (M.impl_isBoat_ok _ a0.Boat hx45) ?_)
      rintro e46 wd47 ⟨rfl, hF48⟩
      refine ⟨_, rfl, ?_⟩
      have hL := hL.pushAll hF48
      simp only [List.cons_append, List.nil_append, List.set_cons_zero, List.set_cons_succ] at hL
      refine OW.cons (OP.val (v := (.bool x44)) rfl (x_move) ?_)
      refine ifB_elim hm (fun hb49 hm => ?_) (fun hb49 hm => ?_)
      · refine OW.cons (OP.yes' rfl rfl hb49 (OP.val (v := (.pointer (some ⟨b2, 1, none⟩))) rfl (x_fieldAddr (fsz := 1) 0 1 1 Try.underlying88 rfl Try_T2 rfl rfl rfl) ?_))
        refine OW.cons (OP.yes' rfl rfl hb49 (OP.val (v := (.int .i64 a0.Code)) rfl (x_load1 Try.underlying2 rfl rfl (hL.cellB 0 rfl rfl)) ?_))
        obtain ⟨x50, hx51, hm⟩ := bndE hm
        refine OW.cons (OP.yes' rfl rfl hb49 (OP.call rfl (x_call (vs := [(.int .i64 a0.Code), (.int .i64 1), (.int .i64 9)]) Try_C59 ⟨rfl, rfl, rfl, trivial⟩) (M.impl_within_ok _ a0.Code 1 9 hx51) ?_))
        rintro e52 wd53 ⟨rfl, hF54⟩
        refine ⟨_, rfl, ?_⟩
        have hL := hL.pushAll hF54
        simp only [List.cons_append, List.nil_append, List.set_cons_zero, List.set_cons_succ] at hL
        refine OW.cons (OP.val (v := (.bool x50)) rfl (x_pickT' rfl hb49 rfl) ?_)
        refine OW.cons (OP.val (v := (.bool x50)) rfl (x_move) ?_)
        refine ifB_elim hm (fun hb55 hm => ?_) (fun hb55 hm => ?_)
        · refine OW.cons (OP.yes' rfl rfl hb55 (OP.val (v := (.pointer (some ⟨b2, 2, none⟩))) rfl (x_fieldAddr (fsz := 1) 0 2 2 Try.underlying88 rfl Try_T2 rfl rfl rfl) ?_))
          refine OW.cons (OP.yes' rfl rfl hb55 (OP.val (v := (.int .i64 a0.Time)) rfl (x_load1 Try.underlying2 rfl rfl (hL.cellB 0 rfl rfl)) ?_))
          refine OW.cons (OP.yes' rfl rfl hb55 (OP.val (v := (.bool (a0.Time == 0))) rfl (x_eql rfl rfl) ?_))
          refine OW.cons (OP.val (v := (.bool (a0.Time == 0))) rfl (x_pickT' rfl hb55 rfl) ?_)
          refine OW.cons (OP.val (v := (.bool (a0.Time == 0))) rfl (x_assign) ?_)
          refine OW.nil ?_
          exact ⟨a0.Time == 0, hm, ⟨rfl, hL⟩⟩
        · refine OW.cons (OP.no' rfl rfl hb55 rfl ?_)
          refine OW.cons (OP.no' rfl rfl hb55 rfl ?_)
          refine OW.cons (OP.no' rfl rfl hb55 rfl ?_)
          refine OW.cons (OP.val (v := (.bool false)) rfl (x_pickF' rfl hb55 rfl) ?_)
          refine OW.cons (OP.val (v := (.bool false)) rfl (x_assign) ?_)
          refine OW.nil ?_
          exact ⟨false, hm, ⟨rfl, hL⟩⟩
      · refine OW.cons (OP.no' rfl rfl hb49 rfl ?_)
        refine OW.cons (OP.no' rfl rfl hb49 rfl ?_)
        refine OW.cons (OP.no' rfl rfl hb49 rfl ?_)
        refine OW.cons (OP.val (v := (.bool false)) rfl (x_pickF' rfl hb49 rfl) ?_)
        refine OW.cons (OP.val (v := (.bool false)) rfl (x_move) ?_)
        refine OW.cons (OP.no' rfl rfl rfl rfl ?_)
        refine OW.cons (OP.no' rfl rfl rfl rfl ?_)
        refine OW.cons (OP.no' rfl rfl rfl rfl ?_)
        refine OW.cons (OP.val (v := (.bool false)) rfl (x_pickF' rfl rfl rfl) ?_)
        refine OW.cons (OP.val (v := (.bool false)) rfl (x_assign) ?_)
        refine OW.nil ?_
        exact ⟨false, hm, ⟨rfl, hL⟩⟩
    · intro s_j2 F41 wd42 hJ hm
      unfold M.impl_IsFinish_j2 at hm
      obtain ⟨f43, hL⟩ := hJ
      refine CW.ret ?_
      obtain rfl := Option.some.inj hm
      exact RR1 rfl f43 ⟨rfl, hL.fresh 1 rfl [] (by decide) (by decide) rfl⟩

theorem M.impl_areFinishes_ok (w0 : World) (a0 : Int) (a1 : List Finish) {v1 : Value} (h2 : rdL (· < w0.heap.size) w0 v1 a1) {r : Bool} (hm : M.impl_areFinishes a0 a1 = some r) :
    Calls Try.prog 54 #[(.int .i64 a0), v1] w0 fun e w' => e = .returned (.bool r) ∧ Fresh w0 w' [] := by
  unfold M.impl_areFinishes at hm
  refine calls_CW (args := [(.int .i64 a0), v1]) Try.func54 rfl rfl rfl ?_
  have hL := Hp.start w0
  refine CW.seq ?_
  refine CW.regionL ?_
  refine OW.cons (OP.val (v := (.bool false)) rfl (x_assign) ?_)
  refine OW.nil ?_
  refine CW.seq ?_
  refine CW.seqJ (fun (s_j1 : Bool) (F : Fr) (w : World) => F 1 = v1 ∧ F 15 = (.bool s_j1) ∧ Hp w0 [Ent.snap w0 w0.heap.size] w) (fun s_j1 => M.impl_areFinishes_j1 a1 s_j1 = some r) ?_ ?_
  · refine CW.regionL ?_
    refine OW.cons (OP.val (v := (.int .i64 a0)) rfl (x_move) ?_)
    obtain ⟨x118, hx119, hm⟩ := bndE hm
    refine OW.cons (OP.call rfl (x_call (vs := [(.int .i64 a0), (.int .i64 1), (.int .i64 16)]) Try_C59 ⟨rfl, rfl, rfl, trivial⟩) (M.impl_within_ok _ a0 1 16 hx119) ?_)
    rintro e120 wd121 ⟨rfl, hF122⟩
    refine ⟨_, rfl, ?_⟩
    have hL := hL.pushAll hF122
    simp only [List.cons_append, List.nil_append, List.set_cons_zero, List.set_cons_succ] at hL
    refine OW.cons (OP.val (v := (.bool (!x118))) rfl (x_not rfl) ?_)
    refine OW.cons (OP.val (v := (.bool (!x118))) rfl (x_move) ?_)
    refine ifB_elim hm (fun hb123 hm => ?_) (fun hb123 hm => ?_)
    · refine OW.cons (OP.no' rfl rfl hb123 rfl ?_)
      refine OW.cons (OP.no' rfl rfl hb123 rfl ?_)
      refine OW.cons (OP.no' rfl rfl hb123 rfl ?_)
      refine OW.cons (OP.no' rfl rfl hb123 rfl ?_)
      refine OW.cons (OP.val (v := (.bool true)) rfl (x_pickT' rfl hb123 rfl) ?_)
      refine OW.nil ?_
      exact ⟨true, hm, ⟨rfl, rfl, hL⟩⟩
    · refine OW.cons (OP.yes' rfl rfl hb123 (OP.val (v := v1) rfl (x_move) ?_))
      refine OW.cons (OP.yes' rfl rfl hb123 (OP.val (v := (.int .i64 (a1.length : Int))) rfl (x_lenR Try.underlying27 rfl (hL.rdS 0 rfl h2)) ?_))
      refine OW.cons (OP.yes' rfl rfl hb123 (OP.val (v := (.int .i64 a0)) rfl (x_move) ?_))
      refine OW.cons (OP.yes' rfl rfl hb123 (OP.val (v := (.bool ((a1.length : Int) != a0))) rfl (x_neq rfl rfl) ?_))
      refine OW.cons (OP.val (v := (.bool ((a1.length : Int) != a0))) rfl (x_pickF' rfl hb123 rfl) ?_)
      refine OW.nil ?_
      exact ⟨(a1.length : Int) != a0, hm, ⟨rfl, rfl, hL⟩⟩
  · intro s_j1 F9 wd10 hJ hm
    unfold M.impl_areFinishes_j1 at hm
    obtain ⟨f11, f12, hL⟩ := hJ
    refine CW.condM (t := s_j1) f12 hm (fun hb13 hm => ?_) (fun hb13 hm => ?_)
    · refine CW.seq ?_
      refine CW.regionL ?_
      refine OW.cons (OP.val (v := (.bool false)) rfl (x_assign) ?_)
      refine OW.nil ?_
      refine CW.ret ?_
      obtain rfl := Option.some.inj hm
      exact RR1 rfl rfl ⟨rfl, hL.fresh 0 rfl [] (by decide) (by decide) rfl⟩
    · refine CW.skip ?_
      refine CW.seq ?_
      refine CW.seq ?_
      refine CW.regionL ?_
      refine OW.cons (OP.val (v := v1) rfl (x_mv f11) ?_)
      refine OW.cons (OP.val (v := (.int .i64 (a1.length : Int))) rfl (x_lenR Try.underlying27 rfl (hL.rdS 0 rfl h2)) ?_)
      refine OW.cons (OP.val (v := (.int .i64 0)) rfl (x_move) ?_)
      refine OW.nil ?_
      obtain ⟨o76, ho77, hm⟩ := bndE hm
      refine CW.loopB (fun (s_l1 : Int) (F : Fr) (w : World) => F 16 = v1 ∧ F 17 = (.int .i64 (a1.length : Int)) ∧ F 18 = (.int .i64 s_l1) ∧ Hp w0 [Ent.snap w0 w0.heap.size] w) (fun o => outc o (fun x => some x) (fun s => M.impl_areFinishes_a1 s) = some r) ho77 hm ⟨rfl, rfl, rfl, hL⟩ ?_ ?_
      · intro s_l1 F78 wd79 hJ hm
        have hm := outcE hm
        have hm : M.impl_areFinishes_a1 s_l1 = some r := hm
        unfold M.impl_areFinishes_a1 at hm
        obtain ⟨f80, f81, f82, hL⟩ := hJ
        refine CW.seq ?_
        refine CW.regionL ?_
        refine OW.cons (OP.val (v := (.bool true)) rfl (x_assign) ?_)
        refine OW.nil ?_
        refine CW.ret ?_
        obtain rfl := Option.some.inj hm
        exact RR1 rfl rfl ⟨rfl, hL.fresh 0 rfl [] (by decide) (by decide) rfl⟩
      · intro s_l1 F83 wd84 t74 hJ hm hr75
        unfold M.impl_areFinishes_l1 at hm
        obtain ⟨f85, f86, f87, hL⟩ := hJ
        refine CW.seq ?_
        refine CW.regionL ?_
        refine OW.cons (OP.val (v := (.bool (decide (s_l1 < (a1.length : Int))))) rfl (x_lss f87 f86) ?_)
        refine OW.nil ?_
        refine CW.seq ?_
        refine CW.condM (t := decide (s_l1 < (a1.length : Int))) rfl hm (fun hb88 hm => ?_) (fun hb88 hm => ?_)
        · refine CW.skip ?_
          refine CW.seq ?_
          refine CW.block ?_
          refine CW.seq ?_
          refine CW.regionL ?_
          refine OW.cons (OP.val (v := (.int .i64 s_l1)) rfl (x_mv f87) ?_)
          obtain ⟨x89, ha90, hm⟩ := bndE hm
          obtain ⟨hz91, ha95⟩ := idxE ha90
          obtain ⟨b92, q93, hix94⟩ := rdL_ix (hL.rdS 0 rfl h2) hz91 ha95
          refine OW.cons (OP.val (v := (.pointer (some ⟨b92, q93, none⟩))) rfl (x_ix Try.underlying27 Try_T88 f85 f87 hix94) ?_)
          refine OW.cons (OP.val (v := (.agg #[(.int .i64 x89.Boat), (.int .i64 x89.Code), (.int .i64 x89.Time)])) rfl (x_loadN (cs := [(.int .i64 x89.Boat), (.int .i64 x89.Code), (.int .i64 x89.Time)]) Try.underlying88 Try_T88 rfl rfl (rdF_cells (hL.rdS 0 rfl h2) hix94 ha95)) ?_)
          refine OW.cons (S_alloc (cs := #[(.int .i64 0), (.int .i64 0), (.int .i64 0)]) hL Try_T88 rfl rfl ?_)
          intro wd96 b97 hL
          refine OW.cons (OP.val (v := (.int .i64 s_l1)) rfl (x_assign) ?_)
          refine OW.cons (S_storeN (l := [(.int .i64 x89.Boat), (.int .i64 x89.Code), (.int .i64 x89.Time)]) (cs' := #[(.int .i64 x89.Boat), (.int .i64 x89.Code), (.int .i64 x89.Time)]) hL 0 rfl Try_T88 rfl rfl (List.forall_mem_cons.2 ⟨rfl, (List.forall_mem_cons.2 ⟨rfl, (List.forall_mem_cons.2 ⟨rfl, (fun _ h => by cases h)⟩)⟩)⟩) rfl (Nat.le_of_ble_eq_true rfl) rfl ?_)
          intro wd98 hL
          refine OW.nil ?_
          refine CW.seqJ (fun (s_j2 : Bool) (F : Fr) (w : World) => F 16 = v1 ∧ F 17 = (.int .i64 (a1.length : Int)) ∧ F 18 = (.int .i64 s_l1) ∧ F 31 = (.bool s_j2) ∧ Hp w0 [Ent.blk b97 88 #[(.int .i64 x89.Boat), (.int .i64 x89.Code), (.int .i64 x89.Time)], Ent.snap w0 w0.heap.size] w) (fun s_j2 => M.impl_areFinishes_j2 s_l1 s_j2 = some t74) ?_ ?_
          · refine CW.regionL ?_
            refine OW.cons (OP.val (v := (.pointer (some ⟨b97, 0, none⟩))) rfl (x_fieldAddr (fsz := 1) 0 0 0 Try.underlying88 rfl Try_T2 rfl rfl rfl) ?_)
            refine OW.cons (OP.val (v := (.int .i64 x89.Boat)) rfl (x_load1 Try.underlying2 rfl rfl (hL.cellB 0 rfl rfl)) ?_)
            refine OW.cons (OP.val (v := (.int .i64 s_l1)) rfl (x_move) ?_)
            refine OW.cons (OP.val (v := (.bool (x89.Boat != s_l1))) rfl (x_neq rfl rfl) ?_)
            refine OW.cons (OP.val (v := (.bool (x89.Boat != s_l1))) rfl (x_move) ?_)
            refine ifB_elim hm (fun hb112 hm => ?_) (fun hb112 hm => ?_)
            · refine OW.cons (OP.no' rfl rfl hb112 rfl ?_)
              refine OW.cons (OP.no' rfl rfl hb112 rfl ?_)
              refine OW.cons (OP.no' rfl rfl hb112 rfl ?_)
              refine OW.cons (OP.val (v := (.bool true)) rfl (x_pickT' rfl hb112 rfl) ?_)
              refine OW.nil ?_
              exact ⟨true, hm, ⟨f85, f86, f87, rfl, hL⟩⟩
            · refine OW.cons (OP.yes' rfl rfl hb112 (OP.val (v := (.agg #[(.int .i64 x89.Boat), (.int .i64 x89.Code), (.int .i64 x89.Time)])) rfl (x_loadN (cs := [(.int .i64 x89.Boat), (.int .i64 x89.Code), (.int .i64 x89.Time)]) Try.underlying88 Try_T88 rfl rfl (hL.cellsB 0 rfl (o := 0) (l := [(.int .i64 x89.Boat), (.int .i64 x89.Code), (.int .i64 x89.Time)]) (by intro j u hj; exact (by simpa using hj)))) ?_))
              obtain ⟨x113, hx114, hm⟩ := bndE hm
              refine OW.cons (OP.yes' rfl rfl hb112 (OP.call rfl (x_call (vs := [(.agg #[(.int .i64 x89.Boat), (.int .i64 x89.Code), (.int .i64 x89.Time)])]) Try_C84 ⟨rfl, trivial⟩) (M.impl_IsFinish_ok _ x89 hx114) ?_))
              rintro e115 wd116 ⟨rfl, hF117⟩
              refine ⟨_, rfl, ?_⟩
              have hL := hL.pushAll hF117
              simp only [List.cons_append, List.nil_append, List.set_cons_zero, List.set_cons_succ] at hL
              refine OW.cons (OP.yes' rfl rfl hb112 (OP.val (v := (.bool (!x113))) rfl (x_not rfl) ?_))
              refine OW.cons (OP.val (v := (.bool (!x113))) rfl (x_pickF' rfl hb112 rfl) ?_)
              refine OW.nil ?_
              exact ⟨!x113, hm, ⟨f85, f86, f87, rfl, hL⟩⟩
          · intro s_j2 F105 wd106 hJ hm
            unfold M.impl_areFinishes_j2 at hm
            obtain ⟨f107, f108, f109, f110, hL⟩ := hJ
            refine CW.condM (t := s_j2) f110 hm (fun hb111 hm => ?_) (fun hb111 hm => ?_)
            · refine CW.seq ?_
              refine CW.regionL ?_
              refine OW.cons (OP.val (v := (.bool false)) rfl (x_assign) ?_)
              refine OW.nil ?_
              refine CW.ret ?_
              obtain rfl := Option.some.inj hm
              have hm := hr75 _ rfl
              obtain rfl := Option.some.inj hm
              exact RR1 rfl rfl ⟨rfl, hL.fresh 1 rfl [] (by decide) (by decide) rfl⟩
            · refine CW.skip ?_
              refine CW.regionL ?_
              refine OW.cons (OP.val (v := (.int .i64 (w64 (s_l1 + 1)))) rfl (x_add f109 rfl) ?_)
              refine OW.cons (OP.val (v := (.int .i64 (w64 (s_l1 + 1)))) rfl (x_move) ?_)
              refine OW.nil ?_
              have hL := hL.sel [1] (by decide) rfl
              obtain rfl := Option.some.inj hm
              exact ⟨_, rfl, ⟨f107, f108, rfl, hL⟩⟩
        · refine CW.exit ?_
          refine XJ.hit ?_
          obtain rfl := Option.some.inj hm
          exact ⟨_, rfl, ⟨f85, f86, f87, hL⟩⟩

theorem M.impl_IsRace_ok (w0 : World) (a0 : Int) (a1 : Race) {v1 : Value} (h2 : rdL (· < w0.heap.size) w0 v1 a1.Finishes) {r : Bool} (hm : M.impl_IsRace a0 a1 = some r) :
    Calls Try.prog 16 #[(.int .i64 a0), (.agg #[v1])] w0 fun e w' => e = .returned (.bool r) ∧ Fresh w0 w' [] := by
  unfold M.impl_IsRace at hm
  refine calls_CW (args := [(.int .i64 a0), (.agg #[v1])]) Try.func16 rfl rfl rfl ?_
  have hL := Hp.start w0
  refine CW.seq ?_
  refine CW.regionL ?_
  refine OW.cons (S_box (cs := #[v1]) hL rfl rfl rfl ?_)
  intro wd3 b4 hL
  refine OW.cons (OP.val (v := (.bool false)) rfl (x_assign) ?_)
  refine OW.nil ?_
  refine CW.seq ?_
  refine CW.regionL ?_
  refine OW.cons (OP.val (v := (.int .i64 a0)) rfl (x_move) ?_)
  refine OW.cons (OP.val (v := (.pointer (some ⟨b4, 0, none⟩))) rfl (x_fieldAddr (fsz := 1) 0 0 0 Try.underlying29 rfl Try_T27 rfl rfl rfl) ?_)
  refine OW.cons (OP.val (v := v1) rfl (x_load1 Try.underlying27 rfl rfl (hL.cellB 0 rfl rfl)) ?_)
  obtain ⟨x5, hx6, hm⟩ := bndE hm
  refine OW.cons (OP.call rfl (x_call (vs := [(.int .i64 a0), v1]) Try_C54 ⟨rfl, rfl, trivial⟩) (M.impl_areFinishes_ok _ a0 a1.Finishes (hL.rdS 1 rfl h2) hx6) ?_)
  rintro e7 wd8 ⟨rfl, hF9⟩
  refine ⟨_, rfl, ?_⟩
  have hL := hL.pushAll hF9
  simp only [List.cons_append, List.nil_append, List.set_cons_zero, List.set_cons_succ] at hL
  refine OW.cons (OP.val (v := (.bool x5)) rfl (x_assign) ?_)
  refine OW.nil ?_
  refine CW.ret ?_
  obtain rfl := Option.some.inj hm
  exact RR1 rfl rfl ⟨rfl, hL.fresh 1 rfl [] (by decide) (by decide) rfl⟩

theorem M.spec_l26Done_ok (w0 : World) (a0 : Finish) {r : Bool} (hm : M.spec_l26Done a0 = some r) :
    Calls Try.prog 66 #[(.agg #[(.int .i64 a0.Boat), (.int .i64 a0.Code), (.int .i64 a0.Time)])] w0 fun e w' => e = .returned (.bool r) ∧ Fresh w0 w' [] := by
  unfold M.spec_l26Done at hm
  refine calls_CW (args := [(.agg #[(.int .i64 a0.Boat), (.int .i64 a0.Code), (.int .i64 a0.Time)])]) Try.func66 rfl rfl rfl ?_
  have hL := Hp.start w0
  refine CW.seq ?_
  refine CW.regionL ?_
  refine OW.cons (S_box (cs := #[(.int .i64 a0.Boat), (.int .i64 a0.Code), (.int .i64 a0.Time)]) hL rfl rfl rfl ?_)
  intro wd1 b2 hL
  refine OW.cons (OP.val (v := (.bool false)) rfl (x_assign) ?_)
  refine OW.nil ?_
  refine CW.seq ?_
  refine CW.regionL ?_
  refine OW.cons (OP.val (v := (.pointer (some ⟨b2, 1, none⟩))) rfl (x_fieldAddr (fsz := 1) 0 1 1 Try.underlying88 rfl Try_T2 rfl rfl rfl) ?_)
  refine OW.cons (OP.val (v := (.int .i64 a0.Code)) rfl (x_load1 Try.underlying2 rfl rfl (hL.cellB 0 rfl rfl)) ?_)
  refine OW.cons (OP.val (v := (.bool (a0.Code == 0))) rfl (x_eql rfl rfl) ?_)
  refine OW.cons (OP.val (v := (.bool (a0.Code == 0))) rfl (x_assign) ?_)
  refine OW.nil ?_
  refine CW.ret ?_
  obtain rfl := Option.some.inj hm
  exact RR1 rfl rfl ⟨rfl, hL.fresh 1 rfl [] (by decide) (by decide) rfl⟩

theorem M.impl_placesOf_ok (w0 : World) (a0 : List Finish) {v1 : Value} (h2 : rdL (· < w0.heap.size) w0 v1 a0) {r : (List Int) × (List Int)} (hm : M.impl_placesOf a0 = some r) :
    Calls Try.prog 68 #[v1] w0 fun e w' => ∃ (rv0 : Value) (rS0 : Nat → Prop), ∃ (rv1 : Value) (rS1 : Nat → Prop), e = .returned (.tuple #[rv0, rv1]) ∧ Fresh w0 w' [Ent.own 2 rS0 rv0 r.1, Ent.own 2 rS1 rv1 r.2] := by
  unfold M.impl_placesOf at hm
  refine calls_CW (args := [v1]) Try.func68 rfl rfl rfl ?_
  have hL := Hp.start w0
  refine CW.seq ?_
  refine CW.regionL ?_
  refine OW.cons (OP.val (v := (.slice none 0 0)) rfl (x_assign) ?_)
  refine OW.cons (OP.val (v := (.slice none 0 0)) rfl (x_assign) ?_)
  refine OW.nil ?_
  refine CW.seq ?_
  refine CW.drawH (fun w' => Hp w0 [Ent.snap w0 w0.heap.size] w') Try_mixed ?_
  have hL := hL.call (Mod.drew _)
  have hS := (hL.sel [0] (by decide) rfl)
  refine DH.take 0 rfl (by kernel_rfl) (by kernel_rfl) (by kernel_rfl) rfl rfl hS (YH.val (v := v1) (fun w' hS' => x_move)) ?_
  have hS := (hL.sel [0] (by decide) rfl)
  refine DH.take 1 rfl (by kernel_rfl) (by kernel_rfl) (by kernel_rfl) rfl rfl hS (YH.val (v := (.int .i64 (a0.length : Int))) (fun w' hS' => x_lenW Try.underlying27 rfl (subV_len (hL.rdS 0 rfl h2)))) ?_
  have hS := (hL.sel [0] (by decide) rfl)
  refine DH.take 3 rfl (by kernel_rfl) (by kernel_rfl) (by kernel_rfl) rfl rfl hS (YH.val (v := v1) (fun w' hS' => x_move)) ?_
  have hS := (hL.sel [0] (by decide) rfl)
  refine DH.take 4 rfl (by kernel_rfl) (by kernel_rfl) (by kernel_rfl) rfl rfl hS (YH.val (v := (.int .i64 (a0.length : Int))) (fun w' hS' => x_lenW Try.underlying27 rfl (subV_len (hL.rdS 0 rfl h2)))) ?_
  obtain ⟨hc14, hm⟩ := chkE hm
  obtain ⟨hc18, hm⟩ := chkE hm
  refine DH.node (listed' := #[true, true, true, true, true, true, true, true]) (fuel' := 0) (fun (F : Fr) (w : World) => ∃ (v34 : Value) (S35 : Nat → Prop) (v36 : Value) (S37 : Nat → Prop), F 0 = v1 ∧ F 2 = (.slice none 0 0) ∧ F 3 = (.slice none 0 0) ∧ F 4 = v36 ∧ F 5 = v34 ∧ Hp w0 [Ent.own 2 S35 v34 (List.replicate ((a0.length : Int)).toNat (0 : Int)), Ent.own 2 S37 v36 (List.replicate ((a0.length : Int)).toNat (0 : Int)), Ent.snap w0 w0.heap.size] w) ?_ (fun hN31 => ?_)
  · intro F42 wd43 hJ
    obtain ⟨v34, S35, v36, S37, f44, f45, f46, f47, f48, hL⟩ := hJ
    refine DH.done (by kernel_rfl) ?_
    refine CW.seq ?_
    refine CW.seq ?_
    refine CW.regionL ?_
    refine OW.cons (OP.val (v := v1) rfl (x_mv f44) ?_)
    refine OW.cons (OP.val (v := (.int .i64 (a0.length : Int))) rfl (x_lenR Try.underlying27 rfl (hL.rdS 2 rfl h2)) ?_)
    refine OW.cons (OP.val (v := (.int .i64 0)) rfl (x_move) ?_)
    refine OW.nil ?_
    obtain ⟨o8841, ho8842, hm⟩ := bndE hm
    refine CW.loopB (fun (s_l1 : (List Int) × (List Int) × Int) (F : Fr) (w : World) => ∃ (S8837 : Nat → Prop) (S8838 : Nat → Prop), F 0 = v1 ∧ F 4 = v36 ∧ F 5 = v34 ∧ F 16 = v1 ∧ F 17 = (.int .i64 (a0.length : Int)) ∧ F 18 = (.int .i64 s_l1.2.2) ∧ Hp w0 [Ent.own 2 S8838 v34 s_l1.2.1, Ent.own 2 S8837 v36 s_l1.1, Ent.snap w0 w0.heap.size] w) (fun o => outc o (fun x => some x) (fun s => M.impl_placesOf_a1 s) = some r) ho8842 hm ⟨S37, S35, f44, f47, f48, rfl, rfl, rfl, hL⟩ ?_ ?_
    · intro s_l1 F8843 wd8844 hJ hm
      have hm := outcE hm
      have hm : M.impl_placesOf_a1 s_l1 = some r := hm
      unfold M.impl_placesOf_a1 at hm
      obtain ⟨S8837, S8838, f8845, f8846, f8847, f8848, f8849, f8850, hL⟩ := hJ
      refine CW.seq ?_
      refine CW.regionL ?_
      refine OW.cons (OP.val (v := v36) rfl (x_mv f8846) ?_)
      refine OW.cons (OP.val (v := v34) rfl (x_mv f8847) ?_)
      refine OW.cons (OP.val (v := v36) rfl (x_assign) ?_)
      refine OW.cons (OP.val (v := v34) rfl (x_assign) ?_)
      refine OW.nil ?_
      refine CW.ret ?_
      obtain rfl := Option.some.inj hm
      exact RR2 rfl rfl rfl ⟨v36, S8837, v34, S8838, rfl, hL.fresh 2 rfl [1, 0] (by decide) (by decide) rfl⟩
    · intro s_l1 F8851 wd8852 t8839 hJ hm hr8840
      unfold M.impl_placesOf_l1 at hm
      obtain ⟨S8837, S8838, f8853, f8854, f8855, f8856, f8857, f8858, hL⟩ := hJ
      refine CW.seq ?_
      refine CW.regionL ?_
      refine OW.cons (OP.val (v := (.bool (decide (s_l1.2.2 < (a0.length : Int))))) rfl (x_lss f8858 f8857) ?_)
      refine OW.nil ?_
      refine CW.seq ?_
      refine CW.condM (t := decide (s_l1.2.2 < (a0.length : Int))) rfl hm (fun hb8859 hm => ?_) (fun hb8859 hm => ?_)
      · refine CW.skip ?_
        refine CW.seqJ (fun (s_j1 : (List Int) × (List Int)) (F : Fr) (w : World) => ∃ (S11052 : Nat → Prop) (S11053 : Nat → Prop), F 0 = v1 ∧ F 4 = v36 ∧ F 5 = v34 ∧ F 16 = v1 ∧ F 17 = (.int .i64 (a0.length : Int)) ∧ F 18 = (.int .i64 s_l1.2.2) ∧ Hp w0 [Ent.own 2 S11053 v34 s_j1.2, Ent.own 2 S11052 v36 s_j1.1, Ent.snap w0 w0.heap.size] w) (fun s_j1 => M.impl_placesOf_j1 s_l1 s_j1 = some t8839) ?_ ?_
        · refine CW.blockJ (fun (s_j2 : (List Int) × (List Int)) (F : Fr) (w : World) => ∃ (S12153 : Nat → Prop) (S12154 : Nat → Prop), F 0 = v1 ∧ F 4 = v36 ∧ F 5 = v34 ∧ F 16 = v1 ∧ F 17 = (.int .i64 (a0.length : Int)) ∧ F 18 = (.int .i64 s_l1.2.2) ∧ Hp w0 [Ent.own 2 S12154 v34 s_j2.2, Ent.own 2 S12153 v36 s_j2.1, Ent.snap w0 w0.heap.size] w) (fun s_j2 => M.impl_placesOf_j2 s_l1 s_j2 = some t8839) ?_ ?_
          · refine CW.seq ?_
            refine CW.regionL ?_
            refine OW.cons (OP.val (v := (.int .i64 s_l1.2.2)) rfl (x_mv f8858) ?_)
            obtain ⟨x12163, ha12164, hm⟩ := bndE hm
            obtain ⟨hz12165, ha12169⟩ := idxE ha12164
            obtain ⟨b12166, q12167, hix12168⟩ := rdL_ix (hL.rdS 2 rfl h2) hz12165 ha12169
            refine OW.cons (OP.val (v := (.pointer (some ⟨b12166, q12167, none⟩))) rfl (x_ix Try.underlying27 Try_T88 f8856 f8858 hix12168) ?_)
            refine OW.cons (OP.val (v := (.agg #[(.int .i64 x12163.Boat), (.int .i64 x12163.Code), (.int .i64 x12163.Time)])) rfl (x_loadN (cs := [(.int .i64 x12163.Boat), (.int .i64 x12163.Code), (.int .i64 x12163.Time)]) Try.underlying88 Try_T88 rfl rfl (rdF_cells (hL.rdS 2 rfl h2) hix12168 ha12169)) ?_)
            refine OW.cons (S_alloc (cs := #[(.int .i64 0), (.int .i64 0), (.int .i64 0)]) hL Try_T88 rfl rfl ?_)
            intro wd12170 b12171 hL
            refine OW.cons (OP.val (v := (.int .i64 s_l1.2.2)) rfl (x_assign) ?_)
            refine OW.cons (S_storeN (l := [(.int .i64 x12163.Boat), (.int .i64 x12163.Code), (.int .i64 x12163.Time)]) (cs' := #[(.int .i64 x12163.Boat), (.int .i64 x12163.Code), (.int .i64 x12163.Time)]) hL 0 rfl Try_T88 rfl rfl (List.forall_mem_cons.2 ⟨rfl, (List.forall_mem_cons.2 ⟨rfl, (List.forall_mem_cons.2 ⟨rfl, (fun _ h => by cases h)⟩)⟩)⟩) rfl (Nat.le_of_ble_eq_true rfl) rfl ?_)
            intro wd12172 hL
            refine OW.nil ?_
            refine CW.seq ?_
            refine CW.seq ?_
            refine CW.regionL ?_
            refine OW.cons (OP.val (v := (.pointer (some ⟨b12171, 1, none⟩))) rfl (x_fieldAddr (fsz := 1) 0 1 1 Try.underlying88 rfl Try_T2 rfl rfl rfl) ?_)
            refine OW.cons (OP.val (v := (.int .i64 x12163.Code)) rfl (x_load1 Try.underlying2 rfl rfl (hL.cellB 0 rfl rfl)) ?_)
            refine OW.cons (OP.val (v := (.bool (x12163.Code != 0))) rfl (x_neq rfl rfl) ?_)
            refine OW.nil ?_
            refine CW.condM (t := x12163.Code != 0) rfl hm (fun hb12173 hm => ?_) (fun hb12173 hm => ?_)
            · refine CW.exit ?_
              refine XJ.hit ?_
              have hL := hL.sel [1, 2, 3] (by decide) rfl
              exact ⟨(s_l1.1, s_l1.2.1), hm, ⟨S8837, S8838, f8853, f8854, f8855, f8856, f8857, f8858, hL⟩⟩
            · refine CW.skip ?_
              refine CW.seq ?_
              refine CW.regionL ?_
              refine OW.cons (OP.val (v := v36) rfl (x_mv f8854) ?_)
              refine OW.cons (OP.val (v := (.int .i64 s_l1.2.2)) rfl (x_move) ?_)
              obtain ⟨x12174, ha12175, hm⟩ := bndE hm
              obtain ⟨hz12176, ha12180⟩ := idxE ha12175
              obtain ⟨b12177, q12178, hix12179⟩ := rdL_ix (hL.rdO 2 rfl) hz12176 ha12180
              refine OW.cons (OP.val (v := (.pointer (some ⟨b12177, q12178, none⟩))) rfl (x_ix Try.underlying53 Try_T2 rfl rfl hix12179) ?_)
              refine OW.cons (S_storeX (j := 0) 1 hL 2 rfl Try_T2 hix12179 ha12180 rfl rfl rfl rfl rfl rfl ?_)
              intro wd12181 hL
              refine OW.nil ?_
              refine CW.seq ?_
              refine CW.regionL ?_
              refine OW.cons (OP.val (v := v1) rfl (x_mv f8853) ?_)
              refine OW.cons (OP.val (v := (.int .i64 (a0.length : Int))) rfl (x_lenR Try.underlying27 rfl (hL.rdS 3 rfl h2)) ?_)
              refine OW.cons (OP.val (v := (.int .i64 0)) rfl (x_move) ?_)
              refine OW.nil ?_
              obtain ⟨o12880, ho12881, hm⟩ := bndE hm
              refine CW.loopB (fun (s_l2 : (List Int) × (List Int) × Int) (F : Fr) (w : World) => ∃ (S12876 : Nat → Prop) (S12877 : Nat → Prop), F 0 = v1 ∧ F 4 = v36 ∧ F 5 = v34 ∧ F 6 = (.int .i64 s_l1.2.2) ∧ F 7 = (.pointer (some ⟨b12171, 0, none⟩)) ∧ F 16 = v1 ∧ F 17 = (.int .i64 (a0.length : Int)) ∧ F 18 = (.int .i64 s_l1.2.2) ∧ F 29 = v1 ∧ F 30 = (.int .i64 (a0.length : Int)) ∧ F 31 = (.int .i64 s_l2.2.2) ∧ Hp w0 [Ent.blk b12171 88 #[(.int .i64 x12163.Boat), (.int .i64 x12163.Code), (.int .i64 x12163.Time)], Ent.own 2 S12877 v34 s_l2.2.1, Ent.own 2 S12876 v36 s_l2.1, Ent.snap w0 w0.heap.size] w) (fun o => outc o (fun x => some (.ret x)) (fun s => M.impl_placesOf_a2 s_l1 s) = some t8839) ho12881 hm ⟨S8837, S8838, f8853, f8854, f8855, rfl, rfl, f8856, f8857, f8858, rfl, rfl, rfl, hL⟩ ?_ ?_
              · intro s_l2 F12882 wd12883 hJ hm
                have hm := outcE hm
                have hm : M.impl_placesOf_a2 s_l1 s_l2 = some t8839 := hm
                unfold M.impl_placesOf_a2 at hm
                obtain ⟨S12876, S12877, f12884, f12885, f12886, f12887, f12888, f12889, f12890, f12891, f12892, f12893, f12894, hL⟩ := hJ
                have hL := hL.sel [1, 2, 3] (by decide) rfl
                exact ⟨(s_l2.1, s_l2.2.1), hm, ⟨S12876, S12877, f12884, f12885, f12886, f12889, f12890, f12891, hL⟩⟩
              · intro s_l2 F12895 wd12896 t12878 hJ hm hr12879
                unfold M.impl_placesOf_l2 at hm
                obtain ⟨S12876, S12877, f12897, f12898, f12899, f12900, f12901, f12902, f12903, f12904, f12905, f12906, f12907, hL⟩ := hJ
                refine CW.seq ?_
                refine CW.regionL ?_
                refine OW.cons (OP.val (v := (.bool (decide (s_l2.2.2 < (a0.length : Int))))) rfl (x_lss f12907 f12906) ?_)
                refine OW.nil ?_
                refine CW.seq ?_
                refine CW.condM (t := decide (s_l2.2.2 < (a0.length : Int))) rfl hm (fun hb12908 hm => ?_) (fun hb12908 hm => ?_)
                · refine CW.skip ?_
                  refine CW.seqJ (fun (s_j3 : (List Int) × (List Int)) (F : Fr) (w : World) => ∃ (S13074 : Nat → Prop) (S13075 : Nat → Prop), F 0 = v1 ∧ F 4 = v36 ∧ F 5 = v34 ∧ F 6 = (.int .i64 s_l1.2.2) ∧ F 7 = (.pointer (some ⟨b12171, 0, none⟩)) ∧ F 16 = v1 ∧ F 17 = (.int .i64 (a0.length : Int)) ∧ F 18 = (.int .i64 s_l1.2.2) ∧ F 29 = v1 ∧ F 30 = (.int .i64 (a0.length : Int)) ∧ F 31 = (.int .i64 s_l2.2.2) ∧ Hp w0 [Ent.blk b12171 88 #[(.int .i64 x12163.Boat), (.int .i64 x12163.Code), (.int .i64 x12163.Time)], Ent.own 2 S13075 v34 s_j3.2, Ent.own 2 S13074 v36 s_j3.1, Ent.snap w0 w0.heap.size] w) (fun s_j3 => M.impl_placesOf_j3 s_l2 s_j3 = some t12878) ?_ ?_
                  · refine CW.blockJ (fun (s_j4 : (List Int) × (List Int)) (F : Fr) (w : World) => ∃ (S13164 : Nat → Prop) (S13165 : Nat → Prop), F 0 = v1 ∧ F 4 = v36 ∧ F 5 = v34 ∧ F 6 = (.int .i64 s_l1.2.2) ∧ F 7 = (.pointer (some ⟨b12171, 0, none⟩)) ∧ F 16 = v1 ∧ F 17 = (.int .i64 (a0.length : Int)) ∧ F 18 = (.int .i64 s_l1.2.2) ∧ F 29 = v1 ∧ F 30 = (.int .i64 (a0.length : Int)) ∧ F 31 = (.int .i64 s_l2.2.2) ∧ Hp w0 [Ent.blk b12171 88 #[(.int .i64 x12163.Boat), (.int .i64 x12163.Code), (.int .i64 x12163.Time)], Ent.own 2 S13165 v34 s_j4.2, Ent.own 2 S13164 v36 s_j4.1, Ent.snap w0 w0.heap.size] w) (fun s_j4 => M.impl_placesOf_j4 s_l2 s_j4 = some t12878) ?_ ?_
                    · refine CW.seq ?_
                      refine CW.regionL ?_
                      obtain ⟨x13179, ha13180, hm⟩ := bndE hm
                      obtain ⟨hz13181, ha13185⟩ := idxE ha13180
                      obtain ⟨b13182, q13183, hix13184⟩ := rdL_ix (hL.rdS 3 rfl h2) hz13181 ha13185
                      refine OW.cons (OP.val (v := (.pointer (some ⟨b13182, q13183, none⟩))) rfl (x_ix Try.underlying27 Try_T88 f12905 f12907 hix13184) ?_)
                      refine OW.cons (OP.val (v := (.agg #[(.int .i64 x13179.Boat), (.int .i64 x13179.Code), (.int .i64 x13179.Time)])) rfl (x_loadN (cs := [(.int .i64 x13179.Boat), (.int .i64 x13179.Code), (.int .i64 x13179.Time)]) Try.underlying88 Try_T88 rfl rfl (rdF_cells (hL.rdS 3 rfl h2) hix13184 ha13185)) ?_)
                      refine OW.cons (S_alloc (cs := #[(.int .i64 0), (.int .i64 0), (.int .i64 0)]) hL Try_T88 rfl rfl ?_)
                      intro wd13186 b13187 hL
                      refine OW.cons (S_storeN (l := [(.int .i64 x13179.Boat), (.int .i64 x13179.Code), (.int .i64 x13179.Time)]) (cs' := #[(.int .i64 x13179.Boat), (.int .i64 x13179.Code), (.int .i64 x13179.Time)]) hL 0 rfl Try_T88 rfl rfl (List.forall_mem_cons.2 ⟨rfl, (List.forall_mem_cons.2 ⟨rfl, (List.forall_mem_cons.2 ⟨rfl, (fun _ h => by cases h)⟩)⟩)⟩) rfl (Nat.le_of_ble_eq_true rfl) rfl ?_)
                      intro wd13188 hL
                      refine OW.nil ?_
                      refine CW.seqJ (fun (s_j5 : Bool) (F : Fr) (w : World) => F 0 = v1 ∧ F 4 = v36 ∧ F 5 = v34 ∧ F 6 = (.int .i64 s_l1.2.2) ∧ F 7 = (.pointer (some ⟨b12171, 0, none⟩)) ∧ F 9 = (.pointer (some ⟨b13187, 0, none⟩)) ∧ F 16 = v1 ∧ F 17 = (.int .i64 (a0.length : Int)) ∧ F 18 = (.int .i64 s_l1.2.2) ∧ F 29 = v1 ∧ F 30 = (.int .i64 (a0.length : Int)) ∧ F 31 = (.int .i64 s_l2.2.2) ∧ F 44 = (.bool s_j5) ∧ Hp w0 [Ent.blk b13187 88 #[(.int .i64 x13179.Boat), (.int .i64 x13179.Code), (.int .i64 x13179.Time)], Ent.blk b12171 88 #[(.int .i64 x12163.Boat), (.int .i64 x12163.Code), (.int .i64 x12163.Time)], Ent.own 2 S12877 v34 s_l2.2.1, Ent.own 2 S12876 v36 s_l2.1, Ent.snap w0 w0.heap.size] w) (fun s_j5 => M.impl_placesOf_j5 s_l1 x12163 s_l2 x13179 s_j5 = some t12878) ?_ ?_
                      · refine CW.regionL ?_
                        refine OW.cons (OP.val (v := (.pointer (some ⟨b13187, 1, none⟩))) rfl (x_fieldAddr (fsz := 1) 0 1 1 Try.underlying88 rfl Try_T2 rfl rfl rfl) ?_)
                        refine OW.cons (OP.val (v := (.int .i64 x13179.Code)) rfl (x_load1 Try.underlying2 rfl rfl (hL.cellB 0 rfl rfl)) ?_)
                        refine OW.cons (OP.val (v := (.bool (x13179.Code == 0))) rfl (x_eql rfl rfl) ?_)
                        refine OW.cons (OP.val (v := (.bool (x13179.Code == 0))) rfl (x_move) ?_)
                        refine ifB_elim hm (fun hb13253 hm => ?_) (fun hb13253 hm => ?_)
                        · refine OW.cons (OP.yes' rfl rfl hb13253 (OP.val (v := (.pointer (some ⟨b13187, 2, none⟩))) rfl (x_fieldAddr (fsz := 1) 0 2 2 Try.underlying88 rfl Try_T2 rfl rfl rfl) ?_))
                          refine OW.cons (OP.yes' rfl rfl hb13253 (OP.val (v := (.int .i64 x13179.Time)) rfl (x_load1 Try.underlying2 rfl rfl (hL.cellB 0 rfl rfl)) ?_))
                          refine OW.cons (OP.yes' rfl rfl hb13253 (OP.val (v := (.pointer (some ⟨b12171, 2, none⟩))) rfl (x_fieldAddr (fsz := 1) 0 2 2 Try.underlying88 rfl Try_T2 rfl f12901 rfl) ?_))
                          refine OW.cons (OP.yes' rfl rfl hb13253 (OP.val (v := (.int .i64 x12163.Time)) rfl (x_load1 Try.underlying2 rfl rfl (hL.cellB 1 rfl rfl)) ?_))
                          refine OW.cons (OP.yes' rfl rfl hb13253 (OP.val (v := (.bool (decide (x13179.Time < x12163.Time)))) rfl (x_lss rfl rfl) ?_))
                          refine OW.cons (OP.val (v := (.bool (decide (x13179.Time < x12163.Time)))) rfl (x_pickT' rfl hb13253 rfl) ?_)
                          refine OW.nil ?_
                          exact ⟨decide (x13179.Time < x12163.Time), hm, ⟨f12897, f12898, f12899, f12900, f12901, rfl, f12902, f12903, f12904, f12905, f12906, f12907, rfl, hL⟩⟩
                        · refine OW.cons (OP.no' rfl rfl hb13253 rfl ?_)
                          refine OW.cons (OP.no' rfl rfl hb13253 rfl ?_)
                          refine OW.cons (OP.no' rfl rfl hb13253 rfl ?_)
                          refine OW.cons (OP.no' rfl rfl hb13253 rfl ?_)
                          refine OW.cons (OP.no' rfl rfl hb13253 rfl ?_)
                          refine OW.cons (OP.val (v := (.bool false)) rfl (x_pickF' rfl hb13253 rfl) ?_)
                          refine OW.nil ?_
                          exact ⟨false, hm, ⟨f12897, f12898, f12899, f12900, f12901, rfl, f12902, f12903, f12904, f12905, f12906, f12907, rfl, hL⟩⟩
                      · intro s_j5 F13190 wd13191 hJ hm
                        unfold M.impl_placesOf_j5 at hm
                        obtain ⟨f13192, f13193, f13194, f13195, f13196, f13197, f13198, f13199, f13200, f13201, f13202, f13203, f13204, hL⟩ := hJ
                        refine CW.condM (t := s_j5) f13204 hm (fun hb13205 hm => ?_) (fun hb13205 hm => ?_)
                        · refine CW.regionL ?_
                          refine OW.cons (OP.val (v := v36) rfl (x_mv f13193) ?_)
                          refine OW.cons (OP.val (v := (.int .i64 s_l1.2.2)) rfl (x_mv f13195) ?_)
                          obtain ⟨x13206, ha13207, hm⟩ := bndE hm
                          obtain ⟨hz13208, ha13212⟩ := idxE ha13207
                          obtain ⟨b13209, q13210, hix13211⟩ := rdL_ix (hL.rdO 3 rfl) hz13208 ha13212
                          refine OW.cons (OP.val (v := (.pointer (some ⟨b13209, q13210, none⟩))) rfl (x_ix Try.underlying53 Try_T2 rfl rfl hix13211) ?_)
                          refine OW.cons (OP.val (v := (.int .i64 x13206)) rfl (x_load1 Try.underlying2 rfl rfl (rdF_cells (hL.rdO 3 rfl) hix13211 ha13212 0 _ rfl)) ?_)
                          refine OW.cons (OP.val (v := (.int .i64 (w64 (x13206 + 1)))) rfl (x_add rfl rfl) ?_)
                          obtain ⟨x13213, ha13214, hm⟩ := bndE hm
                          obtain ⟨hz13215, ha13219⟩ := idxE ha13214
                          obtain ⟨b13216, q13217, hix13218⟩ := rdL_ix (hL.rdO 3 rfl) hz13215 ha13219
                          refine OW.cons (OP.val (v := (.pointer (some ⟨b13216, q13217, none⟩))) rfl (x_ix Try.underlying53 Try_T2 rfl rfl hix13218) ?_)
                          refine OW.cons (S_storeX (j := 0) (w64 (x13206 + 1)) hL 3 rfl Try_T2 hix13218 ha13219 rfl rfl rfl rfl rfl rfl ?_)
                          intro wd13220 hL
                          refine OW.nil ?_
                          have hL := hL.sel [1, 2, 3, 4] (by decide) rfl
                          exact ⟨(s_l2.1.set (s_l1.2.2 : Int).toNat (w64 (x13206 + 1)), s_l2.2.1), hm, ⟨S12876, S12877, f13192, f13193, f13194, f13195, f13196, f13198, f13199, f13200, f13201, f13202, f13203, hL⟩⟩
                        · refine CW.seqJ (fun (s_j6 : Bool) (F : Fr) (w : World) => F 0 = v1 ∧ F 4 = v36 ∧ F 5 = v34 ∧ F 6 = (.int .i64 s_l1.2.2) ∧ F 7 = (.pointer (some ⟨b12171, 0, none⟩)) ∧ F 16 = v1 ∧ F 17 = (.int .i64 (a0.length : Int)) ∧ F 18 = (.int .i64 s_l1.2.2) ∧ F 29 = v1 ∧ F 30 = (.int .i64 (a0.length : Int)) ∧ F 31 = (.int .i64 s_l2.2.2) ∧ F 60 = (.bool s_j6) ∧ Hp w0 [Ent.blk b13187 88 #[(.int .i64 x13179.Boat), (.int .i64 x13179.Code), (.int .i64 x13179.Time)], Ent.blk b12171 88 #[(.int .i64 x12163.Boat), (.int .i64 x12163.Code), (.int .i64 x12163.Time)], Ent.own 2 S12877 v34 s_l2.2.1, Ent.own 2 S12876 v36 s_l2.1, Ent.snap w0 w0.heap.size] w) (fun s_j6 => M.impl_placesOf_j6 s_l1 s_l2 s_j6 = some t12878) ?_ ?_
                          · refine CW.regionL ?_
                            refine OW.cons (OP.val (v := (.pointer (some ⟨b13187, 1, none⟩))) rfl (x_fieldAddr (fsz := 1) 0 1 1 Try.underlying88 rfl Try_T2 rfl f13197 rfl) ?_)
                            refine OW.cons (OP.val (v := (.int .i64 x13179.Code)) rfl (x_load1 Try.underlying2 rfl rfl (hL.cellB 0 rfl rfl)) ?_)
                            refine OW.cons (OP.val (v := (.bool (x13179.Code == 0))) rfl (x_eql rfl rfl) ?_)
                            refine OW.cons (OP.val (v := (.bool (x13179.Code == 0))) rfl (x_move) ?_)
                            refine ifB_elim hm (fun hb13252 hm => ?_) (fun hb13252 hm => ?_)
                            · refine OW.cons (OP.yes' rfl rfl hb13252 (OP.val (v := (.pointer (some ⟨b13187, 2, none⟩))) rfl (x_fieldAddr (fsz := 1) 0 2 2 Try.underlying88 rfl Try_T2 rfl f13197 rfl) ?_))
                              refine OW.cons (OP.yes' rfl rfl hb13252 (OP.val (v := (.int .i64 x13179.Time)) rfl (x_load1 Try.underlying2 rfl rfl (hL.cellB 0 rfl rfl)) ?_))
                              refine OW.cons (OP.yes' rfl rfl hb13252 (OP.val (v := (.pointer (some ⟨b12171, 2, none⟩))) rfl (x_fieldAddr (fsz := 1) 0 2 2 Try.underlying88 rfl Try_T2 rfl f13196 rfl) ?_))
                              refine OW.cons (OP.yes' rfl rfl hb13252 (OP.val (v := (.int .i64 x12163.Time)) rfl (x_load1 Try.underlying2 rfl rfl (hL.cellB 1 rfl rfl)) ?_))
                              refine OW.cons (OP.yes' rfl rfl hb13252 (OP.val (v := (.bool (x13179.Time == x12163.Time))) rfl (x_eql rfl rfl) ?_))
                              refine OW.cons (OP.val (v := (.bool (x13179.Time == x12163.Time))) rfl (x_pickT' rfl hb13252 rfl) ?_)
                              refine OW.nil ?_
                              exact ⟨x13179.Time == x12163.Time, hm, ⟨f13192, f13193, f13194, f13195, f13196, f13198, f13199, f13200, f13201, f13202, f13203, rfl, hL⟩⟩
                            · refine OW.cons (OP.no' rfl rfl hb13252 rfl ?_)
                              refine OW.cons (OP.no' rfl rfl hb13252 rfl ?_)
                              refine OW.cons (OP.no' rfl rfl hb13252 rfl ?_)
                              refine OW.cons (OP.no' rfl rfl hb13252 rfl ?_)
                              refine OW.cons (OP.no' rfl rfl hb13252 rfl ?_)
                              refine OW.cons (OP.val (v := (.bool false)) rfl (x_pickF' rfl hb13252 rfl) ?_)
                              refine OW.nil ?_
                              exact ⟨false, hm, ⟨f13192, f13193, f13194, f13195, f13196, f13198, f13199, f13200, f13201, f13202, f13203, rfl, hL⟩⟩
                          · intro s_j6 F13222 wd13223 hJ hm
                            unfold M.impl_placesOf_j6 at hm
                            obtain ⟨f13224, f13225, f13226, f13227, f13228, f13229, f13230, f13231, f13232, f13233, f13234, f13235, hL⟩ := hJ
                            refine CW.condM (t := s_j6) f13235 hm (fun hb13236 hm => ?_) (fun hb13236 hm => ?_)
                            · refine CW.regionL ?_
                              refine OW.cons (OP.val (v := v34) rfl (x_mv f13226) ?_)
                              refine OW.cons (OP.val (v := (.int .i64 s_l1.2.2)) rfl (x_mv f13227) ?_)
                              obtain ⟨x13237, ha13238, hm⟩ := bndE hm
                              obtain ⟨hz13239, ha13243⟩ := idxE ha13238
                              obtain ⟨b13240, q13241, hix13242⟩ := rdL_ix (hL.rdO 2 rfl) hz13239 ha13243
                              refine OW.cons (OP.val (v := (.pointer (some ⟨b13240, q13241, none⟩))) rfl (x_ix Try.underlying53 Try_T2 rfl rfl hix13242) ?_)
                              refine OW.cons (OP.val (v := (.int .i64 x13237)) rfl (x_load1 Try.underlying2 rfl rfl (rdF_cells (hL.rdO 2 rfl) hix13242 ha13243 0 _ rfl)) ?_)
                              refine OW.cons (OP.val (v := (.int .i64 (w64 (x13237 + 1)))) rfl (x_add rfl rfl) ?_)
                              obtain ⟨x13244, ha13245, hm⟩ := bndE hm
                              obtain ⟨hz13246, ha13250⟩ := idxE ha13245
                              obtain ⟨b13247, q13248, hix13249⟩ := rdL_ix (hL.rdO 2 rfl) hz13246 ha13250
                              refine OW.cons (OP.val (v := (.pointer (some ⟨b13247, q13248, none⟩))) rfl (x_ix Try.underlying53 Try_T2 rfl rfl hix13249) ?_)
                              refine OW.cons (S_storeX (j := 0) (w64 (x13237 + 1)) hL 2 rfl Try_T2 hix13249 ha13250 rfl rfl rfl rfl rfl rfl ?_)
                              intro wd13251 hL
                              refine OW.nil ?_
                              have hL := hL.sel [1, 2, 3, 4] (by decide) rfl
                              exact ⟨(s_l2.1, s_l2.2.1.set (s_l1.2.2 : Int).toNat (w64 (x13237 + 1))), hm, ⟨S12876, S12877, f13224, f13225, f13226, f13227, f13228, f13229, f13230, f13231, f13232, f13233, f13234, hL⟩⟩
                            · refine CW.skip ?_
                              have hL := hL.sel [1, 2, 3, 4] (by decide) rfl
                              exact ⟨(s_l2.1, s_l2.2.1), hm, ⟨S12876, S12877, f13224, f13225, f13226, f13227, f13228, f13229, f13230, f13231, f13232, f13233, f13234, hL⟩⟩
                    · intro s_j4 F13166 wd13167 hJ hm
                      unfold M.impl_placesOf_j4 at hm
                      obtain ⟨S13164, S13165, f13168, f13169, f13170, f13171, f13172, f13173, f13174, f13175, f13176, f13177, f13178, hL⟩ := hJ
                      exact ⟨(s_j4.1, s_j4.2), hm, ⟨S13164, S13165, f13168, f13169, f13170, f13171, f13172, f13173, f13174, f13175, f13176, f13177, f13178, hL⟩⟩
                  · intro s_j3 F13076 wd13077 hJ hm
                    unfold M.impl_placesOf_j3 at hm
                    obtain ⟨S13074, S13075, f13078, f13079, f13080, f13081, f13082, f13083, f13084, f13085, f13086, f13087, f13088, hL⟩ := hJ
                    refine CW.regionL ?_
                    refine OW.cons (OP.val (v := (.int .i64 (w64 (s_l2.2.2 + 1)))) rfl (x_add f13088 rfl) ?_)
                    refine OW.cons (OP.val (v := (.int .i64 (w64 (s_l2.2.2 + 1)))) rfl (x_move) ?_)
                    refine OW.nil ?_
                    obtain rfl := Option.some.inj hm
                    exact ⟨_, rfl, ⟨S13074, S13075, f13078, f13079, f13080, f13081, f13082, f13083, f13084, f13085, f13086, f13087, rfl, hL⟩⟩
                · refine CW.exit ?_
                  refine XJ.hit ?_
                  obtain rfl := Option.some.inj hm
                  exact ⟨_, rfl, ⟨S12876, S12877, f12897, f12898, f12899, f12900, f12901, f12902, f12903, f12904, f12905, f12906, f12907, hL⟩⟩
          · intro s_j2 F12155 wd12156 hJ hm
            unfold M.impl_placesOf_j2 at hm
            obtain ⟨S12153, S12154, f12157, f12158, f12159, f12160, f12161, f12162, hL⟩ := hJ
            exact ⟨(s_j2.1, s_j2.2), hm, ⟨S12153, S12154, f12157, f12158, f12159, f12160, f12161, f12162, hL⟩⟩
        · intro s_j1 F11054 wd11055 hJ hm
          unfold M.impl_placesOf_j1 at hm
          obtain ⟨S11052, S11053, f11056, f11057, f11058, f11059, f11060, f11061, hL⟩ := hJ
          refine CW.regionL ?_
          refine OW.cons (OP.val (v := (.int .i64 (w64 (s_l1.2.2 + 1)))) rfl (x_add f11061 rfl) ?_)
          refine OW.cons (OP.val (v := (.int .i64 (w64 (s_l1.2.2 + 1)))) rfl (x_move) ?_)
          refine OW.nil ?_
          obtain rfl := Option.some.inj hm
          exact ⟨_, rfl, ⟨S11052, S11053, f11056, f11057, f11058, f11059, f11060, rfl, hL⟩⟩
      · refine CW.exit ?_
        refine XJ.hit ?_
        obtain rfl := Option.some.inj hm
        exact ⟨_, rfl, ⟨S8837, S8838, f8853, f8854, f8855, f8856, f8857, f8858, hL⟩⟩
  refine DH.node (listed' := #[true, true, true, true, true, false, true, false]) (fuel' := 2) (fun (F : Fr) (w : World) => ∃ (v38 : Value) (S39 : Nat → Prop), F 0 = v1 ∧ F 2 = (.slice none 0 0) ∧ F 3 = (.slice none 0 0) ∧ F 4 = v38 ∧ F 14 = (.int .i64 (a0.length : Int)) ∧ Hp w0 [Ent.own 2 S39 v38 (List.replicate ((a0.length : Int)).toNat (0 : Int)), Ent.snap w0 w0.heap.size] w) ?_ (fun hN32 => ?_)
  · intro F13254 wd13255 hJ
    obtain ⟨v38, S39, f13256, f13257, f13258, f13259, f13260, hL⟩ := hJ
    refine DH.only 5 rfl (by kernel_rfl) (S_make (α := Int) 0 hL Try.underlying53 Try_T2 f13260 f13260 rfl hc18 (by decide) rfl ?_)
    intro wd13261 v13262 S13263 hL
    refine ⟨(hL.sel [2] (by decide) rfl), ?_⟩
    have hS := (hL.sel [2] (by decide) rfl)
    refine DH.take 7 rfl (by kernel_rfl) (by kernel_rfl) (by kernel_rfl) rfl rfl hS (YH.val (v := v13262) (fun w' hS' => x_assign)) ?_
    exact DH.relist (listed' := #[true, true, true, true, true, true, true, true]) (by kernel_rfl) (hN31 _ _ ⟨v13262, S13263, v38, S39, f13256, f13257, f13258, f13259, rfl, hL⟩)
  refine DH.node (listed' := #[true, true, false, true, true, true, false, false]) (fuel' := 3) (fun (F : Fr) (w : World) => ∃ (v40 : Value) (S41 : Nat → Prop), F 0 = v1 ∧ F 2 = (.slice none 0 0) ∧ F 3 = (.slice none 0 0) ∧ F 11 = (.int .i64 (a0.length : Int)) ∧ F 15 = v40 ∧ Hp w0 [Ent.own 2 S41 v40 (List.replicate ((a0.length : Int)).toNat (0 : Int)), Ent.snap w0 w0.heap.size] w) ?_ (fun hN33 => ?_)
  · intro F13264 wd13265 hJ
    obtain ⟨v40, S41, f13266, f13267, f13268, f13269, f13270, hL⟩ := hJ
    refine DH.only 2 rfl (by kernel_rfl) (S_make (α := Int) 0 hL Try.underlying53 Try_T2 f13269 f13269 rfl hc14 (by decide) rfl ?_)
    intro wd13271 v13272 S13273 hL
    refine ⟨(hL.sel [2] (by decide) rfl), ?_⟩
    have hS := (hL.sel [2] (by decide) rfl)
    refine DH.take 6 rfl (by kernel_rfl) (by kernel_rfl) (by kernel_rfl) rfl rfl hS (YH.val (v := v13272) (fun w' hS' => x_assign)) ?_
    have hS := (hL.sel [2] (by decide) rfl)
    refine DH.take 7 rfl (by kernel_rfl) (by kernel_rfl) (by kernel_rfl) rfl rfl hS (YH.val (v := v40) (fun w' hS' => x_mva f13270)) ?_
    have hL := hL.sel [1, 0, 2] (by decide) rfl
    exact DH.relist (listed' := #[true, true, true, true, true, true, true, true]) (by kernel_rfl) (hN31 _ _ ⟨v40, S41, v13272, S13273, f13266, f13267, f13268, rfl, rfl, hL⟩)
  refine DH.all (rs := [2, 5]) (by kernel_rfl) (by simp) ?_
  intro i13274 hi13275
  simp only [List.mem_cons, List.not_mem_nil, or_false] at hi13275
  rcases hi13275 with rfl | rfl
  · refine ⟨_, rfl, ?_⟩
    refine S_make (α := Int) 0 hL Try.underlying53 Try_T2 rfl rfl rfl hc14 (by decide) rfl ?_
    intro wd13276 v13277 S13278 hL
    refine ⟨(hL.sel [1] (by decide) rfl), ?_⟩
    have hS := (hL.sel [1] (by decide) rfl)
    refine DH.take 6 rfl (by kernel_rfl) (by kernel_rfl) (by kernel_rfl) rfl rfl hS (YH.val (v := v13277) (fun w' hS' => x_assign)) ?_
    exact DH.relist (listed' := #[true, true, true, true, true, false, true, false]) (by kernel_rfl) (hN32 _ _ ⟨v13277, S13278, rfl, rfl, rfl, rfl, rfl, hL⟩)
  · refine ⟨_, rfl, ?_⟩
    refine S_make (α := Int) 0 hL Try.underlying53 Try_T2 rfl rfl rfl hc18 (by decide) rfl ?_
    intro wd13279 v13280 S13281 hL
    refine ⟨(hL.sel [1] (by decide) rfl), ?_⟩
    exact DH.relist (listed' := #[true, true, false, true, true, true, false, false]) (by kernel_rfl) (hN33 _ _ ⟨v13280, S13281, rfl, rfl, rfl, rfl, rfl, hL⟩)

theorem M.impl_PlacesOf_ok (w0 : World) (a0 : Int) (a1 : Race) {v1 : Value} (h2 : rdL (· < w0.heap.size) w0 v1 a1.Finishes) {r : (List Int) × Int} (hm : M.impl_PlacesOf a0 a1 = some r) :
    Calls Try.prog 29 #[(.int .i64 a0), (.agg #[v1])] w0 fun e w' => ∃ (rv0 : Value) (rS0 : Nat → Prop), e = .returned (.tuple #[rv0, (.int .i64 r.2)]) ∧ Fresh w0 w' [Ent.own 2 rS0 rv0 r.1] := by
  unfold M.impl_PlacesOf at hm
  refine calls_CW (args := [(.int .i64 a0), (.agg #[v1])]) Try.func29 rfl rfl rfl ?_
  have hL := Hp.start w0
  refine CW.seq ?_
  refine CW.regionL ?_
  refine OW.cons (S_box (cs := #[v1]) hL rfl rfl rfl ?_)
  intro wd3 b4 hL
  refine OW.cons (OP.val (v := (.slice none 0 0)) rfl (x_assign) ?_)
  refine OW.cons (OP.val (v := (.int .i64 0)) rfl (x_assign) ?_)
  refine OW.nil ?_
  refine CW.seq ?_
  refine CW.seq ?_
  refine CW.regionL ?_
  refine OW.cons (OP.val (v := (.int .i64 a0)) rfl (x_move) ?_)
  refine OW.cons (OP.val (v := (.agg #[v1])) rfl (x_loadN (cs := [v1]) Try.underlying29 Try_T29 rfl rfl (hL.cellsB 0 rfl (o := 0) (l := [v1]) (by intro j u hj; exact (by simpa using hj)))) ?_)
  obtain ⟨x5, hx6, hm⟩ := bndE hm
  refine OW.cons (OP.call rfl (x_call (vs := [(.int .i64 a0), (.agg #[v1])]) Try_C16 ⟨rfl, rfl, trivial⟩) (M.impl_IsRace_ok _ a0 a1 (hL.rdS 1 rfl h2) hx6) ?_)
  rintro e7 wd8 ⟨rfl, hF9⟩
  refine ⟨_, rfl, ?_⟩
  have hL := hL.pushAll hF9
  simp only [List.cons_append, List.nil_append, List.set_cons_zero, List.set_cons_succ] at hL
  refine OW.cons (OP.val (v := (.bool (!x5))) rfl (x_not rfl) ?_)
  refine OW.nil ?_
  refine CW.condM (t := !x5) rfl hm (fun hb10 hm => ?_) (fun hb10 hm => ?_)
  · refine CW.seq ?_
    refine CW.regionL ?_
    refine OW.cons (OP.val (v := (.slice none 0 0)) rfl (x_assign) ?_)
    refine OW.cons (OP.val (v := (.int .i64 1)) rfl (x_assign) ?_)
    refine OW.nil ?_
    refine CW.ret ?_
    have hL := hL.pushNil Int 2
    obtain rfl := Option.some.inj hm
    exact RR2 rfl rfl rfl ⟨(.slice none 0 0), None_, rfl, hL.fresh 2 rfl [0] (by decide) (by decide) rfl⟩
  · refine CW.skip ?_
    refine CW.seq ?_
    refine CW.regionL ?_
    refine OW.cons (OP.val (v := (.pointer (some ⟨b4, 0, none⟩))) rfl (x_fieldAddr (fsz := 1) 0 0 0 Try.underlying29 rfl Try_T27 rfl rfl rfl) ?_)
    refine OW.cons (OP.val (v := v1) rfl (x_load1 Try.underlying27 rfl rfl (hL.cellB 0 rfl rfl)) ?_)
    obtain ⟨x11, hx12, hm⟩ := bndE hm
    refine OW.cons (OP.call rfl (x_call (vs := [v1]) Try_C68 ⟨rfl, trivial⟩) (M.impl_placesOf_ok _ a1.Finishes (hL.rdS 1 rfl h2) hx12) ?_)
    rintro e17 wd18 ⟨v14, S13, v16, S15, rfl, hF19⟩
    refine ⟨_, rfl, ?_⟩
    have hL := hL.pushAll hF19
    simp only [List.cons_append, List.nil_append, List.set_cons_zero, List.set_cons_succ] at hL
    refine OW.cons (OP.val (v := (.tuple #[v14, v16])) rfl (x_move) ?_)
    refine OW.cons (OP.val (v := v14) rfl (x_extract rfl rfl) ?_)
    refine OW.cons (OP.val (v := v16) rfl (x_extract rfl rfl) ?_)
    refine OW.cons (OP.val (v := v14) rfl (x_assign) ?_)
    refine OW.cons (OP.val (v := v16) rfl (x_assign) ?_)
    refine OW.nil ?_
    refine CW.seq ?_
    refine CW.regionL ?_
    refine OW.cons (OP.val (v := v14) rfl (x_move) ?_)
    refine OW.cons (OP.val (v := v14) rfl (x_assign) ?_)
    refine OW.cons (OP.val (v := (.int .i64 0)) rfl (x_assign) ?_)
    refine OW.nil ?_
    refine CW.ret ?_
    obtain rfl := Option.some.inj hm
    exact RR2 rfl rfl rfl ⟨v14, S13, rfl, hL.fresh 3 rfl [0] (by decide) (by decide) rfl⟩

theorem M.laws_big_ok (w0 : World) (a0 : List UInt8) {v1 : Value} (h2 : rdL (· < w0.heap.size) w0 v1 a0) {r : Bool} (hm : M.laws_big a0 = some r) :
    Calls Try.prog 34 #[v1] w0 fun e w' => e = .returned (.bool r) ∧ Fresh w0 w' [] := by
  unfold M.laws_big at hm
  refine calls_CW (args := [v1]) Try.func34 rfl rfl rfl ?_
  have hL := Hp.start w0
  refine CW.seq ?_
  refine CW.regionL ?_
  refine OW.cons (OP.val (v := (.bool false)) rfl (x_assign) ?_)
  refine OW.nil ?_
  refine CW.seq ?_
  refine CW.regionL ?_
  refine OW.cons (OP.val (v := v1) rfl (x_move) ?_)
  refine OW.cons (OP.val (v := (.int .i64 (a0.length : Int))) rfl (x_lenR Try.underlying59 rfl (hL.rdS 0 rfl h2)) ?_)
  refine OW.cons (OP.val (v := (.bool (decide (4096 < (a0.length : Int))))) rfl (x_gtr rfl rfl) ?_)
  refine OW.cons (OP.val (v := (.bool (decide (4096 < (a0.length : Int))))) rfl (x_assign) ?_)
  refine OW.nil ?_
  refine CW.ret ?_
  obtain rfl := Option.some.inj hm
  exact RR1 rfl rfl ⟨rfl, hL.fresh 0 rfl [] (by decide) (by decide) rfl⟩

theorem M.spec_l01From_ok (w0 : World) (a0 : List UInt8) {v1 : Value} (h2 : rdL (· < w0.heap.size) w0 v1 a0) {r : (Int × Int)} (hm : M.spec_l01From a0 = some r) :
    Calls Try.prog 71 #[v1] w0 fun e w' => ∃ rb : Nat, e = .returned (.pointer (some ⟨rb, 0, none⟩)) ∧ Fresh w0 w' [Ent.blk rb 111 #[v1, .int .i64 r.1, .int .i64 r.2]] := by
  unfold M.spec_l01From at hm
  refine calls_CW (args := [v1]) Try.func71 rfl rfl rfl ?_
  have hL := Hp.start w0
  refine CW.seq ?_
  refine CW.regionL ?_
  refine OW.cons (OP.val (v := (.pointer none)) rfl (x_assign) ?_)
  refine OW.nil ?_
  refine CW.seq ?_
  refine CW.regionL ?_
  refine OW.cons (OP.val (v := v1) rfl (x_move) ?_)
  refine OW.cons (OP.val (v := (.agg #[v1, (.int .i64 0), (.int .i64 61657)])) rfl (x_build Try_B111 (ps := [(0, v1), (2, (.int .i64 61657))]) ⟨⟨rfl, rfl⟩, ⟨rfl, rfl⟩, trivial⟩ (by simp [Instr.fill, cells_int, cells_bool, cells_string, cells_agg, cells_slice, cells_pointer, (rdL_cells (hL.rdS 0 rfl h2))])) ?_)
  refine OW.cons (S_box (cs := #[v1, (.int .i64 0), (.int .i64 61657)]) hL rfl rfl rfl ?_)
  intro wd3 b4 hL
  refine OW.cons (OP.val (v := (.pointer (some ⟨b4, 0, none⟩))) rfl (x_assign) ?_)
  refine OW.nil ?_
  refine CW.seq ?_
  refine CW.seq ?_
  refine CW.regionL ?_
  refine OW.cons (OP.val (v := (.int .i64 0)) rfl (x_assign) ?_)
  refine OW.nil ?_
  obtain ⟨o57, ho58, hm⟩ := bndE hm
  refine CW.loopB (fun (s_l1 : Int × Int) (F : Fr) (w : World) => F 0 = v1 ∧ F 3 = (.pointer (some ⟨b4, 0, none⟩)) ∧ F 4 = (.int .i64 s_l1.2) ∧ Hp w0 [Ent.blk b4 111 #[v1, (.int .i64 0), (.int .i64 s_l1.1)], Ent.snap w0 w0.heap.size] w) (fun o => outc o (fun x => some x) (fun s => M.spec_l01From_a1 s) = some r) ho58 hm ⟨rfl, rfl, rfl, hL⟩ ?_ ?_
  · intro s_l1 F59 wd60 hJ hm
    have hm := outcE hm
    have hm : M.spec_l01From_a1 s_l1 = some r := hm
    unfold M.spec_l01From_a1 at hm
    obtain ⟨f61, f62, f63, hL⟩ := hJ
    refine CW.seq ?_
    refine CW.regionL ?_
    refine OW.cons (OP.val (v := (.pointer (some ⟨b4, 0, none⟩))) rfl (x_mv f62) ?_)
    refine OW.cons (OP.val (v := (.pointer (some ⟨b4, 0, none⟩))) rfl (x_assign) ?_)
    refine OW.nil ?_
    refine CW.ret ?_
    obtain rfl := Option.some.inj hm
    exact RR1 rfl rfl ⟨b4, rfl, hL.fresh 1 rfl [0] (by decide) (by decide) rfl⟩
  · intro s_l1 F64 wd65 t55 hJ hm hr56
    unfold M.spec_l01From_l1 at hm
    obtain ⟨f66, f67, f68, hL⟩ := hJ
    refine CW.seq ?_
    refine CW.seqJ (fun (s_j1 : Bool) (F : Fr) (w : World) => F 0 = v1 ∧ F 3 = (.pointer (some ⟨b4, 0, none⟩)) ∧ F 4 = (.int .i64 s_l1.2) ∧ F 15 = (.bool s_j1) ∧ Hp w0 [Ent.blk b4 111 #[v1, (.int .i64 0), (.int .i64 s_l1.1)], Ent.snap w0 w0.heap.size] w) (fun s_j1 => M.spec_l01From_j1 a0 s_l1 s_j1 = some t55) ?_ ?_
    · refine CW.regionL ?_
      refine OW.cons (OP.val (v := (.int .i64 s_l1.2)) rfl (x_mv f68) ?_)
      refine OW.cons (OP.val (v := v1) rfl (x_mv f66) ?_)
      refine OW.cons (OP.val (v := (.int .i64 (a0.length : Int))) rfl (x_lenR Try.underlying59 rfl (hL.rdS 1 rfl h2)) ?_)
      refine OW.cons (OP.val (v := (.bool (decide (s_l1.2 < (a0.length : Int))))) rfl (x_lss rfl rfl) ?_)
      refine OW.cons (OP.val (v := (.bool (decide (s_l1.2 < (a0.length : Int))))) rfl (x_move) ?_)
      refine ifB_elim hm (fun hb93 hm => ?_) (fun hb93 hm => ?_)
      · refine OW.cons (OP.yes' rfl rfl hb93 (OP.val (v := (.int .i64 s_l1.2)) rfl (x_mv f68) ?_))
        refine OW.cons (OP.yes' rfl rfl hb93 (OP.val (v := (.bool (decide (s_l1.2 < 64)))) rfl (x_lss rfl rfl) ?_))
        refine OW.cons (OP.val (v := (.bool (decide (s_l1.2 < 64)))) rfl (x_pickT' rfl hb93 rfl) ?_)
        refine OW.nil ?_
        exact ⟨decide (s_l1.2 < 64), hm, ⟨f66, f67, f68, rfl, hL⟩⟩
      · refine OW.cons (OP.no' rfl rfl hb93 rfl ?_)
        refine OW.cons (OP.no' rfl rfl hb93 rfl ?_)
        refine OW.cons (OP.val (v := (.bool false)) rfl (x_pickF' rfl hb93 rfl) ?_)
        refine OW.nil ?_
        exact ⟨false, hm, ⟨f66, f67, f68, rfl, hL⟩⟩
    · intro s_j1 F70 wd71 hJ hm
      unfold M.spec_l01From_j1 at hm
      obtain ⟨f72, f73, f74, f75, hL⟩ := hJ
      refine CW.condM (t := s_j1) f75 hm (fun hb76 hm => ?_) (fun hb76 hm => ?_)
      · refine CW.skip ?_
        refine CW.seq ?_
        refine CW.block ?_
        refine CW.drawH (fun w' => Hp w0 [Ent.snap w0 w0.heap.size] w') Try_mixed ?_
        have hL := hL.call (Mod.drew _)
        have hS := (hL.sel [1] (by decide) rfl)
        refine DH.take 0 rfl (by kernel_rfl) (by kernel_rfl) (by kernel_rfl) rfl rfl hS (YH.val (v := (.pointer (some ⟨b4, 0, none⟩))) (fun w' hS' => x_mv f73)) ?_
        have hS := (hL.sel [1] (by decide) rfl)
        refine DH.take 1 rfl (by kernel_rfl) (by kernel_rfl) (by kernel_rfl) rfl rfl hS (YH.val (v := (.pointer (some ⟨b4, 0, none⟩))) (fun w' hS' => x_mv f73)) ?_
        have hS := (hL.sel [1] (by decide) rfl)
        refine DH.take 2 rfl (by kernel_rfl) (by kernel_rfl) (by kernel_rfl) rfl rfl hS (YH.val (v := (.pointer (some ⟨b4, 0, none⟩))) (fun w' hS' => x_nilCheck rfl)) ?_
        have hS := (hL.sel [1] (by decide) rfl)
        refine DH.take 3 rfl (by kernel_rfl) (by kernel_rfl) (by kernel_rfl) rfl rfl hS (YH.val (v := (.pointer (some ⟨b4, 2, none⟩))) (fun w' hS' => x_fieldAddr (fsz := 1) 0 2 2 Try.underlying111 rfl Try_T2 rfl rfl rfl)) ?_
        have hS := (hL.sel [1] (by decide) rfl)
        refine DH.take 6 rfl (by kernel_rfl) (by kernel_rfl) (by kernel_rfl) rfl rfl hS (YH.val (v := v1) (fun w' hS' => x_mv f72)) ?_
        have hS := (hL.sel [1] (by decide) rfl)
        refine DH.take 7 rfl (by kernel_rfl) (by kernel_rfl) (by kernel_rfl) rfl rfl hS (YH.val (v := (.int .i64 s_l1.2)) (fun w' hS' => x_mv f74)) ?_
        have hS := (hL.sel [1] (by decide) rfl)
        obtain ⟨x85, ha86, hm⟩ := bndE hm
        obtain ⟨hz87, ha91⟩ := idxE ha86
        obtain ⟨b88, q89, hix90⟩ := rdL_ix (hL.rdS 1 rfl h2) hz87 ha91
        refine DH.take 8 rfl (by kernel_rfl) (by kernel_rfl) (by kernel_rfl) rfl rfl hS (YH.val (v := (.pointer (some ⟨b88, q89, none⟩))) (fun w' hS' => x_ix Try.underlying59 Try_T5 rfl rfl hix90)) ?_
        have hS := (hL.sel [1] (by decide) rfl)
        refine DH.take 9 rfl (by kernel_rfl) (by kernel_rfl) (by kernel_rfl) rfl rfl hS (YH.val (v := (.int .u8 (x85.toNat : Int))) (fun w' hS' => x_load1 Try.underlying5 rfl rfl (rdF_cells (hS'.rdS 0 rfl h2) hix90 ha91 0 _ rfl))) ?_
        have hS := (hL.sel [1] (by decide) rfl)
        refine DH.take 10 rfl (by kernel_rfl) (by kernel_rfl) (by kernel_rfl) rfl rfl hS (YH.val (v := (.int .i64 (IntKind.i64.wrap (x85.toNat : Int)))) (fun w' hS' => x_conv Try.underlying5 Try.underlying2 rfl)) ?_
        refine DH.only 4 rfl (by kernel_rfl) (OP.val (v := (.int .i64 s_l1.1)) rfl (x_load1 Try.underlying2 rfl rfl (hL.cellB 0 rfl rfl)) ?_)
        refine ⟨(hL.sel [1] (by decide) rfl), ?_⟩
        have hS := (hL.sel [1] (by decide) rfl)
        refine DH.take 5 rfl (by kernel_rfl) (by kernel_rfl) (by kernel_rfl) rfl rfl hS (YH.val (v := (.int .i64 (w64 (s_l1.1 * 53)))) (fun w' hS' => x_mul rfl rfl)) ?_
        have hS := (hL.sel [1] (by decide) rfl)
        refine DH.take 11 rfl (by kernel_rfl) (by kernel_rfl) (by kernel_rfl) rfl rfl hS (YH.val (v := (.int .i64 (w64 ((w64 (s_l1.1 * 53)) + (IntKind.i64.wrap (x85.toNat : Int)))))) (fun w' hS' => x_add rfl rfl)) ?_
        have hS := (hL.sel [1] (by decide) rfl)
        refine DH.take 12 rfl (by kernel_rfl) (by kernel_rfl) (by kernel_rfl) rfl rfl hS (YH.val (v := (.int .i64 ((w64 ((w64 (s_l1.1 * 53)) + (IntKind.i64.wrap (x85.toNat : Int)))).tmod 2147483647))) (fun w' hS' => x_rem rfl rfl (by decide))) ?_
        have hS := (hL.sel [1] (by decide) rfl)
        refine DH.take 13 rfl (by kernel_rfl) (by kernel_rfl) (by kernel_rfl) rfl rfl hS (YH.val (v := (.pointer (some ⟨b4, 0, none⟩))) (fun w' hS' => x_nilCheck rfl)) ?_
        have hS := (hL.sel [1] (by decide) rfl)
        refine DH.take 14 rfl (by kernel_rfl) (by kernel_rfl) (by kernel_rfl) rfl rfl hS (YH.val (v := (.pointer (some ⟨b4, 2, none⟩))) (fun w' hS' => x_fieldAddr (fsz := 1) 0 2 2 Try.underlying111 rfl Try_T2 rfl rfl rfl)) ?_
        refine DH.only 15 rfl (by kernel_rfl) (S_store (cs' := #[v1, (.int .i64 0), (.int .i64 ((w64 ((w64 (s_l1.1 * 53)) + (IntKind.i64.wrap (x85.toNat : Int)))).tmod 2147483647))]) hL 0 rfl Try_T2 rfl rfl rfl rfl rfl ?_)
        intro wd92 hL
        refine ⟨(hL.sel [1] (by decide) rfl), ?_⟩
        refine DH.done (by kernel_rfl) ?_
        refine CW.regionL ?_
        refine OW.cons (OP.val (v := (.int .i64 s_l1.2)) rfl (x_mv f74) ?_)
        refine OW.cons (OP.val (v := (.int .i64 (w64 (s_l1.2 + 1)))) rfl (x_add rfl rfl) ?_)
        refine OW.cons (OP.val (v := (.int .i64 (w64 (s_l1.2 + 1)))) rfl (x_assign) ?_)
        refine OW.nil ?_
        obtain rfl := Option.some.inj hm
        exact ⟨_, rfl, ⟨f72, f73, rfl, hL⟩⟩
      · refine CW.exit ?_
        refine XJ.hit ?_
        obtain rfl := Option.some.inj hm
        exact ⟨_, rfl, ⟨f72, f73, f74, hL⟩⟩

theorem M.spec_l01Next_ok (w0 : World) {b1 : Nat} {v2 : Value} (a0 : Src) (h3 : rdL (fun k => k < w0.heap.size ∧ ¬ (Ent.blk b1 111 #[v2, .int .i64 a0.at_, .int .i64 a0.seed]).S k) w0 v2 a0.code) (he4 : (Ent.blk b1 111 #[v2, .int .i64 a0.at_, .int .i64 a0.seed]).H w0) (a1 : Int) {r : (Int) × (Int × Int)} (hm : M.spec_l01Next a0 a1 = some r) :
    Calls Try.prog 72 #[(.pointer (some ⟨b1, 0, none⟩)), (.int .i64 a1)] w0 fun e w' => e = .returned (.int .i64 r.1) ∧ Mut w0 w' (Ent.blk b1 111 #[v2, .int .i64 a0.at_, .int .i64 a0.seed]).S [Ent.blk b1 111 #[v2, .int .i64 r.2.1, .int .i64 r.2.2]] := by
  unfold M.spec_l01Next at hm
  refine calls_CW (args := [(.pointer (some ⟨b1, 0, none⟩)), (.int .i64 a1)]) Try.func72 rfl rfl rfl ?_
  have hL := Hp.startIO he4
  refine CW.seq ?_
  refine CW.regionL ?_
  refine OW.cons (OP.val (v := (.int .i64 0)) rfl (x_assign) ?_)
  refine OW.nil ?_
  refine CW.seq ?_
  refine CW.seq ?_
  refine CW.regionL ?_
  refine OW.cons (OP.val (v := (.int .i64 a1)) rfl (x_move) ?_)
  refine OW.cons (OP.val (v := (.bool (decide (a1 ≤ 1)))) rfl (x_leq rfl rfl) ?_)
  refine OW.nil ?_
  refine CW.condM (t := decide (a1 ≤ 1)) rfl hm (fun hb5 hm => ?_) (fun hb5 hm => ?_)
  · refine CW.seq ?_
    refine CW.regionL ?_
    refine OW.cons (OP.val (v := (.int .i64 0)) rfl (x_assign) ?_)
    refine OW.nil ?_
    refine CW.ret ?_
    obtain rfl := Option.some.inj hm
    exact RR1 rfl rfl ⟨rfl, hL.mutOut 1 rfl [0] (by decide) (by decide) rfl⟩
  · refine CW.skip ?_
    refine CW.seq ?_
    refine CW.regionL ?_
    refine OW.cons (OP.val (v := (.pointer (some ⟨b1, 0, none⟩))) rfl (x_move) ?_)
    refine OW.cons (OP.val (v := (.pointer (some ⟨b1, 0, none⟩))) rfl (x_move) ?_)
    refine OW.cons (OP.val (v := (.pointer (some ⟨b1, 0, none⟩))) rfl (x_nilCheck rfl) ?_)
    refine OW.cons (OP.val (v := (.pointer (some ⟨b1, 2, none⟩))) rfl (x_fieldAddr (fsz := 1) 0 2 2 Try.underlying111 rfl Try_T2 rfl rfl rfl) ?_)
    refine OW.cons (OP.val (v := (.int .i64 a0.seed)) rfl (x_load1 Try.underlying2 rfl rfl (hL.cellB 0 rfl rfl)) ?_)
    refine OW.cons (OP.val (v := (.int .i64 (w64 (a0.seed * 48271)))) rfl (x_mul rfl rfl) ?_)
    refine OW.cons (OP.val (v := (.int .i64 (w64 ((w64 (a0.seed * 48271)) + 23)))) rfl (x_add rfl rfl) ?_)
    refine OW.cons (OP.val (v := (.int .i64 ((w64 ((w64 (a0.seed * 48271)) + 23)).tmod 2147483647))) rfl (x_rem rfl rfl (by decide)) ?_)
    refine OW.cons (OP.val (v := (.pointer (some ⟨b1, 0, none⟩))) rfl (x_nilCheck rfl) ?_)
    refine OW.cons (OP.val (v := (.pointer (some ⟨b1, 2, none⟩))) rfl (x_fieldAddr (fsz := 1) 0 2 2 Try.underlying111 rfl Try_T2 rfl rfl rfl) ?_)
    refine OW.cons (S_store (cs' := #[v2, (.int .i64 a0.at_), (.int .i64 ((w64 ((w64 (a0.seed * 48271)) + 23)).tmod 2147483647))]) hL 0 rfl Try_T2 rfl rfl rfl rfl rfl ?_)
    intro wd6 hL
    refine OW.nil ?_
    refine CW.seq ?_
    refine CW.regionL ?_
    refine OW.cons (OP.val (v := (.pointer (some ⟨b1, 0, none⟩))) rfl (x_move) ?_)
    refine OW.cons (OP.val (v := (.pointer (some ⟨b1, 0, none⟩))) rfl (x_nilCheck rfl) ?_)
    refine OW.cons (OP.val (v := (.pointer (some ⟨b1, 2, none⟩))) rfl (x_fieldAddr (fsz := 1) 0 2 2 Try.underlying111 rfl Try_T2 rfl rfl rfl) ?_)
    refine OW.cons (OP.val (v := (.int .i64 ((w64 ((w64 (a0.seed * 48271)) + 23)).tmod 2147483647))) rfl (x_load1 Try.underlying2 rfl rfl (hL.cellB 0 rfl rfl)) ?_)
    refine OW.cons (OP.val (v := (.int .i64 (w64 (((w64 ((w64 (a0.seed * 48271)) + 23)).tmod 2147483647).tdiv 17)))) rfl (x_quo rfl rfl (by decide)) ?_)
    refine OW.cons (OP.val (v := (.int .i64 (w64 (((w64 ((w64 (a0.seed * 48271)) + 23)).tmod 2147483647).tdiv 17)))) rfl (x_assign) ?_)
    refine OW.nil ?_
    refine CW.seqJ (fun (s_j1 : Int × Int) (F : Fr) (w : World) => F 1 = (.int .i64 a1) ∧ F 5 = (.int .i64 s_j1.2) ∧ Hp w0 [Ent.blk b1 111 #[v2, (.int .i64 s_j1.1), (.int .i64 ((w64 ((w64 (a0.seed * 48271)) + 23)).tmod 2147483647))], Ent.frz w0 (Ent.blk b1 111 #[v2, .int .i64 a0.at_, .int .i64 a0.seed]).S] w) (fun s_j1 => M.spec_l01Next_j1 a0 a1 s_j1 = some r) ?_ ?_
    · refine CW.seq ?_
      refine CW.draw Try_mixed ?_
      have hL := hL.call (Mod.drew _)
      refine DW.pre (fuel := 0) (fin := (((((((((((Array.replicate 10 false).setIfInBounds 0 true).setIfInBounds 1 true).setIfInBounds 2 true).setIfInBounds 3 true).setIfInBounds 4 true).setIfInBounds 5 true).setIfInBounds 6 true).setIfInBounds 7 true).setIfInBounds 8 true).setIfInBounds 9 true)) (C := fun w' => Mod None_ _ w') [0, 1, 2, 3, 4, 5, 6, 7, 8, 9] (Mod.refl _ _) (by kernel_rfl) (by kernel_rfl) ?_
      refine QW.cons rfl (QP.val (v := (.pointer (some ⟨b1, 0, none⟩))) rfl (fun w' hm' => x_move) ?_)
      refine QW.cons rfl (QP.val (v := (.pointer (some ⟨b1, 0, none⟩))) rfl (fun w' hm' => x_nilCheck rfl) ?_)
      refine QW.cons rfl (QP.val (v := (.pointer (some ⟨b1, 1, none⟩))) rfl (fun w' hm' => x_fieldAddr (fsz := 1) 0 1 1 Try.underlying111 rfl Try_T3 rfl rfl rfl) ?_)
      refine QW.cons rfl (QP.val (v := (.int .i64 a0.at_)) rfl (fun w' hm' => x_load1 Try.underlying3 rfl rfl ((hL.call hm').cellB 0 rfl rfl)) ?_)
      refine QW.cons rfl (QP.val (v := (.pointer (some ⟨b1, 0, none⟩))) rfl (fun w' hm' => x_move) ?_)
      refine QW.cons rfl (QP.val (v := (.pointer (some ⟨b1, 0, none⟩))) rfl (fun w' hm' => x_nilCheck rfl) ?_)
      refine QW.cons rfl (QP.val (v := (.pointer (some ⟨b1, 0, none⟩))) rfl (fun w' hm' => x_fieldAddr (fsz := 1) 0 0 0 Try.underlying111 rfl Try_T59 rfl rfl rfl) ?_)
      refine QW.cons rfl (QP.val (v := v2) rfl (fun w' hm' => x_load1 Try.underlying59 rfl rfl ((hL.call hm').cellB 0 rfl rfl)) ?_)
      refine QW.cons rfl (QP.val (v := (.int .i64 (a0.code.length : Int))) rfl (fun w' hm' => x_lenR Try.underlying59 rfl ((hL.call hm').rdZ 1 rfl h3)) ?_)
      refine QW.cons rfl (QP.val (v := (.bool (decide (a0.at_ < (a0.code.length : Int))))) rfl (fun w' hm' => x_lss rfl rfl) ?_)
      refine QW.nil ?_
      intro wd40 hmod
      have hL := hL.call hmod
      refine DW.done (by kernel_rfl) ?_
      refine CW.condM (t := decide (a0.at_ < (a0.code.length : Int))) rfl hm (fun hb41 hm => ?_) (fun hb41 hm => ?_)
      · refine CW.seq ?_
        refine CW.draw Try_mixed ?_
        have hL := hL.call (Mod.drew _)
        refine DW.pre (fuel := 0) (fin := (((((((((((((((Array.replicate 14 false).setIfInBounds 0 true).setIfInBounds 1 true).setIfInBounds 2 true).setIfInBounds 3 true).setIfInBounds 4 true).setIfInBounds 5 true).setIfInBounds 6 true).setIfInBounds 7 true).setIfInBounds 8 true).setIfInBounds 9 true).setIfInBounds 10 true).setIfInBounds 11 true).setIfInBounds 12 true).setIfInBounds 13 true)) (C := fun w' => Mod None_ _ w') [0, 1, 2, 3, 4, 5, 6, 7, 8, 9, 10, 11, 12, 13] (Mod.refl _ _) (by kernel_rfl) (by kernel_rfl) ?_
        refine QW.cons rfl (QP.val (v := (.int .i64 (w64 (((w64 ((w64 (a0.seed * 48271)) + 23)).tmod 2147483647).tdiv 17)))) rfl (fun w' hm' => x_move) ?_)
        refine QW.cons rfl (QP.val (v := (.pointer (some ⟨b1, 0, none⟩))) rfl (fun w' hm' => x_move) ?_)
        refine QW.cons rfl (QP.val (v := (.pointer (some ⟨b1, 0, none⟩))) rfl (fun w' hm' => x_nilCheck rfl) ?_)
        refine QW.cons rfl (QP.val (v := (.pointer (some ⟨b1, 0, none⟩))) rfl (fun w' hm' => x_fieldAddr (fsz := 1) 0 0 0 Try.underlying111 rfl Try_T59 rfl rfl rfl) ?_)
        refine QW.cons rfl (QP.val (v := v2) rfl (fun w' hm' => x_load1 Try.underlying59 rfl rfl ((hL.call hm').cellB 0 rfl rfl)) ?_)
        refine QW.cons rfl (QP.val (v := (.pointer (some ⟨b1, 0, none⟩))) rfl (fun w' hm' => x_move) ?_)
        refine QW.cons rfl (QP.val (v := (.pointer (some ⟨b1, 0, none⟩))) rfl (fun w' hm' => x_nilCheck rfl) ?_)
        refine QW.cons rfl (QP.val (v := (.pointer (some ⟨b1, 1, none⟩))) rfl (fun w' hm' => x_fieldAddr (fsz := 1) 0 1 1 Try.underlying111 rfl Try_T3 rfl rfl rfl) ?_)
        refine QW.cons rfl (QP.val (v := (.int .i64 a0.at_)) rfl (fun w' hm' => x_load1 Try.underlying3 rfl rfl ((hL.call hm').cellB 0 rfl rfl)) ?_)
        obtain ⟨x42, ha43, hm⟩ := bndE hm
        obtain ⟨hz44, ha48⟩ := idxE ha43
        obtain ⟨b45, q46, hix47⟩ := rdL_ix (hL.rdZ 1 rfl h3) hz44 ha48
        refine QW.cons rfl (QP.val (v := (.pointer (some ⟨b45, q46, none⟩))) rfl (fun w' hm' => x_ix Try.underlying59 Try_T5 rfl rfl hix47) ?_)
        refine QW.cons rfl (QP.val (v := (.int .u8 (x42.toNat : Int))) rfl (fun w' hm' => x_load1 Try.underlying5 rfl rfl (rdF_cells ((hL.call hm').rdZ 1 rfl h3) hix47 ha48 0 _ rfl)) ?_)
        refine QW.cons rfl (QP.val (v := (.int .i64 (IntKind.i64.wrap (x42.toNat : Int)))) rfl (fun w' hm' => x_conv Try.underlying5 Try.underlying2 rfl) ?_)
        refine QW.cons rfl (QP.val (v := (.int .i64 (w64 ((w64 (((w64 ((w64 (a0.seed * 48271)) + 23)).tmod 2147483647).tdiv 17)) + (IntKind.i64.wrap (x42.toNat : Int)))))) rfl (fun w' hm' => x_add rfl rfl) ?_)
        refine QW.cons rfl (QP.val (v := (.int .i64 (w64 ((w64 (((w64 ((w64 (a0.seed * 48271)) + 23)).tmod 2147483647).tdiv 17)) + (IntKind.i64.wrap (x42.toNat : Int)))))) rfl (fun w' hm' => x_assign) ?_)
        refine QW.nil ?_
        intro wd49 hmod
        have hL := hL.call hmod
        refine DW.done (by kernel_rfl) ?_
        refine CW.seq ?_
        refine CW.regionL ?_
        refine OW.cons (OP.val (v := (.pointer (some ⟨b1, 0, none⟩))) rfl (x_move) ?_)
        refine OW.cons (OP.val (v := (.pointer (some ⟨b1, 0, none⟩))) rfl (x_nilCheck rfl) ?_)
        refine OW.cons (OP.val (v := (.pointer (some ⟨b1, 1, none⟩))) rfl (x_fieldAddr (fsz := 1) 0 1 1 Try.underlying111 rfl Try_T3 rfl rfl rfl) ?_)
        refine OW.cons (OP.val (v := (.int .i64 a0.at_)) rfl (x_load1 Try.underlying3 rfl rfl (hL.cellB 0 rfl rfl)) ?_)
        refine OW.cons (OP.val (v := (.int .i64 (w64 (a0.at_ + 1)))) rfl (x_add rfl rfl) ?_)
        refine OW.cons (OP.val (v := (.pointer (some ⟨b1, 0, none⟩))) rfl (x_nilCheck rfl) ?_)
        refine OW.cons (OP.val (v := (.pointer (some ⟨b1, 1, none⟩))) rfl (x_fieldAddr (fsz := 1) 0 1 1 Try.underlying111 rfl Try_T3 rfl rfl rfl) ?_)
        refine OW.cons (S_store (cs' := #[v2, (.int .i64 (w64 (a0.at_ + 1))), (.int .i64 ((w64 ((w64 (a0.seed * 48271)) + 23)).tmod 2147483647))]) hL 0 rfl Try_T3 rfl rfl rfl rfl rfl ?_)
        intro wd50 hL
        refine OW.nil ?_
        refine CW.seqJ (fun (s_j2 : Bool) (F : Fr) (w : World) => F 0 = (.pointer (some ⟨b1, 0, none⟩)) ∧ F 1 = (.int .i64 a1) ∧ F 5 = (.int .i64 (w64 ((w64 (((w64 ((w64 (a0.seed * 48271)) + 23)).tmod 2147483647).tdiv 17)) + (IntKind.i64.wrap (x42.toNat : Int))))) ∧ F 62 = (.bool s_j2) ∧ Hp w0 [Ent.blk b1 111 #[v2, (.int .i64 (w64 (a0.at_ + 1))), (.int .i64 ((w64 ((w64 (a0.seed * 48271)) + 23)).tmod 2147483647))], Ent.frz w0 (Ent.blk b1 111 #[v2, .int .i64 a0.at_, .int .i64 a0.seed]).S] w) (fun s_j2 => M.spec_l01Next_j2 a0 a1 x42 s_j2 = some r) ?_ ?_
        · refine CW.regionL ?_
          refine OW.cons (OP.val (v := (.int .i64 a1)) rfl (x_move) ?_)
          refine OW.cons (OP.val (v := (.bool (decide (a1 ≤ 256)))) rfl (x_leq rfl rfl) ?_)
          refine OW.cons (OP.val (v := (.bool (decide (a1 ≤ 256)))) rfl (x_move) ?_)
          refine ifB_elim hm (fun hb67 hm => ?_) (fun hb67 hm => ?_)
          · refine OW.cons (OP.yes' rfl rfl hb67 (OP.val (v := (.pointer (some ⟨b1, 0, none⟩))) rfl (x_move) ?_))
            refine OW.cons (OP.yes' rfl rfl hb67 (OP.val (v := (.pointer (some ⟨b1, 0, none⟩))) rfl (x_nilCheck rfl) ?_))
            refine OW.cons (OP.yes' rfl rfl hb67 (OP.val (v := (.pointer (some ⟨b1, 1, none⟩))) rfl (x_fieldAddr (fsz := 1) 0 1 1 Try.underlying111 rfl Try_T3 rfl rfl rfl) ?_))
            refine OW.cons (OP.yes' rfl rfl hb67 (OP.val (v := (.int .i64 (w64 (a0.at_ + 1)))) rfl (x_load1 Try.underlying3 rfl rfl (hL.cellB 0 rfl rfl)) ?_))
            refine OW.cons (OP.yes' rfl rfl hb67 (OP.val (v := (.int .i64 ((w64 (a0.at_ + 1)).tmod 2))) rfl (x_rem rfl rfl (by decide)) ?_))
            refine OW.cons (OP.yes' rfl rfl hb67 (OP.val (v := (.bool (((w64 (a0.at_ + 1)).tmod 2) == 0))) rfl (x_eql rfl rfl) ?_))
            refine OW.cons (OP.val (v := (.bool (((w64 (a0.at_ + 1)).tmod 2) == 0))) rfl (x_pickT' rfl hb67 rfl) ?_)
            refine OW.nil ?_
            exact ⟨((w64 (a0.at_ + 1)).tmod 2) == 0, hm, ⟨rfl, rfl, rfl, rfl, hL⟩⟩
          · refine OW.cons (OP.no' rfl rfl hb67 rfl ?_)
            refine OW.cons (OP.no' rfl rfl hb67 rfl ?_)
            refine OW.cons (OP.no' rfl rfl hb67 rfl ?_)
            refine OW.cons (OP.no' rfl rfl hb67 rfl ?_)
            refine OW.cons (OP.no' rfl rfl hb67 rfl ?_)
            refine OW.cons (OP.no' rfl rfl hb67 rfl ?_)
            refine OW.cons (OP.val (v := (.bool false)) rfl (x_pickF' rfl hb67 rfl) ?_)
            refine OW.nil ?_
            exact ⟨false, hm, ⟨rfl, rfl, rfl, rfl, hL⟩⟩
        · intro s_j2 F52 wd53 hJ hm
          unfold M.spec_l01Next_j2 at hm
          obtain ⟨f54, f55, f56, f57, hL⟩ := hJ
          refine CW.condM (t := s_j2) f57 hm (fun hb58 hm => ?_) (fun hb58 hm => ?_)
          · refine CW.draw Try_mixed ?_
            have hL := hL.call (Mod.drew _)
            refine DW.pre (fuel := 0) (fin := ((((((((((((((Array.replicate 13 false).setIfInBounds 0 true).setIfInBounds 1 true).setIfInBounds 2 true).setIfInBounds 3 true).setIfInBounds 4 true).setIfInBounds 5 true).setIfInBounds 6 true).setIfInBounds 7 true).setIfInBounds 8 true).setIfInBounds 9 true).setIfInBounds 10 true).setIfInBounds 11 true).setIfInBounds 12 true)) (C := fun w' => Mod None_ _ w') [0, 1, 2, 3, 4, 5, 6, 7, 8, 9, 10, 11, 12] (Mod.refl _ _) (by kernel_rfl) (by kernel_rfl) ?_
            refine QW.cons rfl (QP.val (v := (.pointer (some ⟨b1, 0, none⟩))) rfl (fun w' hm' => x_mv f54) ?_)
            refine QW.cons rfl (QP.val (v := (.pointer (some ⟨b1, 0, none⟩))) rfl (fun w' hm' => x_nilCheck rfl) ?_)
            refine QW.cons rfl (QP.val (v := (.pointer (some ⟨b1, 0, none⟩))) rfl (fun w' hm' => x_fieldAddr (fsz := 1) 0 0 0 Try.underlying111 rfl Try_T59 rfl rfl rfl) ?_)
            refine QW.cons rfl (QP.val (v := v2) rfl (fun w' hm' => x_load1 Try.underlying59 rfl rfl ((hL.call hm').cellB 0 rfl rfl)) ?_)
            refine QW.cons rfl (QP.val (v := (.pointer (some ⟨b1, 0, none⟩))) rfl (fun w' hm' => x_mv f54) ?_)
            refine QW.cons rfl (QP.val (v := (.pointer (some ⟨b1, 0, none⟩))) rfl (fun w' hm' => x_nilCheck rfl) ?_)
            refine QW.cons rfl (QP.val (v := (.pointer (some ⟨b1, 1, none⟩))) rfl (fun w' hm' => x_fieldAddr (fsz := 1) 0 1 1 Try.underlying111 rfl Try_T3 rfl rfl rfl) ?_)
            refine QW.cons rfl (QP.val (v := (.int .i64 (w64 (a0.at_ + 1)))) rfl (fun w' hm' => x_load1 Try.underlying3 rfl rfl ((hL.call hm').cellB 0 rfl rfl)) ?_)
            refine QW.cons rfl (QP.val (v := (.int .i64 (w64 ((w64 (a0.at_ + 1)) - 1)))) rfl (fun w' hm' => x_sub rfl rfl) ?_)
            obtain ⟨x59, ha60, hm⟩ := bndE hm
            obtain ⟨hz61, ha65⟩ := idxE ha60
            obtain ⟨b62, q63, hix64⟩ := rdL_ix (hL.rdZ 1 rfl h3) hz61 ha65
            refine QW.cons rfl (QP.val (v := (.pointer (some ⟨b62, q63, none⟩))) rfl (fun w' hm' => x_ix Try.underlying59 Try_T5 rfl rfl hix64) ?_)
            refine QW.cons rfl (QP.val (v := (.int .u8 (x59.toNat : Int))) rfl (fun w' hm' => x_load1 Try.underlying5 rfl rfl (rdF_cells ((hL.call hm').rdZ 1 rfl h3) hix64 ha65 0 _ rfl)) ?_)
            refine QW.cons rfl (QP.val (v := (.int .i64 (IntKind.i64.wrap (x59.toNat : Int)))) rfl (fun w' hm' => x_conv Try.underlying5 Try.underlying2 rfl) ?_)
            refine QW.cons rfl (QP.val (v := (.int .i64 (IntKind.i64.wrap (x59.toNat : Int)))) rfl (fun w' hm' => x_assign) ?_)
            refine QW.nil ?_
            intro wd66 hmod
            have hL := hL.call hmod
            refine DW.done (by kernel_rfl) ?_
            exact ⟨(w64 (a0.at_ + 1), IntKind.i64.wrap (x59.toNat : Int)), hm, ⟨f55, rfl, hL⟩⟩
          · refine CW.skip ?_
            exact ⟨(w64 (a0.at_ + 1), w64 ((w64 (((w64 ((w64 (a0.seed * 48271)) + 23)).tmod 2147483647).tdiv 17)) + (IntKind.i64.wrap (x42.toNat : Int)))), hm, ⟨f55, f56, hL⟩⟩
      · refine CW.skip ?_
        exact ⟨(a0.at_, w64 (((w64 ((w64 (a0.seed * 48271)) + 23)).tmod 2147483647).tdiv 17)), hm, ⟨rfl, rfl, hL⟩⟩
    · intro s_j1 F35 wd36 hJ hm
      unfold M.spec_l01Next_j1 at hm
      obtain ⟨f37, f38, hL⟩ := hJ
      refine CW.seq ?_
      refine CW.regionL ?_
      refine OW.cons (OP.val (v := (.int .i64 s_j1.2)) rfl (x_mv f38) ?_)
      refine OW.cons (OP.val (v := (.int .i64 a1)) rfl (x_mv f37) ?_)
      obtain ⟨hc39, hm⟩ := chkE hm
      refine OW.cons (OP.val (v := (.int .i64 (s_j1.2.tmod a1))) rfl (x_rem rfl rfl hc39) ?_)
      refine OW.cons (OP.val (v := (.int .i64 (s_j1.2.tmod a1))) rfl (x_assign) ?_)
      refine OW.nil ?_
      refine CW.ret ?_
      obtain rfl := Option.some.inj hm
      exact RR1 rfl rfl ⟨rfl, hL.mutOut 1 rfl [0] (by decide) (by decide) rfl⟩

theorem M.spec_l26DrawBoats_ok (w0 : World) {b1 : Nat} {v2 : Value} (a0 : Src) (h3 : rdL (fun k => k < w0.heap.size ∧ ¬ (Ent.blk b1 111 #[v2, .int .i64 a0.at_, .int .i64 a0.seed]).S k) w0 v2 a0.code) (he4 : (Ent.blk b1 111 #[v2, .int .i64 a0.at_, .int .i64 a0.seed]).H w0) {r : (Int) × (Int × Int)} (hm : M.spec_l26DrawBoats a0 = some r) :
    Calls Try.prog 88 #[(.pointer (some ⟨b1, 0, none⟩))] w0 fun e w' => e = .returned (.int .i64 r.1) ∧ Mut w0 w' (Ent.blk b1 111 #[v2, .int .i64 a0.at_, .int .i64 a0.seed]).S [Ent.blk b1 111 #[v2, .int .i64 r.2.1, .int .i64 r.2.2]] := by
  unfold M.spec_l26DrawBoats at hm
  refine calls_CW (args := [(.pointer (some ⟨b1, 0, none⟩))]) Try.func88 rfl rfl rfl ?_
  have hL := Hp.startIO he4
  refine CW.seq ?_
  refine CW.regionL ?_
  refine OW.cons (OP.val (v := (.int .i64 0)) rfl (x_assign) ?_)
  refine OW.nil ?_
  refine CW.seq ?_
  refine CW.seq ?_
  refine CW.regionL ?_
  refine OW.cons (OP.val (v := (.pointer (some ⟨b1, 0, none⟩))) rfl (x_move) ?_)
  obtain ⟨x5, hx6, hm⟩ := bndE hm
  refine OW.cons (OP.call rfl (x_call (vs := [(.pointer (some ⟨b1, 0, none⟩)), (.int .i64 24)]) Try_C72 ⟨rfl, rfl, trivial⟩) (M.spec_l01Next_ok _ (Src.mk a0.code a0.at_ a0.seed) (hL.exZ 1 0 (by decide) rfl rfl h3) (hL.get 0 rfl) 24 hx6) ?_)
  rintro e7 wd8 ⟨rfl, hF9⟩
  refine ⟨_, rfl, ?_⟩
  have hL := hL.mut 0 rfl hF9
  simp only [List.cons_append, List.nil_append, List.set_cons_zero, List.set_cons_succ] at hL
  refine OW.cons (OP.val (v := (.bool (x5.1 == 0))) rfl (x_eql rfl rfl) ?_)
  refine OW.nil ?_
  refine CW.condM (t := x5.1 == 0) rfl hm (fun hb10 hm => ?_) (fun hb10 hm => ?_)
  · refine CW.seq ?_
    refine CW.regionL ?_
    refine OW.cons (OP.val (v := (.pointer (some ⟨b1, 0, none⟩))) rfl (x_move) ?_)
    obtain ⟨x11, hx12, hm⟩ := bndE hm
    refine OW.cons (OP.call rfl (x_call (vs := [(.pointer (some ⟨b1, 0, none⟩)), (.int .i64 2)]) Try_C72 ⟨rfl, rfl, trivial⟩) (M.spec_l01Next_ok _ (Src.mk a0.code x5.2.1 x5.2.2) (hL.exZ 1 0 (by decide) rfl rfl h3) (hL.get 0 rfl) 2 hx12) ?_)
    rintro e13 wd14 ⟨rfl, hF15⟩
    refine ⟨_, rfl, ?_⟩
    have hL := hL.mut 0 rfl hF15
    simp only [List.cons_append, List.nil_append, List.set_cons_zero, List.set_cons_succ] at hL
    refine OW.cons (OP.val (v := (.int .i64 (w64 (16 * x11.1)))) rfl (x_mul rfl rfl) ?_)
    refine OW.cons (OP.val (v := (.int .i64 (w64 (16 * x11.1)))) rfl (x_assign) ?_)
    refine OW.nil ?_
    refine CW.ret ?_
    obtain rfl := Option.some.inj hm
    exact RR1 rfl rfl ⟨rfl, hL.mutOut 1 rfl [0] (by decide) (by decide) rfl⟩
  · refine CW.skip ?_
    refine CW.seq ?_
    refine CW.regionL ?_
    refine OW.cons (OP.val (v := (.pointer (some ⟨b1, 0, none⟩))) rfl (x_move) ?_)
    obtain ⟨x16, hx17, hm⟩ := bndE hm
    refine OW.cons (OP.call rfl (x_call (vs := [(.pointer (some ⟨b1, 0, none⟩)), (.int .i64 6)]) Try_C72 ⟨rfl, rfl, trivial⟩) (M.spec_l01Next_ok _ (Src.mk a0.code x5.2.1 x5.2.2) (hL.exZ 1 0 (by decide) rfl rfl h3) (hL.get 0 rfl) 6 hx17) ?_)
    rintro e18 wd19 ⟨rfl, hF20⟩
    refine ⟨_, rfl, ?_⟩
    have hL := hL.mut 0 rfl hF20
    simp only [List.cons_append, List.nil_append, List.set_cons_zero, List.set_cons_succ] at hL
    refine OW.cons (OP.val (v := (.int .i64 (w64 (1 + x16.1)))) rfl (x_add rfl rfl) ?_)
    refine OW.cons (OP.val (v := (.int .i64 (w64 (1 + x16.1)))) rfl (x_assign) ?_)
    refine OW.nil ?_
    refine CW.ret ?_
    obtain rfl := Option.some.inj hm
    exact RR1 rfl rfl ⟨rfl, hL.mutOut 1 rfl [0] (by decide) (by decide) rfl⟩

theorem M.spec_l26DrawRace_ok (w0 : World) {b1 : Nat} {v2 : Value} (a0 : Src) (h3 : rdL (fun k => k < w0.heap.size ∧ ¬ (Ent.blk b1 111 #[v2, .int .i64 a0.at_, .int .i64 a0.seed]).S k) w0 v2 a0.code) (he4 : (Ent.blk b1 111 #[v2, .int .i64 a0.at_, .int .i64 a0.seed]).H w0) (a1 : Int) {r : (Race) × (Int × Int)} (hm : M.spec_l26DrawRace a0 a1 = some r) :
    Calls Try.prog 91 #[(.pointer (some ⟨b1, 0, none⟩)), (.int .i64 a1)] w0 fun e w' => ∃ (rv0 : Value) (rS0 : Nat → Prop), e = .returned (.agg #[rv0]) ∧ Mut w0 w' (Ent.blk b1 111 #[v2, .int .i64 a0.at_, .int .i64 a0.seed]).S [Ent.blk b1 111 #[v2, .int .i64 r.2.1, .int .i64 r.2.2], Ent.own 88 rS0 rv0 r.1.Finishes] := by
  unfold M.spec_l26DrawRace at hm
  refine calls_CW (args := [(.pointer (some ⟨b1, 0, none⟩)), (.int .i64 a1)]) Try.func91 rfl rfl rfl ?_
  have hL := Hp.startIO he4
  refine CW.seq ?_
  refine CW.regionL ?_
  refine OW.cons (S_alloc (cs := #[(.slice none 0 0)]) hL Try_T29 rfl rfl ?_)
  intro wd5 b6 hL
  refine OW.nil ?_
  refine CW.seq ?_
  refine CW.regionL ?_
  refine OW.cons (S_lit ([] : List Finish) hL Try.underlying27 Try_T88 rfl (by decide) (by first | (simp [Instr.fill, madeCells, Value.cells, ev, upd, Flat.enc, Flat.sz]; done) | rfl | kernel_rfl) rfl rfl ?_)
  intro wd7 v8 S9 hL
  refine OW.cons (OP.val (v := v8) rfl (x_assign) ?_)
  refine OW.nil ?_
  refine CW.seq ?_
  refine CW.seq ?_
  refine CW.regionL ?_
  refine OW.cons (OP.val (v := (.int .i64 0)) rfl (x_assign) ?_)
  refine OW.nil ?_
  obtain ⟨o112, ho113, hm⟩ := bndE hm
  refine CW.loopB (fun (s_l1 : Int × Int × (List Finish) × Int) (F : Fr) (w : World) => ∃ (v108 : Value) (S109 : Nat → Prop), F 0 = (.pointer (some ⟨b1, 0, none⟩)) ∧ F 1 = (.int .i64 a1) ∧ F 4 = (.pointer (some ⟨b6, 0, none⟩)) ∧ F 5 = v108 ∧ F 6 = (.int .i64 s_l1.2.2.2) ∧ Hp w0 [Ent.own 88 S109 v108 s_l1.2.2.1, Ent.blk b6 29 #[(.slice none 0 0)], Ent.blk b1 111 #[v2, (.int .i64 s_l1.1), (.int .i64 s_l1.2.1)], Ent.frz w0 (Ent.blk b1 111 #[v2, .int .i64 a0.at_, .int .i64 a0.seed]).S] w) (fun o => outc o (fun x => some x) (fun s => M.spec_l26DrawRace_a1 s) = some r) ho113 hm ⟨v8, S9, rfl, rfl, rfl, rfl, rfl, hL⟩ ?_ ?_
  · intro s_l1 F114 wd115 hJ hm
    have hm := outcE hm
    have hm : M.spec_l26DrawRace_a1 s_l1 = some r := hm
    unfold M.spec_l26DrawRace_a1 at hm
    obtain ⟨v108, S109, f116, f117, f118, f119, f120, hL⟩ := hJ
    refine CW.seq ?_
    refine CW.regionL ?_
    refine OW.cons (OP.val (v := v108) rfl (x_mv f119) ?_)
    refine OW.cons (OP.val (v := (.agg #[v108])) rfl (x_build Try_B29 (ps := [(0, v108)]) ⟨⟨rfl, rfl⟩, trivial⟩ (by simp [Instr.fill, cells_int, cells_bool, cells_string, cells_agg, cells_slice, cells_pointer, (rdL_cells (hL.rdO 0 rfl))])) ?_)
    refine OW.cons (S_storeN (l := [v108]) (cs' := #[v108]) hL 1 rfl Try_T29 f118 rfl (List.forall_mem_cons.2 ⟨rdL_one (hL.rdO 0 rfl), (fun _ h => by cases h)⟩) rfl (Nat.le_of_ble_eq_true rfl) rfl ?_)
    intro wd121 hL
    refine OW.nil ?_
    refine CW.ret ?_
    obtain rfl := Option.some.inj hm
    exact RRc rfl f118 (run_loadBlk Try.underlying29 Try_T29 (hL.get 1 rfl) rfl) ⟨v108, S109, rfl, hL.mutOut 3 rfl [2, 0] (by decide) (by decide) rfl⟩
  · intro s_l1 F122 wd123 t110 hJ hm hr111
    unfold M.spec_l26DrawRace_l1 at hm
    obtain ⟨v108, S109, f124, f125, f126, f127, f128, hL⟩ := hJ
    refine CW.seq ?_
    refine CW.seq ?_
    refine CW.regionL ?_
    refine OW.cons (OP.val (v := (.int .i64 s_l1.2.2.2)) rfl (x_mv f128) ?_)
    refine OW.cons (OP.val (v := (.int .i64 a1)) rfl (x_mv f125) ?_)
    refine OW.cons (OP.val (v := (.bool (decide (s_l1.2.2.2 < a1)))) rfl (x_lss rfl rfl) ?_)
    refine OW.nil ?_
    refine CW.condM (t := decide (s_l1.2.2.2 < a1)) rfl hm (fun hb129 hm => ?_) (fun hb129 hm => ?_)
    · refine CW.skip ?_
      refine CW.seq ?_
      refine CW.block ?_
      refine CW.seq ?_
      refine CW.regionL ?_
      refine OW.cons (OP.val (v := (.int .i64 s_l1.2.2.2)) rfl (x_mv f128) ?_)
      refine OW.cons (OP.val (v := (.pointer (some ⟨b1, 0, none⟩))) rfl (x_mv f124) ?_)
      refine OW.cons (OP.val (v := (.int .i64 a1)) rfl (x_mv f125) ?_)
      refine OW.cons (OP.val (v := (.int .i64 (w64 (2 * a1)))) rfl (x_mul rfl rfl) ?_)
      obtain ⟨x130, hx131, hm⟩ := bndE hm
      refine OW.cons (OP.call rfl (x_call (vs := [(.pointer (some ⟨b1, 0, none⟩)), (.int .i64 (w64 (2 * a1)))]) Try_C72 ⟨rfl, rfl, trivial⟩) (M.spec_l01Next_ok _ (Src.mk a0.code s_l1.1 s_l1.2.1) (hL.exZ 3 2 (by decide) rfl rfl h3) (hL.get 2 rfl) (w64 (2 * a1)) hx131) ?_)
      rintro e132 wd133 ⟨rfl, hF134⟩
      refine ⟨_, rfl, ?_⟩
      have hL := hL.mut 2 rfl hF134
      simp only [List.cons_append, List.nil_append, List.set_cons_zero, List.set_cons_succ] at hL
      refine OW.cons (OP.val (v := (.int .i64 (w64 (1 + x130.1)))) rfl (x_add rfl rfl) ?_)
      refine OW.cons (OP.val (v := (.agg #[(.int .i64 s_l1.2.2.2), (.int .i64 0), (.int .i64 (w64 (1 + x130.1)))])) rfl (x_build Try_B88 (ps := [(0, (.int .i64 s_l1.2.2.2)), (2, (.int .i64 (w64 (1 + x130.1))))]) ⟨⟨rfl, rfl⟩, ⟨rfl, rfl⟩, trivial⟩ (by simp [Instr.fill, cells_int, cells_bool, cells_string, cells_agg, cells_slice, cells_pointer])) ?_)
      refine OW.cons (S_alloc (cs := #[(.int .i64 0), (.int .i64 0), (.int .i64 0)]) hL Try_T88 rfl rfl ?_)
      intro wd135 b136 hL
      refine OW.cons (S_storeN (l := [(.int .i64 s_l1.2.2.2), (.int .i64 0), (.int .i64 (w64 (1 + x130.1)))]) (cs' := #[(.int .i64 s_l1.2.2.2), (.int .i64 0), (.int .i64 (w64 (1 + x130.1)))]) hL 0 rfl Try_T88 rfl rfl (List.forall_mem_cons.2 ⟨rfl, (List.forall_mem_cons.2 ⟨rfl, (List.forall_mem_cons.2 ⟨rfl, (fun _ h => by cases h)⟩)⟩)⟩) rfl (Nat.le_of_ble_eq_true rfl) rfl ?_)
      intro wd137 hL
      refine OW.nil ?_
      refine CW.seqJ (fun (s_j1 : Int × Int × Int × Int) (F : Fr) (w : World) => F 0 = (.pointer (some ⟨b1, 0, none⟩)) ∧ F 1 = (.int .i64 a1) ∧ F 4 = (.pointer (some ⟨b6, 0, none⟩)) ∧ F 5 = v108 ∧ F 6 = (.int .i64 s_l1.2.2.2) ∧ F 7 = (.pointer (some ⟨b136, 0, none⟩)) ∧ Hp w0 [Ent.blk b136 88 #[(.int .i64 s_l1.2.2.2), (.int .i64 s_j1.2.2.1), (.int .i64 s_j1.2.2.2)], Ent.own 88 S109 v108 s_l1.2.2.1, Ent.blk b6 29 #[(.slice none 0 0)], Ent.blk b1 111 #[v2, (.int .i64 s_j1.1), (.int .i64 s_j1.2.1)], Ent.frz w0 (Ent.blk b1 111 #[v2, .int .i64 a0.at_, .int .i64 a0.seed]).S] w) (fun s_j1 => M.spec_l26DrawRace_j1 s_l1 s_j1 = some t110) ?_ ?_
      · refine CW.seq ?_
        refine CW.regionL ?_
        refine OW.cons (OP.val (v := (.pointer (some ⟨b1, 0, none⟩))) rfl (x_mv f124) ?_)
        obtain ⟨x165, hx166, hm⟩ := bndE hm
        refine OW.cons (OP.call rfl (x_call (vs := [(.pointer (some ⟨b1, 0, none⟩)), (.int .i64 4)]) Try_C72 ⟨rfl, rfl, trivial⟩) (M.spec_l01Next_ok _ (Src.mk a0.code x130.2.1 x130.2.2) (hL.exZ 4 3 (by decide) rfl rfl h3) (hL.get 3 rfl) 4 hx166) ?_)
        rintro e167 wd168 ⟨rfl, hF169⟩
        refine ⟨_, rfl, ?_⟩
        have hL := hL.mut 3 rfl hF169
        simp only [List.cons_append, List.nil_append, List.set_cons_zero, List.set_cons_succ] at hL
        refine OW.cons (OP.val (v := (.bool (x165.1 == 0))) rfl (x_eql rfl rfl) ?_)
        refine OW.nil ?_
        refine CW.condM (t := x165.1 == 0) rfl hm (fun hb170 hm => ?_) (fun hb170 hm => ?_)
        · refine CW.regionL ?_
          refine OW.cons (OP.val (v := (.int .i64 s_l1.2.2.2)) rfl (x_mv f128) ?_)
          refine OW.cons (OP.val (v := (.pointer (some ⟨b1, 0, none⟩))) rfl (x_mv f124) ?_)
          obtain ⟨x171, hx172, hm⟩ := bndE hm
          refine OW.cons (OP.call rfl (x_call (vs := [(.pointer (some ⟨b1, 0, none⟩)), (.int .i64 9)]) Try_C72 ⟨rfl, rfl, trivial⟩) (M.spec_l01Next_ok _ (Src.mk a0.code x165.2.1 x165.2.2) (hL.exZ 4 3 (by decide) rfl rfl h3) (hL.get 3 rfl) 9 hx172) ?_)
          rintro e173 wd174 ⟨rfl, hF175⟩
          refine ⟨_, rfl, ?_⟩
          have hL := hL.mut 3 rfl hF175
          simp only [List.cons_append, List.nil_append, List.set_cons_zero, List.set_cons_succ] at hL
          refine OW.cons (OP.val (v := (.int .i64 (w64 (1 + x171.1)))) rfl (x_add rfl rfl) ?_)
          refine OW.cons (OP.val (v := (.agg #[(.int .i64 s_l1.2.2.2), (.int .i64 (w64 (1 + x171.1))), (.int .i64 0)])) rfl (x_build Try_B88 (ps := [(0, (.int .i64 s_l1.2.2.2)), (1, (.int .i64 (w64 (1 + x171.1))))]) ⟨⟨rfl, rfl⟩, ⟨rfl, rfl⟩, trivial⟩ (by simp [Instr.fill, cells_int, cells_bool, cells_string, cells_agg, cells_slice, cells_pointer])) ?_)
          refine OW.cons (S_storeN (l := [(.int .i64 s_l1.2.2.2), (.int .i64 (w64 (1 + x171.1))), (.int .i64 0)]) (cs' := #[(.int .i64 s_l1.2.2.2), (.int .i64 (w64 (1 + x171.1))), (.int .i64 0)]) hL 0 rfl Try_T88 rfl rfl (List.forall_mem_cons.2 ⟨rfl, (List.forall_mem_cons.2 ⟨rfl, (List.forall_mem_cons.2 ⟨rfl, (fun _ h => by cases h)⟩)⟩)⟩) rfl (Nat.le_of_ble_eq_true rfl) rfl ?_)
          intro wd176 hL
          refine OW.nil ?_
          exact ⟨(x171.2.1, x171.2.2, w64 (1 + x171.1), 0), hm, ⟨f124, f125, f126, f127, f128, rfl, hL⟩⟩
        · refine CW.skip ?_
          exact ⟨(x165.2.1, x165.2.2, 0, w64 (1 + x130.1)), hm, ⟨f124, f125, f126, f127, f128, rfl, hL⟩⟩
      · intro s_j1 F150 wd151 hJ hm
        unfold M.spec_l26DrawRace_j1 at hm
        obtain ⟨f152, f153, f154, f155, f156, f157, hL⟩ := hJ
        refine CW.regionL ?_
        refine OW.cons (OP.val (v := v108) rfl (x_mv f155) ?_)
        refine OW.cons (OP.val (v := (.agg #[(.int .i64 s_l1.2.2.2), (.int .i64 s_j1.2.2.1), (.int .i64 s_j1.2.2.2)])) rfl (x_loadN (cs := [(.int .i64 s_l1.2.2.2), (.int .i64 s_j1.2.2.1), (.int .i64 s_j1.2.2.2)]) Try.underlying88 Try_T88 rfl f157 (hL.cellsB 0 rfl (o := 0) (l := [(.int .i64 s_l1.2.2.2), (.int .i64 s_j1.2.2.1), (.int .i64 s_j1.2.2.2)]) (by intro j u hj; exact (by simpa using hj)))) ?_)
        refine OW.cons (S_lit ([(Finish.mk s_l1.2.2.2 s_j1.2.2.1 s_j1.2.2.2)] : List Finish) hL Try.underlying27 Try_T88 rfl (by decide) (by first | (simp [Instr.fill, madeCells, Value.cells, ev, upd, Flat.enc, Flat.sz]; done) | rfl | kernel_rfl) rfl rfl ?_)
        intro wd158 v159 S160 hL
        obtain ⟨hc164, hm⟩ := chkE hm
        refine OW.cons (S_append (ys := ([(Finish.mk s_l1.2.2.2 s_j1.2.2.1 s_j1.2.2.2)] : List Finish)) hL 2 rfl Try.underlying27 Try_T88 rfl rfl rfl (hL.rdO 0 rfl) hc164 (by decide) rfl ?_)
        intro wd161 v162 S163 hL
        refine OW.cons (OP.val (v := v162) rfl (x_assign) ?_)
        refine OW.nil ?_
        refine CW.regionL ?_
        refine OW.cons (OP.val (v := (.int .i64 s_l1.2.2.2)) rfl (x_mv f156) ?_)
        refine OW.cons (OP.val (v := (.int .i64 (w64 (s_l1.2.2.2 + 1)))) rfl (x_add rfl rfl) ?_)
        refine OW.cons (OP.val (v := (.int .i64 (w64 (s_l1.2.2.2 + 1)))) rfl (x_assign) ?_)
        refine OW.nil ?_
        have hL := hL.sel [2, 3, 4, 5] (by decide) rfl
        obtain rfl := Option.some.inj hm
        exact ⟨_, rfl, ⟨v162, S163, f152, f153, f154, rfl, rfl, hL⟩⟩
    · refine CW.exit ?_
      refine XJ.hit ?_
      obtain rfl := Option.some.inj hm
      exact ⟨_, rfl, ⟨v108, S109, f124, f125, f126, f127, f128, hL⟩⟩

theorem M.spec_l26DrawAny_ok (w0 : World) {b1 : Nat} {v2 : Value} (a0 : Src) (h3 : rdL (fun k => k < w0.heap.size ∧ ¬ (Ent.blk b1 111 #[v2, .int .i64 a0.at_, .int .i64 a0.seed]).S k) w0 v2 a0.code) (he4 : (Ent.blk b1 111 #[v2, .int .i64 a0.at_, .int .i64 a0.seed]).H w0) (a1 : Int) {r : (Race) × (Int × Int)} (hm : M.spec_l26DrawAny a0 a1 = some r) :
    Calls Try.prog 89 #[(.pointer (some ⟨b1, 0, none⟩)), (.int .i64 a1)] w0 fun e w' => ∃ (rv0 : Value) (rS0 : Nat → Prop), e = .returned (.agg #[rv0]) ∧ Mut w0 w' (Ent.blk b1 111 #[v2, .int .i64 a0.at_, .int .i64 a0.seed]).S [Ent.blk b1 111 #[v2, .int .i64 r.2.1, .int .i64 r.2.2], Ent.own 88 rS0 rv0 r.1.Finishes] := by
  unfold M.spec_l26DrawAny at hm
  refine calls_CW (args := [(.pointer (some ⟨b1, 0, none⟩)), (.int .i64 a1)]) Try.func89 rfl rfl rfl ?_
  have hL := Hp.startIO he4
  refine CW.seq ?_
  refine CW.regionL ?_
  refine OW.cons (S_alloc (cs := #[(.slice none 0 0)]) hL Try_T29 rfl rfl ?_)
  intro wd5 b6 hL
  refine OW.nil ?_
  refine CW.seq ?_
  refine CW.regionL ?_
  refine OW.cons (OP.val (v := (.pointer (some ⟨b1, 0, none⟩))) rfl (x_move) ?_)
  refine OW.cons (OP.val (v := (.int .i64 a1)) rfl (x_move) ?_)
  obtain ⟨x7, hx8, hm⟩ := bndE hm
  refine OW.cons (OP.call rfl (x_call (vs := [(.pointer (some ⟨b1, 0, none⟩)), (.int .i64 a1)]) Try_C91 ⟨rfl, rfl, trivial⟩) (M.spec_l26DrawRace_ok _ (Src.mk a0.code a0.at_ a0.seed) (hL.exZ 2 1 (by decide) rfl rfl h3) (hL.get 1 rfl) a1 hx8) ?_)
  rintro e11 wd12 ⟨v10, S9, rfl, hF13⟩
  refine ⟨_, rfl, ?_⟩
  have hL := hL.mut 1 rfl hF13
  simp only [List.cons_append, List.nil_append, List.set_cons_zero, List.set_cons_succ] at hL
  refine OW.cons (S_alloc (cs := #[(.slice none 0 0)]) hL Try_T29 rfl rfl ?_)
  intro wd14 b15 hL
  refine OW.cons (S_storeN (l := [v10]) (cs' := #[v10]) hL 0 rfl Try_T29 rfl rfl (List.forall_mem_cons.2 ⟨rdL_one (hL.rdO 1 rfl), (fun _ h => by cases h)⟩) rfl (Nat.le_of_ble_eq_true rfl) rfl ?_)
  intro wd16 hL
  refine OW.nil ?_
  refine CW.seq ?_
  refine CW.seq ?_
  refine CW.regionL ?_
  refine OW.cons (OP.val (v := (.int .i64 a1)) rfl (x_move) ?_)
  refine OW.cons (OP.val (v := (.bool (decide (a1 < 1)))) rfl (x_lss rfl rfl) ?_)
  refine OW.nil ?_
  refine CW.condM (t := decide (a1 < 1)) rfl hm (fun hb17 hm => ?_) (fun hb17 hm => ?_)
  · refine CW.seq ?_
    refine CW.regionL ?_
    refine OW.cons (OP.val (v := (.agg #[v10])) rfl (x_loadN (cs := [v10]) Try.underlying29 Try_T29 rfl rfl (hL.cellsB 0 rfl (o := 0) (l := [v10]) (by intro j u hj; exact (by simpa using hj)))) ?_)
    refine OW.cons (S_storeN (l := [v10]) (cs' := #[v10]) hL 2 rfl Try_T29 rfl rfl (List.forall_mem_cons.2 ⟨rdL_one (hL.rdO 1 rfl), (fun _ h => by cases h)⟩) rfl (Nat.le_of_ble_eq_true rfl) rfl ?_)
    intro wd18 hL
    refine OW.nil ?_
    refine CW.ret ?_
    obtain rfl := Option.some.inj hm
    exact RRc rfl rfl (run_loadBlk Try.underlying29 Try_T29 (hL.get 2 rfl) rfl) ⟨v10, S9, rfl, hL.mutOut 4 rfl [3, 1] (by decide) (by decide) rfl⟩
  · refine CW.skip ?_
    refine CW.seq ?_
    refine CW.regionL ?_
    refine OW.cons (OP.val (v := (.pointer (some ⟨b1, 0, none⟩))) rfl (x_move) ?_)
    refine OW.cons (OP.val (v := (.int .i64 a1)) rfl (x_move) ?_)
    obtain ⟨x19, hx20, hm⟩ := bndE hm
    refine OW.cons (OP.call rfl (x_call (vs := [(.pointer (some ⟨b1, 0, none⟩)), (.int .i64 a1)]) Try_C72 ⟨rfl, rfl, trivial⟩) (M.spec_l01Next_ok _ (Src.mk a0.code x7.2.1 x7.2.2) (hL.exZ 4 3 (by decide) rfl rfl h3) (hL.get 3 rfl) a1 hx20) ?_)
    rintro e21 wd22 ⟨rfl, hF23⟩
    refine ⟨_, rfl, ?_⟩
    have hL := hL.mut 3 rfl hF23
    simp only [List.cons_append, List.nil_append, List.set_cons_zero, List.set_cons_succ] at hL
    refine OW.cons (OP.val (v := (.int .i64 x19.1)) rfl (x_assign) ?_)
    refine OW.nil ?_
    refine CW.seqJ (fun (s_j1 : Int × Int × (List Finish)) (F : Fr) (w : World) => ∃ (S178 : Nat → Prop), F 4 = (.pointer (some ⟨b6, 0, none⟩)) ∧ F 5 = (.pointer (some ⟨b15, 0, none⟩)) ∧ Hp w0 [Ent.blk b15 29 #[v10], Ent.own 88 S178 v10 s_j1.2.2, Ent.blk b6 29 #[(.slice none 0 0)], Ent.blk b1 111 #[v2, (.int .i64 s_j1.1), (.int .i64 s_j1.2.1)], Ent.frz w0 (Ent.blk b1 111 #[v2, .int .i64 a0.at_, .int .i64 a0.seed]).S] w) (fun s_j1 => M.spec_l26DrawAny_j1 s_j1 = some r) ?_ ?_
    · refine CW.seq ?_
      refine CW.regionL ?_
      refine OW.cons (OP.val (v := (.pointer (some ⟨b1, 0, none⟩))) rfl (x_move) ?_)
      obtain ⟨x184, hx185, hm⟩ := bndE hm
      refine OW.cons (OP.call rfl (x_call (vs := [(.pointer (some ⟨b1, 0, none⟩)), (.int .i64 24)]) Try_C72 ⟨rfl, rfl, trivial⟩) (M.spec_l01Next_ok _ (Src.mk a0.code x19.2.1 x19.2.2) (hL.exZ 4 3 (by decide) rfl rfl h3) (hL.get 3 rfl) 24 hx185) ?_)
      rintro e186 wd187 ⟨rfl, hF188⟩
      refine ⟨_, rfl, ?_⟩
      have hL := hL.mut 3 rfl hF188
      simp only [List.cons_append, List.nil_append, List.set_cons_zero, List.set_cons_succ] at hL
      refine OW.nil ?_
      refine CW.blockJ (fun (s_j2 : Int × Int × (List Finish)) (F : Fr) (w : World) => ∃ (S261 : Nat → Prop), F 4 = (.pointer (some ⟨b6, 0, none⟩)) ∧ F 5 = (.pointer (some ⟨b15, 0, none⟩)) ∧ Hp w0 [Ent.blk b15 29 #[v10], Ent.own 88 S261 v10 s_j2.2.2, Ent.blk b6 29 #[(.slice none 0 0)], Ent.blk b1 111 #[v2, (.int .i64 s_j2.1), (.int .i64 s_j2.2.1)], Ent.frz w0 (Ent.blk b1 111 #[v2, .int .i64 a0.at_, .int .i64 a0.seed]).S] w) (fun s_j2 => M.spec_l26DrawAny_j2 s_j2 = some r) ?_ ?_
      · refine CW.seq ?_
        refine CW.regionL ?_
        refine OW.cons (OP.val (v := (.bool (x184.1 == 0))) rfl (x_eql rfl rfl) ?_)
        refine OW.cons (OP.val (v := (.bool (x184.1 == 0))) rfl (x_assign) ?_)
        refine OW.nil ?_
        refine CW.condM (t := x184.1 == 0) rfl hm (fun hb266 hm => ?_) (fun hb266 hm => ?_)
        · refine CW.regionL ?_
          refine OW.cons (OP.val (v := (.pointer (some ⟨b15, 0, none⟩))) rfl (x_fieldAddr (fsz := 1) 0 0 0 Try.underlying29 rfl Try_T27 rfl rfl rfl) ?_)
          refine OW.cons (OP.val (v := v10) rfl (x_load1 Try.underlying27 rfl rfl (hL.cellB 0 rfl rfl)) ?_)
          refine OW.cons (OP.val (v := (.int .i64 x19.1)) rfl (x_move) ?_)
          obtain ⟨x267, ha268, hm⟩ := bndE hm
          obtain ⟨hz269, ha273⟩ := idxE ha268
          obtain ⟨b270, q271, hix272⟩ := rdL_ix (hL.rdO 1 rfl) hz269 ha273
          refine OW.cons (OP.val (v := (.pointer (some ⟨b270, q271, none⟩))) rfl (x_ix Try.underlying27 Try_T88 rfl rfl hix272) ?_)
          refine OW.cons (OP.val (v := (.pointer (some ⟨b270, q271 + 2, none⟩))) rfl (x_fieldAddr (fsz := 1) q271 2 (q271 + 2) Try.underlying88 rfl Try_T2 rfl rfl rfl) ?_)
          refine OW.cons (S_storeX (j := 2) (Finish.mk x267.Boat x267.Code 0) hL 1 rfl Try_T2 hix272 ha273 rfl rfl rfl rfl rfl rfl ?_)
          intro wd274 hL
          refine OW.nil ?_
          exact ⟨(x184.2.1, x184.2.2, x7.1.Finishes.set (x19.1 : Int).toNat (Finish.mk x267.Boat x267.Code 0)), hm, ⟨S9, rfl, rfl, hL⟩⟩
        · refine CW.seq ?_
          refine CW.regionL ?_
          refine OW.cons (OP.val (v := (.bool (x184.1 == 1))) rfl (x_eql rfl rfl) ?_)
          refine OW.cons (OP.val (v := (.bool (x184.1 == 1))) rfl (x_assign) ?_)
          refine OW.nil ?_
          refine CW.condM (t := x184.1 == 1) rfl hm (fun hb275 hm => ?_) (fun hb275 hm => ?_)
          · refine CW.drawH (fun w' => Hp w0 [Ent.blk b15 29 #[v10], Ent.blk b6 29 #[(.slice none 0 0)], Ent.frz w0 (Ent.blk b1 111 #[v2, .int .i64 a0.at_, .int .i64 a0.seed]).S] w') Try_mixed ?_
            have hL := hL.call (Mod.drew _)
            have hS := (hL.sel [0, 2, 4] (by decide) rfl)
            refine DH.take 0 rfl (by kernel_rfl) (by kernel_rfl) (by kernel_rfl) rfl rfl hS (YH.val (v := (.pointer (some ⟨b15, 0, none⟩))) (fun w' hS' => x_fieldAddr (fsz := 1) 0 0 0 Try.underlying29 rfl Try_T27 rfl rfl rfl)) ?_
            have hS := (hL.sel [0, 2, 4] (by decide) rfl)
            refine DH.take 1 rfl (by kernel_rfl) (by kernel_rfl) (by kernel_rfl) rfl rfl hS (YH.val (v := v10) (fun w' hS' => x_load1 Try.underlying27 rfl rfl (hS'.cellB 0 rfl rfl))) ?_
            have hS := (hL.sel [0, 2, 4] (by decide) rfl)
            refine DH.take 2 rfl (by kernel_rfl) (by kernel_rfl) (by kernel_rfl) rfl rfl hS (YH.val (v := (.int .i64 x19.1)) (fun w' hS' => x_move)) ?_
            have hS := (hL.sel [0, 2, 4] (by decide) rfl)
            refine DH.take 3 rfl (by kernel_rfl) (by kernel_rfl) (by kernel_rfl) rfl rfl hS (YH.val (v := (.pointer (some ⟨b1, 0, none⟩))) (fun w' hS' => x_move)) ?_
            obtain ⟨x289, hx290, hm⟩ := bndE hm
            refine DH.only 4 rfl (by kernel_rfl) (OP.call rfl (x_call (vs := [(.pointer (some ⟨b1, 0, none⟩)), (.int .i64 2)]) Try_C72 ⟨rfl, rfl, trivial⟩) (M.spec_l01Next_ok _ (Src.mk a0.code x184.2.1 x184.2.2) (hL.exZ 4 3 (by decide) rfl rfl h3) (hL.get 3 rfl) 2 hx290) ?_)
            rintro e291 wd292 ⟨rfl, hF293⟩
            refine ⟨_, rfl, ?_⟩
            have hL := hL.mut 3 rfl hF293
            simp only [List.cons_append, List.nil_append, List.set_cons_zero, List.set_cons_succ] at hL
            refine ⟨(hL.sel [0, 2, 4] (by decide) rfl), ?_⟩
            have hS := (hL.sel [0, 2, 4] (by decide) rfl)
            refine DH.take 5 rfl (by kernel_rfl) (by kernel_rfl) (by kernel_rfl) rfl rfl hS (YH.val (v := (.int .i64 (w64 (10 * x289.1)))) (fun w' hS' => x_mul rfl rfl)) ?_
            have hS := (hL.sel [0, 2, 4] (by decide) rfl)
            obtain ⟨x294, ha295, hm⟩ := bndE hm
            obtain ⟨hz296, ha300⟩ := idxE ha295
            obtain ⟨b297, q298, hix299⟩ := rdL_ix (hL.rdO 1 rfl) hz296 ha300
            refine DH.take 6 rfl (by kernel_rfl) (by kernel_rfl) (by kernel_rfl) rfl rfl hS (YH.val (v := (.pointer (some ⟨b297, q298, none⟩))) (fun w' hS' => x_ix Try.underlying27 Try_T88 rfl rfl hix299)) ?_
            have hS := (hL.sel [0, 2, 4] (by decide) rfl)
            refine DH.take 7 rfl (by kernel_rfl) (by kernel_rfl) (by kernel_rfl) rfl rfl hS (YH.val (v := (.pointer (some ⟨b297, q298 + 1, none⟩))) (fun w' hS' => x_fieldAddr (fsz := 1) q298 1 (q298 + 1) Try.underlying88 rfl Try_T2 rfl rfl rfl)) ?_
            refine DH.only 8 rfl (by kernel_rfl) (S_storeX (j := 1) (Finish.mk x294.Boat (w64 (10 * x289.1)) x294.Time) hL 1 rfl Try_T2 hix299 ha300 rfl rfl rfl rfl rfl rfl ?_)
            intro wd301 hL
            refine ⟨(hL.sel [0, 2, 4] (by decide) rfl), ?_⟩
            refine DH.done (by kernel_rfl) ?_
            exact ⟨(x289.2.1, x289.2.2, x7.1.Finishes.set (x19.1 : Int).toNat (Finish.mk x294.Boat (w64 (10 * x289.1)) x294.Time)), hm, ⟨S9, rfl, rfl, hL⟩⟩
          · refine CW.seq ?_
            refine CW.regionL ?_
            refine OW.cons (OP.val (v := (.bool (x184.1 == 2))) rfl (x_eql rfl rfl) ?_)
            refine OW.cons (OP.val (v := (.bool (x184.1 == 2))) rfl (x_assign) ?_)
            refine OW.nil ?_
            refine CW.condM (t := x184.1 == 2) rfl hm (fun hb302 hm => ?_) (fun hb302 hm => ?_)
            · refine CW.regionL ?_
              refine OW.cons (OP.val (v := (.pointer (some ⟨b15, 0, none⟩))) rfl (x_fieldAddr (fsz := 1) 0 0 0 Try.underlying29 rfl Try_T27 rfl rfl rfl) ?_)
              refine OW.cons (OP.val (v := v10) rfl (x_load1 Try.underlying27 rfl rfl (hL.cellB 0 rfl rfl)) ?_)
              refine OW.cons (OP.val (v := (.int .i64 x19.1)) rfl (x_move) ?_)
              refine OW.cons (OP.val (v := (.int .i64 a1)) rfl (x_move) ?_)
              obtain ⟨x303, ha304, hm⟩ := bndE hm
              obtain ⟨hz305, ha309⟩ := idxE ha304
              obtain ⟨b306, q307, hix308⟩ := rdL_ix (hL.rdO 1 rfl) hz305 ha309
              refine OW.cons (OP.val (v := (.pointer (some ⟨b306, q307, none⟩))) rfl (x_ix Try.underlying27 Try_T88 rfl rfl hix308) ?_)
              refine OW.cons (OP.val (v := (.pointer (some ⟨b306, q307, none⟩))) rfl (x_fieldAddr (fsz := 1) q307 0 q307 Try.underlying88 rfl Try_T2 rfl rfl rfl) ?_)
              refine OW.cons (S_storeX (j := 0) (Finish.mk a1 x303.Code x303.Time) hL 1 rfl Try_T2 hix308 ha309 rfl rfl rfl rfl rfl rfl ?_)
              intro wd310 hL
              refine OW.nil ?_
              exact ⟨(x184.2.1, x184.2.2, x7.1.Finishes.set (x19.1 : Int).toNat (Finish.mk a1 x303.Code x303.Time)), hm, ⟨S9, rfl, rfl, hL⟩⟩
            · refine CW.seq ?_
              refine CW.regionL ?_
              refine OW.cons (OP.val (v := (.bool (x184.1 == 3))) rfl (x_eql rfl rfl) ?_)
              refine OW.cons (OP.val (v := (.bool (x184.1 == 3))) rfl (x_assign) ?_)
              refine OW.nil ?_
              refine CW.condM (t := x184.1 == 3) rfl hm (fun hb311 hm => ?_) (fun hb311 hm => ?_)
              · refine CW.drawH (fun w' => Hp w0 [Ent.blk b15 29 #[v10], Ent.blk b6 29 #[(.slice none 0 0)], Ent.frz w0 (Ent.blk b1 111 #[v2, .int .i64 a0.at_, .int .i64 a0.seed]).S] w') Try_mixed ?_
                have hL := hL.call (Mod.drew _)
                have hS := (hL.sel [0, 2, 4] (by decide) rfl)
                refine DH.take 0 rfl (by kernel_rfl) (by kernel_rfl) (by kernel_rfl) rfl rfl hS (YH.val (v := (.pointer (some ⟨b15, 0, none⟩))) (fun w' hS' => x_fieldAddr (fsz := 1) 0 0 0 Try.underlying29 rfl Try_T27 rfl rfl rfl)) ?_
                have hS := (hL.sel [0, 2, 4] (by decide) rfl)
                refine DH.take 1 rfl (by kernel_rfl) (by kernel_rfl) (by kernel_rfl) rfl rfl hS (YH.val (v := v10) (fun w' hS' => x_load1 Try.underlying27 rfl rfl (hS'.cellB 0 rfl rfl))) ?_
                have hS := (hL.sel [0, 2, 4] (by decide) rfl)
                refine DH.take 2 rfl (by kernel_rfl) (by kernel_rfl) (by kernel_rfl) rfl rfl hS (YH.val (v := (.int .i64 x19.1)) (fun w' hS' => x_move)) ?_
                have hS := (hL.sel [0, 2, 4] (by decide) rfl)
                refine DH.take 3 rfl (by kernel_rfl) (by kernel_rfl) (by kernel_rfl) rfl rfl hS (YH.val (v := (.pointer (some ⟨b1, 0, none⟩))) (fun w' hS' => x_move)) ?_
                obtain ⟨x325, hx326, hm⟩ := bndE hm
                refine DH.only 4 rfl (by kernel_rfl) (OP.call rfl (x_call (vs := [(.pointer (some ⟨b1, 0, none⟩)), (.int .i64 2)]) Try_C72 ⟨rfl, rfl, trivial⟩) (M.spec_l01Next_ok _ (Src.mk a0.code x184.2.1 x184.2.2) (hL.exZ 4 3 (by decide) rfl rfl h3) (hL.get 3 rfl) 2 hx326) ?_)
                rintro e327 wd328 ⟨rfl, hF329⟩
                refine ⟨_, rfl, ?_⟩
                have hL := hL.mut 3 rfl hF329
                simp only [List.cons_append, List.nil_append, List.set_cons_zero, List.set_cons_succ] at hL
                refine ⟨(hL.sel [0, 2, 4] (by decide) rfl), ?_⟩
                have hS := (hL.sel [0, 2, 4] (by decide) rfl)
                refine DH.take 5 rfl (by kernel_rfl) (by kernel_rfl) (by kernel_rfl) rfl rfl hS (YH.val (v := (.int .i64 (w64 (1000000000 + x325.1)))) (fun w' hS' => x_add rfl rfl)) ?_
                have hS := (hL.sel [0, 2, 4] (by decide) rfl)
                obtain ⟨x330, ha331, hm⟩ := bndE hm
                obtain ⟨hz332, ha336⟩ := idxE ha331
                obtain ⟨b333, q334, hix335⟩ := rdL_ix (hL.rdO 1 rfl) hz332 ha336
                refine DH.take 6 rfl (by kernel_rfl) (by kernel_rfl) (by kernel_rfl) rfl rfl hS (YH.val (v := (.pointer (some ⟨b333, q334, none⟩))) (fun w' hS' => x_ix Try.underlying27 Try_T88 rfl rfl hix335)) ?_
                have hS := (hL.sel [0, 2, 4] (by decide) rfl)
                refine DH.take 7 rfl (by kernel_rfl) (by kernel_rfl) (by kernel_rfl) rfl rfl hS (YH.val (v := (.pointer (some ⟨b333, q334 + 2, none⟩))) (fun w' hS' => x_fieldAddr (fsz := 1) q334 2 (q334 + 2) Try.underlying88 rfl Try_T2 rfl rfl rfl)) ?_
                refine DH.only 8 rfl (by kernel_rfl) (S_storeX (j := 2) (Finish.mk x330.Boat x330.Code (w64 (1000000000 + x325.1))) hL 1 rfl Try_T2 hix335 ha336 rfl rfl rfl rfl rfl rfl ?_)
                intro wd337 hL
                refine ⟨(hL.sel [0, 2, 4] (by decide) rfl), ?_⟩
                refine DH.done (by kernel_rfl) ?_
                exact ⟨(x325.2.1, x325.2.2, x7.1.Finishes.set (x19.1 : Int).toNat (Finish.mk x330.Boat x330.Code (w64 (1000000000 + x325.1)))), hm, ⟨S9, rfl, rfl, hL⟩⟩
              · refine CW.skip ?_
                exact ⟨(x184.2.1, x184.2.2, x7.1.Finishes), hm, ⟨S9, rfl, rfl, hL⟩⟩
      · intro s_j2 F262 wd263 hJ hm
        unfold M.spec_l26DrawAny_j2 at hm
        obtain ⟨S261, f264, f265, hL⟩ := hJ
        exact ⟨(s_j2.1, s_j2.2.1, s_j2.2.2), hm, ⟨S261, f264, f265, hL⟩⟩
    · intro s_j1 F179 wd180 hJ hm
      unfold M.spec_l26DrawAny_j1 at hm
      obtain ⟨S178, f181, f182, hL⟩ := hJ
      refine CW.seq ?_
      refine CW.regionL ?_
      refine OW.cons (OP.val (v := (.agg #[v10])) rfl (x_loadN (cs := [v10]) Try.underlying29 Try_T29 rfl f182 (hL.cellsB 0 rfl (o := 0) (l := [v10]) (by intro j u hj; exact (by simpa using hj)))) ?_)
      refine OW.cons (S_storeN (l := [v10]) (cs' := #[v10]) hL 2 rfl Try_T29 f181 rfl (List.forall_mem_cons.2 ⟨rdL_one (hL.rdO 1 rfl), (fun _ h => by cases h)⟩) rfl (Nat.le_of_ble_eq_true rfl) rfl ?_)
      intro wd183 hL
      refine OW.nil ?_
      refine CW.ret ?_
      obtain rfl := Option.some.inj hm
      exact RRc rfl f181 (run_loadBlk Try.underlying29 Try_T29 (hL.get 2 rfl) rfl) ⟨v10, S178, rfl, hL.mutOut 4 rfl [3, 1] (by decide) (by decide) rfl⟩

theorem M.spec_DrawIsRace_ok (w0 : World) (a0 : List UInt8) {v1 : Value} (h2 : rdL (· < w0.heap.size) w0 v1 a0) {r : Int × Race} (hm : M.spec_DrawIsRace a0 = some r) :
    Calls Try.prog 70 #[v1] w0 fun e w' => ∃ (rv0 : Value) (rS0 : Nat → Prop), e = .returned (.tuple #[(.int .i64 r.1), (.agg #[rv0])]) ∧ Fresh w0 w' [Ent.own 88 rS0 rv0 r.2.Finishes] := by
  unfold M.spec_DrawIsRace at hm
  refine calls_CW (args := [v1]) Try.func70 rfl rfl rfl ?_
  have hL := Hp.start w0
  refine CW.seq ?_
  refine CW.regionL ?_
  refine OW.cons (OP.val (v := (.int .i64 0)) rfl (x_assign) ?_)
  refine OW.cons (S_alloc (cs := #[(.slice none 0 0)]) hL Try_T29 rfl rfl ?_)
  intro wd3 b4 hL
  refine OW.nil ?_
  refine CW.seq ?_
  refine CW.regionL ?_
  refine OW.cons (OP.val (v := v1) rfl (x_move) ?_)
  obtain ⟨x5, hx6, hm⟩ := bndE hm
  refine OW.cons (OP.call rfl (x_call (vs := [v1]) Try_C71 ⟨rfl, trivial⟩) (M.spec_l01From_ok _ a0 (hL.rdS 1 rfl h2) hx6) ?_)
  rintro e8 wd9 ⟨b7, rfl, hF10⟩
  refine ⟨_, rfl, ?_⟩
  have hL := hL.pushAll hF10
  simp only [List.cons_append, List.nil_append, List.set_cons_zero, List.set_cons_succ] at hL
  refine OW.cons (OP.val (v := (.pointer (some ⟨b7, 0, none⟩))) rfl (x_assign) ?_)
  refine OW.nil ?_
  refine CW.seq ?_
  refine CW.regionL ?_
  refine OW.cons (OP.val (v := (.pointer (some ⟨b7, 0, none⟩))) rfl (x_move) ?_)
  obtain ⟨x11, hx12, hm⟩ := bndE hm
  refine OW.cons (OP.call rfl (x_call (vs := [(.pointer (some ⟨b7, 0, none⟩))]) Try_C88 ⟨rfl, trivial⟩) (M.spec_l26DrawBoats_ok _ (Src.mk a0 x5.1 x5.2) (hL.exS 2 0 (by decide) rfl rfl h2) (hL.get 0 rfl) hx12) ?_)
  rintro e13 wd14 ⟨rfl, hF15⟩
  refine ⟨_, rfl, ?_⟩
  have hL := hL.mut 0 rfl hF15
  simp only [List.cons_append, List.nil_append, List.set_cons_zero, List.set_cons_succ] at hL
  refine OW.cons (OP.val (v := (.int .i64 x11.1)) rfl (x_assign) ?_)
  refine OW.nil ?_
  refine CW.seq ?_
  refine CW.regionL ?_
  refine OW.cons (OP.val (v := (.pointer (some ⟨b7, 0, none⟩))) rfl (x_move) ?_)
  refine OW.cons (OP.val (v := (.int .i64 x11.1)) rfl (x_move) ?_)
  obtain ⟨x16, hx17, hm⟩ := bndE hm
  refine OW.cons (OP.call rfl (x_call (vs := [(.pointer (some ⟨b7, 0, none⟩)), (.int .i64 x11.1)]) Try_C89 ⟨rfl, rfl, trivial⟩) (M.spec_l26DrawAny_ok _ (Src.mk a0 x11.2.1 x11.2.2) (hL.exS 2 0 (by decide) rfl rfl h2) (hL.get 0 rfl) x11.1 hx17) ?_)
  rintro e20 wd21 ⟨v19, S18, rfl, hF22⟩
  refine ⟨_, rfl, ?_⟩
  have hL := hL.mut 0 rfl hF22
  simp only [List.cons_append, List.nil_append, List.set_cons_zero, List.set_cons_succ] at hL
  refine OW.cons (S_alloc (cs := #[(.slice none 0 0)]) hL Try_T29 rfl rfl ?_)
  intro wd23 b24 hL
  refine OW.cons (S_storeN (l := [v19]) (cs' := #[v19]) hL 0 rfl Try_T29 rfl rfl (List.forall_mem_cons.2 ⟨rdL_one (hL.rdO 1 rfl), (fun _ h => by cases h)⟩) rfl (Nat.le_of_ble_eq_true rfl) rfl ?_)
  intro wd25 hL
  refine OW.nil ?_
  refine CW.seq ?_
  refine CW.drawH (fun w' => Hp w0 [Ent.blk b24 29 #[v19], Ent.own 88 S18 v19 x16.1.Finishes, Ent.snap w0 w0.heap.size] w') Try_mixed ?_
  have hL := hL.call (Mod.drew _)
  have hS := (hL.sel [0, 1, 4] (by decide) rfl)
  refine DH.take 0 rfl (by kernel_rfl) (by kernel_rfl) (by kernel_rfl) rfl rfl hS (YH.val (v := (.int .i64 x11.1)) (fun w' hS' => x_move)) ?_
  have hS := (hL.sel [0, 1, 4] (by decide) rfl)
  refine DH.take 1 rfl (by kernel_rfl) (by kernel_rfl) (by kernel_rfl) rfl rfl hS (YH.val (v := (.pointer (some ⟨b7, 0, none⟩))) (fun w' hS' => x_move)) ?_
  have hS := (hL.sel [0, 1, 4] (by decide) rfl)
  refine DH.take 5 rfl (by kernel_rfl) (by kernel_rfl) (by kernel_rfl) rfl rfl hS (YH.val (v := (.agg #[v19])) (fun w' hS' => x_loadN (cs := [v19]) Try.underlying29 Try_T29 rfl rfl (hS'.cellsB 0 rfl (o := 0) (l := [v19]) (by intro j u hj; exact (by simpa using hj))))) ?_
  obtain ⟨x32, hx33, hm⟩ := bndE hm
  refine DH.only 2 rfl (by kernel_rfl) (OP.call rfl (x_call (vs := [(.pointer (some ⟨b7, 0, none⟩)), (.int .i64 24)]) Try_C72 ⟨rfl, rfl, trivial⟩) (M.spec_l01Next_ok _ (Src.mk a0 x16.2.1 x16.2.2) (hL.exS 4 2 (by decide) rfl rfl h2) (hL.get 2 rfl) 24 hx33) ?_)
  rintro e34 wd35 ⟨rfl, hF36⟩
  refine ⟨_, rfl, ?_⟩
  have hL := hL.mut 2 rfl hF36
  simp only [List.cons_append, List.nil_append, List.set_cons_zero, List.set_cons_succ] at hL
  refine ⟨(hL.sel [0, 1, 4] (by decide) rfl), ?_⟩
  have hS := (hL.sel [0, 1, 4] (by decide) rfl)
  refine DH.take 3 rfl (by kernel_rfl) (by kernel_rfl) (by kernel_rfl) rfl rfl hS (YH.val (v := (.int .i64 (w64 (x32.1.tdiv 23)))) (fun w' hS' => x_quo rfl rfl (by decide))) ?_
  have hS := (hL.sel [0, 1, 4] (by decide) rfl)
  refine DH.take 4 rfl (by kernel_rfl) (by kernel_rfl) (by kernel_rfl) rfl rfl hS (YH.val (v := (.int .i64 (w64 (x11.1 + (w64 (x32.1.tdiv 23)))))) (fun w' hS' => x_add rfl rfl)) ?_
  have hS := (hL.sel [0, 1, 4] (by decide) rfl)
  refine DH.take 6 rfl (by kernel_rfl) (by kernel_rfl) (by kernel_rfl) rfl rfl hS (YH.val (v := (.int .i64 (w64 (x11.1 + (w64 (x32.1.tdiv 23)))))) (fun w' hS' => x_assign)) ?_
  refine DH.only 7 rfl (by kernel_rfl) (S_storeN (l := [v19]) (cs' := #[v19]) hL 3 rfl Try_T29 rfl rfl (List.forall_mem_cons.2 ⟨rdL_one (hL.rdO 1 rfl), (fun _ h => by cases h)⟩) rfl (Nat.le_of_ble_eq_true rfl) rfl ?_)
  intro wd37 hL
  refine ⟨(hL.sel [0, 1, 4] (by decide) rfl), ?_⟩
  refine DH.done (by kernel_rfl) ?_
  refine CW.ret ?_
  obtain rfl := Option.some.inj hm
  exact RRs (v := (.int .i64 (w64 (x11.1 + (w64 (x32.1.tdiv 23)))))) (v2 := (.agg #[v19])) (vs := []) (rs := [.tmp 2, .cell 3 29]) rfl ⟨resTmp rfl, resCell rfl (run_loadBlk Try.underlying29 Try_T29 (hL.get 3 rfl) rfl), trivial⟩ ⟨v19, S18, rfl, hL.fresh 4 rfl [1] (by decide) (by decide) rfl⟩

theorem M.laws_likeInts_ok (w0 : World) (a0 : List Int) {v1 : Value} (h2 : rdL (· < w0.heap.size) w0 v1 a0) (a1 : List Int) {v3 : Value} (h4 : rdL (· < w0.heap.size) w0 v3 a1) {r : Bool} (hm : M.laws_likeInts a0 a1 = some r) :
    Calls Try.prog 38 #[v1, v3] w0 fun e w' => e = .returned (.bool r) ∧ Fresh w0 w' [] := by
  unfold M.laws_likeInts at hm
  refine calls_CW (args := [v1, v3]) Try.func38 rfl rfl rfl ?_
  have hL := Hp.start w0
  refine CW.seq ?_
  refine CW.regionL ?_
  refine OW.cons (OP.val (v := (.bool false)) rfl (x_assign) ?_)
  refine OW.nil ?_
  refine CW.seq ?_
  refine CW.seq ?_
  refine CW.regionL ?_
  refine OW.cons (OP.val (v := v1) rfl (x_move) ?_)
  refine OW.cons (OP.val (v := (.int .i64 (a0.length : Int))) rfl (x_lenR Try.underlying53 rfl (hL.rdS 0 rfl h2)) ?_)
  refine OW.cons (OP.val (v := v3) rfl (x_move) ?_)
  refine OW.cons (OP.val (v := (.int .i64 (a1.length : Int))) rfl (x_lenR Try.underlying53 rfl (hL.rdS 0 rfl h4)) ?_)
  refine OW.cons (OP.val (v := (.bool ((a0.length : Int) != (a1.length : Int)))) rfl (x_neq rfl rfl) ?_)
  refine OW.nil ?_
  refine CW.condM (t := (a0.length : Int) != (a1.length : Int)) rfl hm (fun hb5 hm => ?_) (fun hb5 hm => ?_)
  · refine CW.seq ?_
    refine CW.regionL ?_
    refine OW.cons (OP.val (v := (.bool false)) rfl (x_assign) ?_)
    refine OW.nil ?_
    refine CW.ret ?_
    obtain rfl := Option.some.inj hm
    exact RR1 rfl rfl ⟨rfl, hL.fresh 0 rfl [] (by decide) (by decide) rfl⟩
  · refine CW.skip ?_
    refine CW.seq ?_
    refine CW.seq ?_
    refine CW.regionL ?_
    refine OW.cons (OP.val (v := (.int .i64 0)) rfl (x_assign) ?_)
    refine OW.nil ?_
    obtain ⟨o42, ho43, hm⟩ := bndE hm
    refine CW.loopB (fun (s_l1 : Int) (F : Fr) (w : World) => F 0 = v1 ∧ F 1 = v3 ∧ F 5 = (.int .i64 s_l1) ∧ Hp w0 [Ent.snap w0 w0.heap.size] w) (fun o => outc o (fun x => some x) (fun s => M.laws_likeInts_a1 s) = some r) ho43 hm ⟨rfl, rfl, rfl, hL⟩ ?_ ?_
    · intro s_l1 F44 wd45 hJ hm
      have hm := outcE hm
      have hm : M.laws_likeInts_a1 s_l1 = some r := hm
      unfold M.laws_likeInts_a1 at hm
      obtain ⟨f46, f47, f48, hL⟩ := hJ
      refine CW.seq ?_
      refine CW.regionL ?_
      refine OW.cons (OP.val (v := (.bool true)) rfl (x_assign) ?_)
      refine OW.nil ?_
      refine CW.ret ?_
      obtain rfl := Option.some.inj hm
      exact RR1 rfl rfl ⟨rfl, hL.fresh 0 rfl [] (by decide) (by decide) rfl⟩
    · intro s_l1 F49 wd50 t40 hJ hm hr41
      unfold M.laws_likeInts_l1 at hm
      obtain ⟨f51, f52, f53, hL⟩ := hJ
      refine CW.seq ?_
      refine CW.seq ?_
      refine CW.regionL ?_
      refine OW.cons (OP.val (v := (.int .i64 s_l1)) rfl (x_mv f53) ?_)
      refine OW.cons (OP.val (v := v1) rfl (x_mv f51) ?_)
      refine OW.cons (OP.val (v := (.int .i64 (a0.length : Int))) rfl (x_lenR Try.underlying53 rfl (hL.rdS 0 rfl h2)) ?_)
      refine OW.cons (OP.val (v := (.bool (decide (s_l1 < (a0.length : Int))))) rfl (x_lss rfl rfl) ?_)
      refine OW.nil ?_
      refine CW.condM (t := decide (s_l1 < (a0.length : Int))) rfl hm (fun hb54 hm => ?_) (fun hb54 hm => ?_)
      · refine CW.skip ?_
        refine CW.seq ?_
        refine CW.block ?_
        refine CW.seq ?_
        refine CW.draw Try_mixed ?_
        have hL := hL.call (Mod.drew _)
        refine DW.pre (fuel := 0) (fin := ((((((((((Array.replicate 9 false).setIfInBounds 0 true).setIfInBounds 1 true).setIfInBounds 2 true).setIfInBounds 3 true).setIfInBounds 4 true).setIfInBounds 5 true).setIfInBounds 6 true).setIfInBounds 7 true).setIfInBounds 8 true)) (C := fun w' => Mod None_ _ w') [0, 1, 2, 3, 4, 5, 6, 7, 8] (Mod.refl _ _) (by kernel_rfl) (by kernel_rfl) ?_
        refine QW.cons rfl (QP.val (v := v1) rfl (fun w' hm' => x_mv f51) ?_)
        refine QW.cons rfl (QP.val (v := (.int .i64 s_l1)) rfl (fun w' hm' => x_mv f53) ?_)
        obtain ⟨x55, ha56, hm⟩ := bndE hm
        obtain ⟨hz57, ha61⟩ := idxE ha56
        obtain ⟨b58, q59, hix60⟩ := rdL_ix (hL.rdS 0 rfl h2) hz57 ha61
        refine QW.cons rfl (QP.val (v := (.pointer (some ⟨b58, q59, none⟩))) rfl (fun w' hm' => x_ix Try.underlying53 Try_T2 rfl rfl hix60) ?_)
        refine QW.cons rfl (QP.val (v := (.int .i64 x55)) rfl (fun w' hm' => x_load1 Try.underlying2 rfl rfl (rdF_cells ((hL.call hm').rdS 0 rfl h2) hix60 ha61 0 _ rfl)) ?_)
        refine QW.cons rfl (QP.val (v := v3) rfl (fun w' hm' => x_mv f52) ?_)
        refine QW.cons rfl (QP.val (v := (.int .i64 s_l1)) rfl (fun w' hm' => x_mv f53) ?_)
        obtain ⟨x62, ha63, hm⟩ := bndE hm
        obtain ⟨hz64, ha68⟩ := idxE ha63
        obtain ⟨b65, q66, hix67⟩ := rdL_ix (hL.rdS 0 rfl h4) hz64 ha68
        refine QW.cons rfl (QP.val (v := (.pointer (some ⟨b65, q66, none⟩))) rfl (fun w' hm' => x_ix Try.underlying53 Try_T2 rfl rfl hix67) ?_)
        refine QW.cons rfl (QP.val (v := (.int .i64 x62)) rfl (fun w' hm' => x_load1 Try.underlying2 rfl rfl (rdF_cells ((hL.call hm').rdS 0 rfl h4) hix67 ha68 0 _ rfl)) ?_)
        refine QW.cons rfl (QP.val (v := (.bool (x55 != x62))) rfl (fun w' hm' => x_neq rfl rfl) ?_)
        refine QW.nil ?_
        intro wd69 hmod
        have hL := hL.call hmod
        refine DW.done (by kernel_rfl) ?_
        refine CW.condM (t := x55 != x62) rfl hm (fun hb70 hm => ?_) (fun hb70 hm => ?_)
        · refine CW.seq ?_
          refine CW.regionL ?_
          refine OW.cons (OP.val (v := (.bool false)) rfl (x_assign) ?_)
          refine OW.nil ?_
          refine CW.ret ?_
          obtain rfl := Option.some.inj hm
          have hm := hr41 _ rfl
          obtain rfl := Option.some.inj hm
          exact RR1 rfl rfl ⟨rfl, hL.fresh 0 rfl [] (by decide) (by decide) rfl⟩
        · refine CW.skip ?_
          refine CW.regionL ?_
          refine OW.cons (OP.val (v := (.int .i64 s_l1)) rfl (x_mv f53) ?_)
          refine OW.cons (OP.val (v := (.int .i64 (w64 (s_l1 + 1)))) rfl (x_add rfl rfl) ?_)
          refine OW.cons (OP.val (v := (.int .i64 (w64 (s_l1 + 1)))) rfl (x_assign) ?_)
          refine OW.nil ?_
          obtain rfl := Option.some.inj hm
          exact ⟨_, rfl, ⟨f51, f52, rfl, hL⟩⟩
      · refine CW.exit ?_
        refine XJ.hit ?_
        obtain rfl := Option.some.inj hm
        exact ⟨_, rfl, ⟨f51, f52, f53, hL⟩⟩

theorem M.spec_FinishOrder_ok (w0 : World) (a0 : Int) (a1 : Race) {v1 : Value} (h2 : rdL (· < w0.heap.size) w0 v1 a1.Finishes) {r : (List Int) × Int} (hm : M.spec_FinishOrder a0 a1 = some r) :
    Calls Try.prog 43 #[(.int .i64 a0), (.agg #[v1])] w0 fun e w' => ∃ (rv0 : Value) (rS0 : Nat → Prop), e = .returned (.tuple #[rv0, (.int .i64 r.2)]) ∧ Fresh w0 w' [Ent.own 2 rS0 rv0 r.1] := by
  unfold M.spec_FinishOrder at hm
  refine calls_CW (args := [(.int .i64 a0), (.agg #[v1])]) Try.func43 rfl rfl rfl ?_
  have hL := Hp.start w0
  refine CW.seq ?_
  refine CW.regionL ?_
  refine OW.cons (S_box (cs := #[v1]) hL rfl rfl rfl ?_)
  intro wd3 b4 hL
  refine OW.cons (OP.val (v := (.slice none 0 0)) rfl (x_assign) ?_)
  refine OW.cons (OP.val (v := (.int .i64 0)) rfl (x_assign) ?_)
  refine OW.nil ?_
  refine CW.seq ?_
  refine CW.seq ?_
  refine CW.regionL ?_
  refine OW.cons (OP.val (v := (.int .i64 a0)) rfl (x_move) ?_)
  refine OW.cons (OP.val (v := (.agg #[v1])) rfl (x_loadN (cs := [v1]) Try.underlying29 Try_T29 rfl rfl (hL.cellsB 0 rfl (o := 0) (l := [v1]) (by intro j u hj; exact (by simpa using hj)))) ?_)
  obtain ⟨x5, hx6, hm⟩ := bndE hm
  refine OW.cons (OP.call rfl (x_call (vs := [(.int .i64 a0), (.agg #[v1])]) Try_C14 ⟨rfl, rfl, trivial⟩) (M.spec_IsRace_ok _ a0 a1 (hL.rdS 1 rfl h2) hx6) ?_)
  rintro e7 wd8 ⟨rfl, hF9⟩
  refine ⟨_, rfl, ?_⟩
  have hL := hL.pushAll hF9
  simp only [List.cons_append, List.nil_append, List.set_cons_zero, List.set_cons_succ] at hL
  refine OW.cons (OP.val (v := (.bool (!x5))) rfl (x_not rfl) ?_)
  refine OW.nil ?_
  refine CW.condM (t := !x5) rfl hm (fun hb10 hm => ?_) (fun hb10 hm => ?_)
  · refine CW.seq ?_
    refine CW.regionL ?_
    refine OW.cons (OP.val (v := (.slice none 0 0)) rfl (x_assign) ?_)
    refine OW.cons (OP.val (v := (.int .i64 1)) rfl (x_assign) ?_)
    refine OW.nil ?_
    refine CW.ret ?_
    have hL := hL.pushNil Int 2
    obtain rfl := Option.some.inj hm
    exact RR2 rfl rfl rfl ⟨(.slice none 0 0), None_, rfl, hL.fresh 2 rfl [0] (by decide) (by decide) rfl⟩
  · refine CW.skip ?_
    refine CW.seq ?_
    refine CW.regionL ?_
    refine OW.cons (S_lit ([] : List Int) hL Try.underlying53 Try_T2 rfl (by decide) (by first | (simp [Instr.fill, madeCells, Value.cells, ev, upd, Flat.enc, Flat.sz]; done) | rfl | kernel_rfl) rfl rfl ?_)
    intro wd11 v12 S13 hL
    refine OW.cons (OP.val (v := v12) rfl (x_assign) ?_)
    refine OW.nil ?_
    refine CW.seq ?_
    refine CW.regionL ?_
    refine OW.cons (S_lit ([] : List Int) hL Try.underlying53 Try_T2 rfl (by decide) (by first | (simp [Instr.fill, madeCells, Value.cells, ev, upd, Flat.enc, Flat.sz]; done) | rfl | kernel_rfl) rfl rfl ?_)
    intro wd14 v15 S16 hL
    refine OW.cons (OP.val (v := v15) rfl (x_assign) ?_)
    refine OW.nil ?_
    refine CW.seq ?_
    refine CW.seq ?_
    refine CW.regionL ?_
    refine OW.cons (OP.val (v := (.int .i64 0)) rfl (x_assign) ?_)
    refine OW.nil ?_
    obtain ⟨o1727, ho1728, hm⟩ := bndE hm
    have hL := hL.sel [1, 0, 2, 3] (by decide) rfl
    refine CW.loopB (fun (s_l1 : (List Int) × (List Int) × Int) (F : Fr) (w : World) => ∃ (v1721 : Value) (S1722 : Nat → Prop) (v1723 : Value) (S1724 : Nat → Prop), F 0 = (.int .i64 a0) ∧ F 3 = (.pointer (some ⟨b4, 0, none⟩)) ∧ F 6 = v1721 ∧ F 7 = v1723 ∧ F 8 = (.int .i64 s_l1.2.2) ∧ Hp w0 [Ent.own 2 S1722 v1721 s_l1.1, Ent.own 2 S1724 v1723 s_l1.2.1, Ent.blk b4 29 #[v1], Ent.snap w0 w0.heap.size] w) (fun o => outc o (fun x => some x) (fun s => M.spec_FinishOrder_a1 s) = some r) ho1728 hm ⟨v12, S13, v15, S16, rfl, rfl, rfl, rfl, rfl, hL⟩ ?_ ?_
    · intro s_l1 F1729 wd1730 hJ hm
      have hm := outcE hm
      have hm : M.spec_FinishOrder_a1 s_l1 = some r := hm
      unfold M.spec_FinishOrder_a1 at hm
      obtain ⟨v1721, S1722, v1723, S1724, f1731, f1732, f1733, f1734, f1735, hL⟩ := hJ
      refine CW.seq ?_
      refine CW.regionL ?_
      refine OW.cons (OP.val (v := v1721) rfl (x_mv f1733) ?_)
      refine OW.cons (OP.val (v := v1723) rfl (x_mv f1734) ?_)
      obtain ⟨hc1739, hm⟩ := chkE hm
      refine OW.cons (S_append (ys := s_l1.2.1) hL 0 rfl Try.underlying53 Try_T2 rfl rfl rfl (hL.rdO 1 rfl) hc1739 (by decide) rfl ?_)
      intro wd1736 v1737 S1738 hL
      refine OW.cons (OP.val (v := v1737) rfl (x_assign) ?_)
      refine OW.cons (OP.val (v := (.int .i64 0)) rfl (x_assign) ?_)
      refine OW.nil ?_
      refine CW.ret ?_
      obtain rfl := Option.some.inj hm
      exact RR2 rfl rfl rfl ⟨v1737, S1738, rfl, hL.fresh 3 rfl [0] (by decide) (by decide) rfl⟩
    · intro s_l1 F1740 wd1741 t1725 hJ hm hr1726
      unfold M.spec_FinishOrder_l1 at hm
      obtain ⟨v1721, S1722, v1723, S1724, f1742, f1743, f1744, f1745, f1746, hL⟩ := hJ
      refine CW.seq ?_
      refine CW.seq ?_
      refine CW.regionL ?_
      refine OW.cons (OP.val (v := (.int .i64 s_l1.2.2)) rfl (x_mv f1746) ?_)
      refine OW.cons (OP.val (v := (.int .i64 a0)) rfl (x_mv f1742) ?_)
      refine OW.cons (OP.val (v := (.bool (decide (s_l1.2.2 < a0)))) rfl (x_lss rfl rfl) ?_)
      refine OW.nil ?_
      refine CW.condM (t := decide (s_l1.2.2 < a0)) rfl hm (fun hb1747 hm => ?_) (fun hb1747 hm => ?_)
      · refine CW.skip ?_
        refine CW.seqJ (fun (s_j1 : (List Int) × (List Int)) (F : Fr) (w : World) => ∃ (v2167 : Value) (S2168 : Nat → Prop) (v2169 : Value) (S2170 : Nat → Prop), F 0 = (.int .i64 a0) ∧ F 3 = (.pointer (some ⟨b4, 0, none⟩)) ∧ F 6 = v2167 ∧ F 7 = v2169 ∧ F 8 = (.int .i64 s_l1.2.2) ∧ Hp w0 [Ent.own 2 S2168 v2167 s_j1.1, Ent.own 2 S2170 v2169 s_j1.2, Ent.blk b4 29 #[v1], Ent.snap w0 w0.heap.size] w) (fun s_j1 => M.spec_FinishOrder_j1 s_l1 s_j1 = some t1725) ?_ ?_
        · refine CW.blockJ (fun (s_j2 : (List Int) × (List Int)) (F : Fr) (w : World) => ∃ (v2382 : Value) (S2383 : Nat → Prop) (v2384 : Value) (S2385 : Nat → Prop), F 0 = (.int .i64 a0) ∧ F 3 = (.pointer (some ⟨b4, 0, none⟩)) ∧ F 6 = v2382 ∧ F 7 = v2384 ∧ F 8 = (.int .i64 s_l1.2.2) ∧ Hp w0 [Ent.own 2 S2383 v2382 s_j2.1, Ent.own 2 S2385 v2384 s_j2.2, Ent.blk b4 29 #[v1], Ent.snap w0 w0.heap.size] w) (fun s_j2 => M.spec_FinishOrder_j2 s_l1 s_j2 = some t1725) ?_ ?_
          · refine CW.seq ?_
            refine CW.regionL ?_
            refine OW.cons (OP.val (v := (.pointer (some ⟨b4, 0, none⟩))) rfl (x_fieldAddr (fsz := 1) 0 0 0 Try.underlying29 rfl Try_T27 rfl f1743 rfl) ?_)
            refine OW.cons (OP.val (v := v1) rfl (x_load1 Try.underlying27 rfl rfl (hL.cellB 2 rfl rfl)) ?_)
            refine OW.cons (OP.val (v := (.int .i64 s_l1.2.2)) rfl (x_mv f1746) ?_)
            obtain ⟨x2393, ha2394, hm⟩ := bndE hm
            obtain ⟨hz2395, ha2399⟩ := idxE ha2394
            obtain ⟨b2396, q2397, hix2398⟩ := rdL_ix (hL.rdS 3 rfl h2) hz2395 ha2399
            refine OW.cons (OP.val (v := (.pointer (some ⟨b2396, q2397, none⟩))) rfl (x_ix Try.underlying27 Try_T88 rfl rfl hix2398) ?_)
            refine OW.cons (OP.val (v := (.agg #[(.int .i64 x2393.Boat), (.int .i64 x2393.Code), (.int .i64 x2393.Time)])) rfl (x_loadN (cs := [(.int .i64 x2393.Boat), (.int .i64 x2393.Code), (.int .i64 x2393.Time)]) Try.underlying88 Try_T88 rfl rfl (rdF_cells (hL.rdS 3 rfl h2) hix2398 ha2399)) ?_)
            refine OW.cons (S_alloc (cs := #[(.int .i64 0), (.int .i64 0), (.int .i64 0)]) hL Try_T88 rfl rfl ?_)
            intro wd2400 b2401 hL
            refine OW.cons (S_storeN (l := [(.int .i64 x2393.Boat), (.int .i64 x2393.Code), (.int .i64 x2393.Time)]) (cs' := #[(.int .i64 x2393.Boat), (.int .i64 x2393.Code), (.int .i64 x2393.Time)]) hL 0 rfl Try_T88 rfl rfl (List.forall_mem_cons.2 ⟨rfl, (List.forall_mem_cons.2 ⟨rfl, (List.forall_mem_cons.2 ⟨rfl, (fun _ h => by cases h)⟩)⟩)⟩) rfl (Nat.le_of_ble_eq_true rfl) rfl ?_)
            intro wd2402 hL
            refine OW.nil ?_
            refine CW.seq ?_
            refine CW.seq ?_
            refine CW.regionL ?_
            refine OW.cons (OP.val (v := (.agg #[(.int .i64 x2393.Boat), (.int .i64 x2393.Code), (.int .i64 x2393.Time)])) rfl (x_loadN (cs := [(.int .i64 x2393.Boat), (.int .i64 x2393.Code), (.int .i64 x2393.Time)]) Try.underlying88 Try_T88 rfl rfl (hL.cellsB 0 rfl (o := 0) (l := [(.int .i64 x2393.Boat), (.int .i64 x2393.Code), (.int .i64 x2393.Time)]) (by intro j u hj; exact (by simpa using hj)))) ?_)
            obtain ⟨x2403, hx2404, hm⟩ := bndE hm
            refine OW.cons (OP.call rfl (x_call (vs := [(.agg #[(.int .i64 x2393.Boat), (.int .i64 x2393.Code), (.int .i64 x2393.Time)])]) Try_C66 ⟨rfl, trivial⟩) (M.spec_l26Done_ok _ x2393 hx2404) ?_)
            rintro e2405 wd2406 ⟨rfl, hF2407⟩
            refine ⟨_, rfl, ?_⟩
            have hL := hL.pushAll hF2407
            simp only [List.cons_append, List.nil_append, List.set_cons_zero, List.set_cons_succ] at hL
            refine OW.cons (OP.val (v := (.bool (!x2403))) rfl (x_not rfl) ?_)
            refine OW.nil ?_
            refine CW.condM (t := !x2403) rfl hm (fun hb2408 hm => ?_) (fun hb2408 hm => ?_)
            · refine CW.seq ?_
              refine CW.regionL ?_
              refine OW.cons (OP.val (v := v1723) rfl (x_mv f1745) ?_)
              refine OW.cons (OP.val (v := (.int .i64 s_l1.2.2)) rfl (x_mv f1746) ?_)
              refine OW.cons (S_lit ([s_l1.2.2] : List Int) hL Try.underlying53 Try_T2 rfl (by decide) (by first | (simp [Instr.fill, madeCells, Value.cells, ev, upd, Flat.enc, Flat.sz]; done) | rfl | kernel_rfl) rfl rfl ?_)
              intro wd2409 v2410 S2411 hL
              obtain ⟨hc2415, hm⟩ := chkE hm
              refine OW.cons (S_append (ys := ([s_l1.2.2] : List Int)) hL 3 rfl Try.underlying53 Try_T2 rfl rfl rfl (hL.rdO 0 rfl) hc2415 (by decide) rfl ?_)
              intro wd2412 v2413 S2414 hL
              refine OW.cons (OP.val (v := v2413) rfl (x_assign) ?_)
              refine OW.nil ?_
              refine CW.exit ?_
              refine XJ.hit ?_
              have hL := hL.sel [2, 3, 4, 5] (by decide) rfl
              exact ⟨(s_l1.1, s_l1.2.1 ++ ([s_l1.2.2] : List Int)), hm, ⟨v1721, S1722, v2413, S2414, f1742, f1743, f1744, rfl, f1746, hL⟩⟩
            · refine CW.skip ?_
              refine CW.seq ?_
              refine CW.regionL ?_
              refine OW.cons (OP.val (v := v1721) rfl (x_mv f1744) ?_)
              refine OW.cons (OP.val (v := (.int .i64 (s_l1.1.length : Int))) rfl (x_lenR Try.underlying53 rfl (hL.rdO 1 rfl)) ?_)
              refine OW.cons (OP.val (v := (.int .i64 (s_l1.1.length : Int))) rfl (x_assign) ?_)
              refine OW.nil ?_
              refine CW.seq ?_
              obtain ⟨o2508, ho2509, hm⟩ := bndE hm
              refine CW.loopB (fun (s_l2 : Int) (F : Fr) (w : World) => F 0 = (.int .i64 a0) ∧ F 3 = (.pointer (some ⟨b4, 0, none⟩)) ∧ F 6 = v1721 ∧ F 7 = v1723 ∧ F 8 = (.int .i64 s_l1.2.2) ∧ F 9 = (.pointer (some ⟨b2401, 0, none⟩)) ∧ F 10 = (.int .i64 s_l2) ∧ Hp w0 [Ent.blk b2401 88 #[(.int .i64 x2393.Boat), (.int .i64 x2393.Code), (.int .i64 x2393.Time)], Ent.own 2 S1722 v1721 s_l1.1, Ent.own 2 S1724 v1723 s_l1.2.1, Ent.blk b4 29 #[v1], Ent.snap w0 w0.heap.size] w) (fun o => outc o (fun x => some (.ret x)) (fun s => M.spec_FinishOrder_a2 s_l1 s) = some t1725) ho2509 hm ⟨f1742, f1743, f1744, f1745, f1746, rfl, rfl, hL⟩ ?_ ?_
              · intro s_l2 F2510 wd2511 hJ hm
                have hm := outcE hm
                have hm : M.spec_FinishOrder_a2 s_l1 s_l2 = some t1725 := hm
                unfold M.spec_FinishOrder_a2 at hm
                obtain ⟨f2512, f2513, f2514, f2515, f2516, f2517, f2518, hL⟩ := hJ
                refine CW.seq ?_
                refine CW.regionL ?_
                refine OW.cons (S_lit ([] : List Int) hL Try.underlying53 Try_T2 rfl (by decide) (by first | (simp [Instr.fill, madeCells, Value.cells, ev, upd, Flat.enc, Flat.sz]; done) | rfl | kernel_rfl) rfl rfl ?_)
                intro wd2519 v2520 S2521 hL
                refine OW.cons (OP.val (v := v1721) rfl (x_mv f2514) ?_)
                refine OW.cons (OP.val (v := (.int .i64 s_l2)) rfl (x_mv f2518) ?_)
                obtain ⟨hc2524, hm⟩ := chkE hm
                obtain ⟨v2522, hs2523⟩ := subV_of (hL.rdO 2 rfl) hc2524
                refine OW.cons (OP.val (v := v2522) rfl (x_slice0 Try.underlying53 Try_T2 rfl rfl hs2523) ?_)
                obtain ⟨hc2528, hm⟩ := chkE hm
                refine OW.cons (S_append (ys := subL s_l1.1 0 s_l2) hL 0 rfl Try.underlying53 Try_T2 rfl rfl rfl (SubV.rdL hs2523 (hL.rdO 2 rfl)) hc2528 (by decide) rfl ?_)
                intro wd2525 v2526 S2527 hL
                refine OW.cons (OP.val (v := v2526) rfl (x_assign) ?_)
                refine OW.nil ?_
                refine CW.seq ?_
                refine CW.regionL ?_
                refine OW.cons (OP.val (v := v2526) rfl (x_move) ?_)
                refine OW.cons (OP.val (v := (.int .i64 s_l1.2.2)) rfl (x_mv f2516) ?_)
                refine OW.cons (S_lit ([s_l1.2.2] : List Int) hL Try.underlying53 Try_T2 rfl (by decide) (by first | (simp [Instr.fill, madeCells, Value.cells, ev, upd, Flat.enc, Flat.sz]; done) | rfl | kernel_rfl) rfl rfl ?_)
                intro wd2529 v2530 S2531 hL
                obtain ⟨hc2535, hm⟩ := chkE hm
                refine OW.cons (S_append (ys := ([s_l1.2.2] : List Int)) hL 1 rfl Try.underlying53 Try_T2 rfl rfl rfl (hL.rdO 0 rfl) hc2535 (by decide) rfl ?_)
                intro wd2532 v2533 S2534 hL
                refine OW.cons (OP.val (v := v2533) rfl (x_assign) ?_)
                refine OW.nil ?_
                refine CW.regionL ?_
                refine OW.cons (OP.val (v := v2533) rfl (x_move) ?_)
                refine OW.cons (OP.val (v := v1721) rfl (x_mv f2514) ?_)
                refine OW.cons (OP.val (v := (.int .i64 s_l2)) rfl (x_mv f2518) ?_)
                obtain ⟨hc2538, hm⟩ := chkE hm
                obtain ⟨v2536, hs2537⟩ := subV_of (hL.rdO 3 rfl) hc2538
                refine OW.cons (OP.val (v := v2536) rfl (x_slice1 Try.underlying53 Try_T2 rfl rfl (subV_len (hL.rdO 3 rfl)) hs2537) ?_)
                obtain ⟨hc2542, hm⟩ := chkE hm
                refine OW.cons (S_append (ys := subL s_l1.1 s_l2 (s_l1.1.length : Int)) hL 1 rfl Try.underlying53 Try_T2 rfl rfl rfl (SubV.rdL hs2537 (hL.rdO 3 rfl)) hc2542 (by decide) rfl ?_)
                intro wd2539 v2540 S2541 hL
                refine OW.cons (OP.val (v := v2540) rfl (x_assign) ?_)
                refine OW.nil ?_
                have hL := hL.sel [1, 4, 5, 6] (by decide) rfl
                exact ⟨(((([] : List Int) ++ (subL s_l1.1 0 s_l2)) ++ ([s_l1.2.2] : List Int)) ++ (subL s_l1.1 s_l2 (s_l1.1.length : Int)), s_l1.2.1), hm, ⟨v2540, S2541, v1723, S1724, f2512, f2513, rfl, f2515, f2516, hL⟩⟩
              · intro s_l2 F2543 wd2544 t2506 hJ hm hr2507
                unfold M.spec_FinishOrder_l2 at hm
                obtain ⟨f2545, f2546, f2547, f2548, f2549, f2550, f2551, hL⟩ := hJ
                refine CW.seq ?_
                refine CW.seqJ (fun (s_j3 : Bool) (F : Fr) (w : World) => F 0 = (.int .i64 a0) ∧ F 3 = (.pointer (some ⟨b4, 0, none⟩)) ∧ F 6 = v1721 ∧ F 7 = v1723 ∧ F 8 = (.int .i64 s_l1.2.2) ∧ F 9 = (.pointer (some ⟨b2401, 0, none⟩)) ∧ F 10 = (.int .i64 s_l2) ∧ F 53 = (.bool s_j3) ∧ Hp w0 [Ent.blk b2401 88 #[(.int .i64 x2393.Boat), (.int .i64 x2393.Code), (.int .i64 x2393.Time)], Ent.own 2 S1722 v1721 s_l1.1, Ent.own 2 S1724 v1723 s_l1.2.1, Ent.blk b4 29 #[v1], Ent.snap w0 w0.heap.size] w) (fun s_j3 => M.spec_FinishOrder_j3 s_l2 s_j3 = some t2506) ?_ ?_
                · refine CW.draw Try_mixed ?_
                  have hL := hL.call (Mod.drew _)
                  refine DW.pre (fuel := 0) (fin := ((((((((((((((((((Array.replicate 17 false).setIfInBounds 0 true).setIfInBounds 1 true).setIfInBounds 2 true).setIfInBounds 3 true).setIfInBounds 4 true).setIfInBounds 5 true).setIfInBounds 6 true).setIfInBounds 7 true).setIfInBounds 8 true).setIfInBounds 9 true).setIfInBounds 10 true).setIfInBounds 11 true).setIfInBounds 12 true).setIfInBounds 13 true).setIfInBounds 14 true).setIfInBounds 15 true).setIfInBounds 16 true)) (C := fun w' => Mod None_ _ w') [0, 1, 2, 3, 4, 5, 6, 7, 8, 9, 10, 11, 12, 13, 14, 15, 16] (Mod.refl _ _) (by kernel_rfl) (by kernel_rfl) ?_
                  refine QW.cons rfl (QP.val (v := (.int .i64 s_l2)) rfl (fun w' hm' => x_mv f2551) ?_)
                  refine QW.cons rfl (QP.val (v := (.bool (decide (0 < s_l2)))) rfl (fun w' hm' => x_gtr rfl rfl) ?_)
                  refine QW.cons rfl (QP.val (v := (.bool (decide (0 < s_l2)))) rfl (fun w' hm' => x_move) ?_)
                  refine ifB_elim hm (fun hb2580 hm => ?_) (fun hb2580 hm => ?_)
                  · refine QW.cons rfl (QP.yes' rfl rfl hb2580 (QP.val (v := (.pointer (some ⟨b4, 0, none⟩))) rfl (fun w' hm' => x_fieldAddr (fsz := 1) 0 0 0 Try.underlying29 rfl Try_T27 rfl f2546 rfl) ?_))
                    refine QW.cons rfl (QP.yes' rfl rfl hb2580 (QP.val (v := v1) rfl (fun w' hm' => x_load1 Try.underlying27 rfl rfl ((hL.call hm').cellB 3 rfl rfl)) ?_))
                    refine QW.cons rfl (QP.yes' rfl rfl hb2580 (QP.val (v := v1721) rfl (fun w' hm' => x_mv f2547) ?_))
                    refine QW.cons rfl (QP.yes' rfl rfl hb2580 (QP.val (v := (.int .i64 s_l2)) rfl (fun w' hm' => x_mv f2551) ?_))
                    refine QW.cons rfl (QP.yes' rfl rfl hb2580 (QP.val (v := (.int .i64 (w64 (s_l2 - 1)))) rfl (fun w' hm' => x_sub rfl rfl) ?_))
                    obtain ⟨x2581, ha2582, hm⟩ := bndE hm
                    obtain ⟨hz2583, ha2587⟩ := idxE ha2582
                    obtain ⟨b2584, q2585, hix2586⟩ := rdL_ix (hL.rdO 1 rfl) hz2583 ha2587
                    refine QW.cons rfl (QP.yes' rfl rfl hb2580 (QP.val (v := (.pointer (some ⟨b2584, q2585, none⟩))) rfl (fun w' hm' => x_ix Try.underlying53 Try_T2 rfl rfl hix2586) ?_))
                    refine QW.cons rfl (QP.yes' rfl rfl hb2580 (QP.val (v := (.int .i64 x2581)) rfl (fun w' hm' => x_load1 Try.underlying2 rfl rfl (rdF_cells ((hL.call hm').rdO 1 rfl) hix2586 ha2587 0 _ rfl)) ?_))
                    obtain ⟨x2588, ha2589, hm⟩ := bndE hm
                    obtain ⟨hz2590, ha2594⟩ := idxE ha2589
                    obtain ⟨b2591, q2592, hix2593⟩ := rdL_ix (hL.rdS 4 rfl h2) hz2590 ha2594
                    refine QW.cons rfl (QP.yes' rfl rfl hb2580 (QP.val (v := (.pointer (some ⟨b2591, q2592, none⟩))) rfl (fun w' hm' => x_ix Try.underlying27 Try_T88 rfl rfl hix2593) ?_))
                    refine QW.cons rfl (QP.yes' rfl rfl hb2580 (QP.val (v := (.pointer (some ⟨b2591, q2592 + 2, none⟩))) rfl (fun w' hm' => x_fieldAddr (fsz := 1) q2592 2 (q2592 + 2) Try.underlying88 rfl Try_T2 rfl rfl rfl) ?_))
                    refine QW.cons rfl (QP.yes' rfl rfl hb2580 (QP.val (v := (.int .i64 x2588.Time)) rfl (fun w' hm' => x_load1 Try.underlying2 rfl rfl (rdF_cells ((hL.call hm').rdS 4 rfl h2) hix2593 ha2594 2 _ rfl)) ?_))
                    refine QW.cons rfl (QP.yes' rfl rfl hb2580 (QP.val (v := (.pointer (some ⟨b2401, 2, none⟩))) rfl (fun w' hm' => x_fieldAddr (fsz := 1) 0 2 2 Try.underlying88 rfl Try_T2 rfl f2550 rfl) ?_))
                    refine QW.cons rfl (QP.yes' rfl rfl hb2580 (QP.val (v := (.int .i64 x2393.Time)) rfl (fun w' hm' => x_load1 Try.underlying2 rfl rfl ((hL.call hm').cellB 0 rfl rfl)) ?_))
                    refine QW.cons rfl (QP.yes' rfl rfl hb2580 (QP.val (v := (.bool (decide (x2393.Time < x2588.Time)))) rfl (fun w' hm' => x_gtr rfl rfl) ?_))
                    refine QW.cons rfl (QP.val (v := (.bool (decide (x2393.Time < x2588.Time)))) rfl (fun w' hm' => x_pickT' rfl hb2580 rfl) ?_)
                    refine QW.nil ?_
                    intro wd2595 hmod
                    have hL := hL.call hmod
                    refine DW.done (by kernel_rfl) ?_
                    exact ⟨decide (x2393.Time < x2588.Time), hm, ⟨f2545, f2546, f2547, f2548, f2549, f2550, f2551, rfl, hL⟩⟩
                  · refine QW.cons rfl (QP.no' rfl rfl hb2580 rfl ?_)
                    refine QW.cons rfl (QP.no' rfl rfl hb2580 rfl ?_)
                    refine QW.cons rfl (QP.no' rfl rfl hb2580 rfl ?_)
                    refine QW.cons rfl (QP.no' rfl rfl hb2580 rfl ?_)
                    refine QW.cons rfl (QP.no' rfl rfl hb2580 rfl ?_)
                    refine QW.cons rfl (QP.no' rfl rfl hb2580 rfl ?_)
                    refine QW.cons rfl (QP.no' rfl rfl hb2580 rfl ?_)
                    refine QW.cons rfl (QP.no' rfl rfl hb2580 rfl ?_)
                    refine QW.cons rfl (QP.no' rfl rfl hb2580 rfl ?_)
                    refine QW.cons rfl (QP.no' rfl rfl hb2580 rfl ?_)
                    refine QW.cons rfl (QP.no' rfl rfl hb2580 rfl ?_)
                    refine QW.cons rfl (QP.no' rfl rfl hb2580 rfl ?_)
                    refine QW.cons rfl (QP.no' rfl rfl hb2580 rfl ?_)
                    refine QW.cons rfl (QP.val (v := (.bool false)) rfl (fun w' hm' => x_pickF' rfl hb2580 rfl) ?_)
                    refine QW.nil ?_
                    intro wd2596 hmod
                    have hL := hL.call hmod
                    refine DW.done (by kernel_rfl) ?_
                    exact ⟨false, hm, ⟨f2545, f2546, f2547, f2548, f2549, f2550, f2551, rfl, hL⟩⟩
                · intro s_j3 F2569 wd2570 hJ hm
                  unfold M.spec_FinishOrder_j3 at hm
                  obtain ⟨f2571, f2572, f2573, f2574, f2575, f2576, f2577, f2578, hL⟩ := hJ
                  refine CW.condM (t := s_j3) f2578 hm (fun hb2579 hm => ?_) (fun hb2579 hm => ?_)
                  · refine CW.skip ?_
                    refine CW.block ?_
                    refine CW.regionL ?_
                    refine OW.cons (OP.val (v := (.int .i64 s_l2)) rfl (x_mv f2577) ?_)
                    refine OW.cons (OP.val (v := (.int .i64 (w64 (s_l2 - 1)))) rfl (x_sub rfl rfl) ?_)
                    refine OW.cons (OP.val (v := (.int .i64 (w64 (s_l2 - 1)))) rfl (x_assign) ?_)
                    refine OW.nil ?_
                    obtain rfl := Option.some.inj hm
                    exact ⟨_, rfl, ⟨f2571, f2572, f2573, f2574, f2575, f2576, rfl, hL⟩⟩
                  · refine CW.exit ?_
                    refine XJ.hit ?_
                    obtain rfl := Option.some.inj hm
                    exact ⟨_, rfl, ⟨f2571, f2572, f2573, f2574, f2575, f2576, f2577, hL⟩⟩
          · intro s_j2 F2386 wd2387 hJ hm
            unfold M.spec_FinishOrder_j2 at hm
            obtain ⟨v2382, S2383, v2384, S2385, f2388, f2389, f2390, f2391, f2392, hL⟩ := hJ
            exact ⟨(s_j2.1, s_j2.2), hm, ⟨v2382, S2383, v2384, S2385, f2388, f2389, f2390, f2391, f2392, hL⟩⟩
        · intro s_j1 F2171 wd2172 hJ hm
          unfold M.spec_FinishOrder_j1 at hm
          obtain ⟨v2167, S2168, v2169, S2170, f2173, f2174, f2175, f2176, f2177, hL⟩ := hJ
          refine CW.regionL ?_
          refine OW.cons (OP.val (v := (.int .i64 s_l1.2.2)) rfl (x_mv f2177) ?_)
          refine OW.cons (OP.val (v := (.int .i64 (w64 (s_l1.2.2 + 1)))) rfl (x_add rfl rfl) ?_)
          refine OW.cons (OP.val (v := (.int .i64 (w64 (s_l1.2.2 + 1)))) rfl (x_assign) ?_)
          refine OW.nil ?_
          obtain rfl := Option.some.inj hm
          exact ⟨_, rfl, ⟨v2167, S2168, v2169, S2170, f2173, f2174, f2175, f2176, rfl, hL⟩⟩
      · refine CW.exit ?_
        refine XJ.hit ?_
        obtain rfl := Option.some.inj hm
        exact ⟨_, rfl, ⟨v1721, S1722, v1723, S1724, f1742, f1743, f1744, f1745, f1746, hL⟩⟩

theorem M.impl_FinishOrder_1_ok (w0 : World) (a0 : Int) (a1 : Int) (a2 : Race) {v3 : Value} {b1 : Nat} (h4 : rdL (· < w0.heap.size) w0 v3 a2.Finishes) (hb2 : bxA (· < w0.heap.size) w0 b1 29 #[v3]) {r : Int} (hm : M.impl_FinishOrder_1 a0 a1 a2 = some r) :
    Calls Try.prog 79 #[(.int .i64 a0), (.int .i64 a1), (.pointer (some ⟨b1, 0, none⟩))] w0 fun e w' => e = .returned (.int .i64 r) ∧ Fresh w0 w' [] := by
  unfold M.impl_FinishOrder_1 at hm
  refine calls_CW (args := [(.int .i64 a0), (.int .i64 a1), (.pointer (some ⟨b1, 0, none⟩))]) Try.func79 rfl rfl rfl ?_
  have hL := Hp.start w0
  refine CW.seq ?_
  refine CW.regionL ?_
  refine OW.cons (OP.val (v := (.int .i64 0)) rfl (x_assign) ?_)
  refine OW.nil ?_
  refine CW.seq ?_
  refine CW.drawH (fun w' => Hp w0 [Ent.snap w0 w0.heap.size] w') Try_mixed ?_
  have hL := hL.call (Mod.drew _)
  have hS := (hL.sel [0] (by decide) rfl)
  refine DH.take 0 rfl (by kernel_rfl) (by kernel_rfl) (by kernel_rfl) rfl rfl hS (YH.val (v := (.pointer (some ⟨b1, 0, none⟩))) (fun w' hS' => x_fieldAddr (fsz := 1) 0 0 0 Try.underlying29 rfl Try_T27 rfl rfl rfl)) ?_
  have hS := (hL.sel [0] (by decide) rfl)
  refine DH.take 1 rfl (by kernel_rfl) (by kernel_rfl) (by kernel_rfl) rfl rfl hS (YH.val (v := v3) (fun w' hS' => x_load1 Try.underlying27 rfl rfl ((hS'.bxS 0 rfl hb2).cell rfl))) ?_
  have hS := (hL.sel [0] (by decide) rfl)
  refine DH.take 2 rfl (by kernel_rfl) (by kernel_rfl) (by kernel_rfl) rfl rfl hS (YH.val (v := (.int .i64 a0)) (fun w' hS' => x_move)) ?_
  have hS := (hL.sel [0] (by decide) rfl)
  obtain ⟨x25, ha26, hm⟩ := bndE hm
  obtain ⟨hz27, ha31⟩ := idxE ha26
  obtain ⟨b28, q29, hix30⟩ := rdL_ix (hL.rdS 0 rfl h4) hz27 ha31
  refine DH.take 3 rfl (by kernel_rfl) (by kernel_rfl) (by kernel_rfl) rfl rfl hS (YH.val (v := (.pointer (some ⟨b28, q29, none⟩))) (fun w' hS' => x_ix Try.underlying27 Try_T88 rfl rfl hix30)) ?_
  have hS := (hL.sel [0] (by decide) rfl)
  refine DH.take 4 rfl (by kernel_rfl) (by kernel_rfl) (by kernel_rfl) rfl rfl hS (YH.val (v := (.agg #[(.int .i64 x25.Boat), (.int .i64 x25.Code), (.int .i64 x25.Time)])) (fun w' hS' => x_loadN (cs := [(.int .i64 x25.Boat), (.int .i64 x25.Code), (.int .i64 x25.Time)]) Try.underlying88 Try_T88 rfl rfl (rdF_cells (hS'.rdS 0 rfl h4) hix30 ha31))) ?_
  have hS := (hL.sel [0] (by decide) rfl)
  refine DH.take 5 rfl (by kernel_rfl) (by kernel_rfl) (by kernel_rfl) rfl rfl hS (YH.val (v := (.pointer (some ⟨b1, 0, none⟩))) (fun w' hS' => x_fieldAddr (fsz := 1) 0 0 0 Try.underlying29 rfl Try_T27 rfl rfl rfl)) ?_
  have hS := (hL.sel [0] (by decide) rfl)
  refine DH.take 6 rfl (by kernel_rfl) (by kernel_rfl) (by kernel_rfl) rfl rfl hS (YH.val (v := v3) (fun w' hS' => x_load1 Try.underlying27 rfl rfl ((hS'.bxS 0 rfl hb2).cell rfl))) ?_
  have hS := (hL.sel [0] (by decide) rfl)
  refine DH.take 7 rfl (by kernel_rfl) (by kernel_rfl) (by kernel_rfl) rfl rfl hS (YH.val (v := (.int .i64 a1)) (fun w' hS' => x_move)) ?_
  have hS := (hL.sel [0] (by decide) rfl)
  obtain ⟨x32, ha33, hm⟩ := bndE hm
  obtain ⟨hz34, ha38⟩ := idxE ha33
  obtain ⟨b35, q36, hix37⟩ := rdL_ix (hL.rdS 0 rfl h4) hz34 ha38
  refine DH.take 8 rfl (by kernel_rfl) (by kernel_rfl) (by kernel_rfl) rfl rfl hS (YH.val (v := (.pointer (some ⟨b35, q36, none⟩))) (fun w' hS' => x_ix Try.underlying27 Try_T88 rfl rfl hix37)) ?_
  have hS := (hL.sel [0] (by decide) rfl)
  refine DH.take 9 rfl (by kernel_rfl) (by kernel_rfl) (by kernel_rfl) rfl rfl hS (YH.val (v := (.agg #[(.int .i64 x32.Boat), (.int .i64 x32.Code), (.int .i64 x32.Time)])) (fun w' hS' => x_loadN (cs := [(.int .i64 x32.Boat), (.int .i64 x32.Code), (.int .i64 x32.Time)]) Try.underlying88 Try_T88 rfl rfl (rdF_cells (hS'.rdS 0 rfl h4) hix37 ha38))) ?_
  refine DH.node (listed' := #[true, true, true, true, true, true, true, true, true, true, true, true, true, true]) (fuel' := 0) (fun (F : Fr) (w : World) => ∃ (b60 : Nat) (b61 : Nat), F 5 = (.int .i64 0) ∧ F 6 = (.pointer (some ⟨b61, 0, none⟩)) ∧ F 7 = (.pointer (some ⟨b60, 0, none⟩)) ∧ Hp w0 [Ent.blk b60 88 #[(.int .i64 x32.Boat), (.int .i64 x32.Code), (.int .i64 x32.Time)], Ent.blk b61 88 #[(.int .i64 x25.Boat), (.int .i64 x25.Code), (.int .i64 x25.Time)], Ent.snap w0 w0.heap.size] w) ?_ (fun hN55 => ?_)
  · intro F68 wd69 hJ
    obtain ⟨b60, b61, f70, f71, f72, hL⟩ := hJ
    refine DH.done (by kernel_rfl) ?_
    refine CW.seq ?_
    refine CW.seq ?_
    refine CW.regionL ?_
    refine OW.cons (OP.val (v := (.pointer (some ⟨b61, 1, none⟩))) rfl (x_fieldAddr (fsz := 1) 0 1 1 Try.underlying88 rfl Try_T2 rfl f71 rfl) ?_)
    refine OW.cons (OP.val (v := (.int .i64 x25.Code)) rfl (x_load1 Try.underlying2 rfl rfl (hL.cellB 1 rfl rfl)) ?_)
    refine OW.cons (OP.val (v := (.bool (x25.Code == 0))) rfl (x_eql rfl rfl) ?_)
    refine OW.cons (OP.val (v := (.pointer (some ⟨b60, 1, none⟩))) rfl (x_fieldAddr (fsz := 1) 0 1 1 Try.underlying88 rfl Try_T2 rfl f72 rfl) ?_)
    refine OW.cons (OP.val (v := (.int .i64 x32.Code)) rfl (x_load1 Try.underlying2 rfl rfl (hL.cellB 0 rfl rfl)) ?_)
    refine OW.cons (OP.val (v := (.bool (x32.Code == 0))) rfl (x_eql rfl rfl) ?_)
    refine OW.cons (OP.val (v := (.bool ((x25.Code == 0) != (x32.Code == 0)))) rfl (x_neqB Try.underlying4 rfl rfl) ?_)
    refine OW.nil ?_
    refine CW.condM (t := (x25.Code == 0) != (x32.Code == 0)) rfl hm (fun hb73 hm => ?_) (fun hb73 hm => ?_)
    · refine CW.seq ?_
      refine CW.regionL ?_
      refine OW.cons (OP.val (v := (.pointer (some ⟨b61, 1, none⟩))) rfl (x_fieldAddr (fsz := 1) 0 1 1 Try.underlying88 rfl Try_T2 rfl f71 rfl) ?_)
      refine OW.cons (OP.val (v := (.int .i64 x25.Code)) rfl (x_load1 Try.underlying2 rfl rfl (hL.cellB 1 rfl rfl)) ?_)
      refine OW.cons (OP.val (v := (.int .i64 (min x25.Code 1))) rfl (x_min2 rfl rfl) ?_)
      refine OW.cons (OP.val (v := (.pointer (some ⟨b60, 1, none⟩))) rfl (x_fieldAddr (fsz := 1) 0 1 1 Try.underlying88 rfl Try_T2 rfl f72 rfl) ?_)
      refine OW.cons (OP.val (v := (.int .i64 x32.Code)) rfl (x_load1 Try.underlying2 rfl rfl (hL.cellB 0 rfl rfl)) ?_)
      refine OW.cons (OP.val (v := (.int .i64 (min x32.Code 1))) rfl (x_min2 rfl rfl) ?_)
      refine OW.cons (OP.val (v := (.int .i64 (w64 ((min x25.Code 1) - (min x32.Code 1))))) rfl (x_sub rfl rfl) ?_)
      refine OW.cons (OP.val (v := (.int .i64 (w64 ((min x25.Code 1) - (min x32.Code 1))))) rfl (x_assign) ?_)
      refine OW.nil ?_
      refine CW.ret ?_
      obtain rfl := Option.some.inj hm
      exact RR1 rfl rfl ⟨rfl, hL.fresh 2 rfl [] (by decide) (by decide) rfl⟩
    · refine CW.skip ?_
      refine CW.seq ?_
      refine CW.regionL ?_
      refine OW.cons (OP.val (v := (.pointer (some ⟨b61, 2, none⟩))) rfl (x_fieldAddr (fsz := 1) 0 2 2 Try.underlying88 rfl Try_T2 rfl f71 rfl) ?_)
      refine OW.cons (OP.val (v := (.int .i64 x25.Time)) rfl (x_load1 Try.underlying2 rfl rfl (hL.cellB 1 rfl rfl)) ?_)
      refine OW.cons (OP.val (v := (.pointer (some ⟨b60, 2, none⟩))) rfl (x_fieldAddr (fsz := 1) 0 2 2 Try.underlying88 rfl Try_T2 rfl f72 rfl) ?_)
      refine OW.cons (OP.val (v := (.int .i64 x32.Time)) rfl (x_load1 Try.underlying2 rfl rfl (hL.cellB 0 rfl rfl)) ?_)
      refine OW.cons (OP.val (v := (.int .i64 (w64 (x25.Time - x32.Time)))) rfl (x_sub rfl rfl) ?_)
      refine OW.cons (OP.val (v := (.int .i64 (w64 (x25.Time - x32.Time)))) rfl (x_assign) ?_)
      refine OW.nil ?_
      refine CW.ret ?_
      obtain rfl := Option.some.inj hm
      exact RR1 rfl rfl ⟨rfl, hL.fresh 2 rfl [] (by decide) (by decide) rfl⟩
  refine DH.node (listed' := #[true, true, true, true, true, true, true, true, true, true, true, true, true, false]) (fuel' := 1) (fun (F : Fr) (w : World) => ∃ (b62 : Nat) (b63 : Nat), F 5 = (.int .i64 0) ∧ F 6 = (.pointer (some ⟨b63, 0, none⟩)) ∧ F 7 = (.pointer (some ⟨b62, 0, none⟩)) ∧ F 17 = (.agg #[(.int .i64 x32.Boat), (.int .i64 x32.Code), (.int .i64 x32.Time)]) ∧ Hp w0 [Ent.blk b62 88 #[(.int .i64 0), (.int .i64 0), (.int .i64 0)], Ent.blk b63 88 #[(.int .i64 x25.Boat), (.int .i64 x25.Code), (.int .i64 x25.Time)], Ent.snap w0 w0.heap.size] w) ?_ (fun hN56 => ?_)
  · intro F74 wd75 hJ
    obtain ⟨b62, b63, f76, f77, f78, f79, hL⟩ := hJ
    refine DH.only 13 rfl (by kernel_rfl) (S_storeN (l := [(.int .i64 x32.Boat), (.int .i64 x32.Code), (.int .i64 x32.Time)]) (cs' := #[(.int .i64 x32.Boat), (.int .i64 x32.Code), (.int .i64 x32.Time)]) hL 0 rfl Try_T88 f78 rfl (List.forall_mem_cons.2 ⟨rfl, (List.forall_mem_cons.2 ⟨rfl, (List.forall_mem_cons.2 ⟨rfl, (fun _ h => by cases h)⟩)⟩)⟩) f79 (Nat.le_of_ble_eq_true rfl) rfl ?_)
    intro wd80 hL
    refine ⟨(hL.sel [2] (by decide) rfl), ?_⟩
    exact DH.relist (listed' := #[true, true, true, true, true, true, true, true, true, true, true, true, true, true]) (by kernel_rfl) (hN55 _ _ ⟨b62, b63, f76, f77, f78, hL⟩)
  refine DH.node (listed' := #[true, true, true, true, true, true, true, true, true, true, true, true, false, false]) (fuel' := 2) (fun (F : Fr) (w : World) => ∃ (b64 : Nat) (b65 : Nat), F 5 = (.int .i64 0) ∧ F 6 = (.pointer (some ⟨b65, 0, none⟩)) ∧ F 7 = (.pointer (some ⟨b64, 0, none⟩)) ∧ F 12 = (.agg #[(.int .i64 x25.Boat), (.int .i64 x25.Code), (.int .i64 x25.Time)]) ∧ F 17 = (.agg #[(.int .i64 x32.Boat), (.int .i64 x32.Code), (.int .i64 x32.Time)]) ∧ Hp w0 [Ent.blk b64 88 #[(.int .i64 0), (.int .i64 0), (.int .i64 0)], Ent.blk b65 88 #[(.int .i64 0), (.int .i64 0), (.int .i64 0)], Ent.snap w0 w0.heap.size] w) ?_ (fun hN57 => ?_)
  · intro F81 wd82 hJ
    obtain ⟨b64, b65, f83, f84, f85, f86, f87, hL⟩ := hJ
    refine DH.only 12 rfl (by kernel_rfl) (S_storeN (l := [(.int .i64 x25.Boat), (.int .i64 x25.Code), (.int .i64 x25.Time)]) (cs' := #[(.int .i64 x25.Boat), (.int .i64 x25.Code), (.int .i64 x25.Time)]) hL 1 rfl Try_T88 f84 rfl (List.forall_mem_cons.2 ⟨rfl, (List.forall_mem_cons.2 ⟨rfl, (List.forall_mem_cons.2 ⟨rfl, (fun _ h => by cases h)⟩)⟩)⟩) f86 (Nat.le_of_ble_eq_true rfl) rfl ?_)
    intro wd88 hL
    refine ⟨(hL.sel [2] (by decide) rfl), ?_⟩
    exact DH.relist (listed' := #[true, true, true, true, true, true, true, true, true, true, true, true, true, false]) (by kernel_rfl) (hN56 _ _ ⟨b64, b65, f83, f84, f85, f87, hL⟩)
  refine DH.node (listed' := #[true, true, true, true, true, true, true, true, true, true, true, false, false, false]) (fuel' := 3) (fun (F : Fr) (w : World) => ∃ (b66 : Nat), F 5 = (.int .i64 0) ∧ F 6 = (.pointer (some ⟨b66, 0, none⟩)) ∧ F 12 = (.agg #[(.int .i64 x25.Boat), (.int .i64 x25.Code), (.int .i64 x25.Time)]) ∧ F 17 = (.agg #[(.int .i64 x32.Boat), (.int .i64 x32.Code), (.int .i64 x32.Time)]) ∧ Hp w0 [Ent.blk b66 88 #[(.int .i64 0), (.int .i64 0), (.int .i64 0)], Ent.snap w0 w0.heap.size] w) ?_ (fun hN58 => ?_)
  · intro F89 wd90 hJ
    obtain ⟨b66, f91, f92, f93, f94, hL⟩ := hJ
    refine DH.only 11 rfl (by kernel_rfl) (S_alloc (cs := #[(.int .i64 0), (.int .i64 0), (.int .i64 0)]) hL Try_T88 rfl rfl ?_)
    intro wd95 b96 hL
    refine ⟨(hL.sel [2] (by decide) rfl), ?_⟩
    exact DH.relist (listed' := #[true, true, true, true, true, true, true, true, true, true, true, true, false, false]) (by kernel_rfl) (hN57 _ _ ⟨b96, b66, f91, f92, rfl, f93, f94, hL⟩)
  refine DH.node (listed' := #[true, true, true, true, true, true, true, true, true, true, false, true, false, false]) (fuel' := 3) (fun (F : Fr) (w : World) => ∃ (b67 : Nat), F 5 = (.int .i64 0) ∧ F 7 = (.pointer (some ⟨b67, 0, none⟩)) ∧ F 12 = (.agg #[(.int .i64 x25.Boat), (.int .i64 x25.Code), (.int .i64 x25.Time)]) ∧ F 17 = (.agg #[(.int .i64 x32.Boat), (.int .i64 x32.Code), (.int .i64 x32.Time)]) ∧ Hp w0 [Ent.blk b67 88 #[(.int .i64 0), (.int .i64 0), (.int .i64 0)], Ent.snap w0 w0.heap.size] w) ?_ (fun hN59 => ?_)
  · intro F97 wd98 hJ
    obtain ⟨b67, f99, f100, f101, f102, hL⟩ := hJ
    refine DH.only 10 rfl (by kernel_rfl) (S_alloc (cs := #[(.int .i64 0), (.int .i64 0), (.int .i64 0)]) hL Try_T88 rfl rfl ?_)
    intro wd103 b104 hL
    refine ⟨(hL.sel [2] (by decide) rfl), ?_⟩
    have hL := hL.sel [1, 0, 2] (by decide) rfl
    exact DH.relist (listed' := #[true, true, true, true, true, true, true, true, true, true, true, true, false, false]) (by kernel_rfl) (hN57 _ _ ⟨b67, b104, f99, rfl, f100, f101, f102, hL⟩)
  refine DH.all (rs := [10, 11]) (by kernel_rfl) (by simp) ?_
  intro i105 hi106
  simp only [List.mem_cons, List.not_mem_nil, or_false] at hi106
  rcases hi106 with rfl | rfl
  · refine ⟨_, rfl, ?_⟩
    refine S_alloc (cs := #[(.int .i64 0), (.int .i64 0), (.int .i64 0)]) hL Try_T88 rfl rfl ?_
    intro wd107 b108 hL
    refine ⟨(hL.sel [1] (by decide) rfl), ?_⟩
    exact DH.relist (listed' := #[true, true, true, true, true, true, true, true, true, true, true, false, false, false]) (by kernel_rfl) (hN58 _ _ ⟨b108, rfl, rfl, rfl, rfl, hL⟩)
  · refine ⟨_, rfl, ?_⟩
    refine S_alloc (cs := #[(.int .i64 0), (.int .i64 0), (.int .i64 0)]) hL Try_T88 rfl rfl ?_
    intro wd109 b110 hL
    refine ⟨(hL.sel [1] (by decide) rfl), ?_⟩
    exact DH.relist (listed' := #[true, true, true, true, true, true, true, true, true, true, false, true, false, false]) (by kernel_rfl) (hN59 _ _ ⟨b110, rfl, rfl, rfl, rfl, hL⟩)

theorem M.impl_sign_ok (w0 : World) (a0 : Int) {r : Int} (hm : M.impl_sign a0 = some r) :
    Calls Try.prog 94 #[(.int .i64 a0)] w0 fun e w' => e = .returned (.int .i64 r) ∧ Fresh w0 w' [] := by
  unfold M.impl_sign at hm
  refine calls_CW (args := [(.int .i64 a0)]) Try.func94 rfl rfl rfl ?_
  have hL := Hp.start w0
  refine CW.seq ?_
  refine CW.regionL ?_
  refine OW.cons (OP.val (v := (.int .i64 0)) rfl (x_assign) ?_)
  refine OW.nil ?_
  refine CW.seq ?_
  refine CW.regionL ?_
  refine OW.cons (OP.val (v := (.int .i64 a0)) rfl (x_move) ?_)
  refine OW.cons (OP.val (v := (.int .i64 (min 1 a0))) rfl (x_min2 rfl rfl) ?_)
  refine OW.cons (OP.val (v := (.int .i64 (max (-1) (min 1 a0)))) rfl (x_max2 rfl rfl) ?_)
  refine OW.cons (OP.val (v := (.int .i64 (max (-1) (min 1 a0)))) rfl (x_assign) ?_)
  refine OW.nil ?_
  refine CW.ret ?_
  obtain rfl := Option.some.inj hm
  exact RR1 rfl rfl ⟨rfl, hL.fresh 0 rfl [] (by decide) (by decide) rfl⟩

theorem M.impl_sortedIndices_1_ok (w0 : World) (a0 : Int) (a1 : Int) (a2 : Int → Int → Option Int) {fk3 : FuncId} {cp4 : List Value} {b1 : Nat} (hq5 : FnQ Try.prog fk3 cp4 (· < w0.heap.size) w0 (fun yw yvs yv => ∃ (y0 : Int) (y1 : Int) (yr : Int), yvs = [(.int .i64 y0), (.int .i64 y1)] ∧ a2 y0 y1 = some yr ∧ yv = (.int .i64 yr))) (hb2 : bxA (· < w0.heap.size) w0 b1 102 #[(.func (.func fk3) #[] cp4.toArray)]) {r : Int} (hm : M.impl_sortedIndices_1 a0 a1 a2 = some r) :
    Calls Try.prog 93 #[(.int .i64 a0), (.int .i64 a1), (.pointer (some ⟨b1, 0, none⟩))] w0 fun e w' => e = .returned (.int .i64 r) ∧ Fresh w0 w' [] := by
  unfold M.impl_sortedIndices_1 at hm
  refine calls_CW (args := [(.int .i64 a0), (.int .i64 a1), (.pointer (some ⟨b1, 0, none⟩))]) Try.func93 rfl rfl rfl ?_
  have hL := Hp.start w0
  refine CW.seq ?_
  refine CW.regionL ?_
  refine OW.cons (OP.val (v := (.int .i64 0)) rfl (x_assign) ?_)
  refine OW.nil ?_
  refine CW.seq ?_
  refine CW.regionL ?_
  refine OW.cons (OP.val (v := (.func (.func fk3) #[] cp4.toArray)) rfl (x_load1 Try.underlying102 rfl rfl ((hL.bxS 0 rfl hb2).cell rfl)) ?_)
  refine OW.cons (OP.val (v := (.int .i64 a0)) rfl (x_move) ?_)
  refine OW.cons (OP.val (v := (.int .i64 a1)) rfl (x_move) ?_)
  obtain ⟨x6, hx7, hm⟩ := bndE hm
  refine OW.cons (OP.call rfl (x_callV (vs := [(.int .i64 a0), (.int .i64 a1)]) (cap := cp4) hq5.1 rfl ⟨rfl, rfl, trivial⟩) (hq5.2 _ (hL.agS 0 rfl) [(.int .i64 a0), (.int .i64 a1)] _ ⟨a0, a1, x6, rfl, hx7, rfl⟩) ?_)
  rintro e8 wd9 ⟨rfl, hF10⟩
  refine ⟨_, rfl, ?_⟩
  have hL := hL.pushAll hF10
  simp only [List.cons_append, List.nil_append, List.set_cons_zero, List.set_cons_succ] at hL
  obtain ⟨x11, hx12, hm⟩ := bndE hm
  refine OW.cons (OP.call rfl (x_call (vs := [(.int .i64 x6)]) Try_C94 ⟨rfl, trivial⟩) (M.impl_sign_ok _ x6 hx12) ?_)
  rintro e13 wd14 ⟨rfl, hF15⟩
  refine ⟨_, rfl, ?_⟩
  have hL := hL.pushAll hF15
  simp only [List.cons_append, List.nil_append, List.set_cons_zero, List.set_cons_succ] at hL
  refine OW.cons (OP.val (v := (.int .i64 x11)) rfl (x_assign) ?_)
  refine OW.nil ?_
  refine CW.ret ?_
  obtain rfl := Option.some.inj hm
  exact RR1 rfl rfl ⟨rfl, hL.fresh 0 rfl [] (by decide) (by decide) rfl⟩

theorem M.slices_insertionSortCmpFunc_int64__ok (w0 : World) {E4 : TypeId} {S2 : Nat → Prop} {v1 : Value} (a0 : List Int) (he3 : (Ent.own E4 S2 v1 a0).H w0) (a1 : Int) (a2 : Int) (a3 : Int → Int → Option Int) {fk5 : FuncId} {cp6 : List Value} (hq7 : FnQ Try.prog fk5 cp6 (fun k => k < w0.heap.size ∧ ¬ (Ent.own E4 S2 v1 a0).S k) w0 (fun yw yvs yv => ∃ (y0 : Int) (y1 : Int) (yr : Int), yvs = [(.int .i64 y0), (.int .i64 y1)] ∧ a3 y0 y1 = some yr ∧ yv = (.int .i64 yr))) {r : (Unit) × (List Int)} (hm : M.slices_insertionSortCmpFunc_int64_ a0 a1 a2 a3 = some r) :
    Calls Try.prog 97 #[v1, (.int .i64 a1), (.int .i64 a2), (.func (.func fk5) #[] cp6.toArray)] w0 fun e w' => ∃ (ioS : Nat → Prop), e = .returned (.tuple #[]) ∧ Mut w0 w' (Ent.own E4 S2 v1 a0).S [Ent.own E4 ioS v1 r.2] := by
  unfold M.slices_insertionSortCmpFunc_int64_ at hm
  refine calls_CW (args := [v1, (.int .i64 a1), (.int .i64 a2), (.func (.func fk5) #[] cp6.toArray)]) Try.func97 rfl rfl rfl ?_
  have hL := Hp.startIO he3
  refine CW.seq ?_
  refine CW.regionL ?_
  refine OW.cons (OP.val (v := (.int .i64 a1)) rfl (x_move) ?_)
  refine OW.cons (OP.val (v := (.int .i64 (w64 (a1 + 1)))) rfl (x_add rfl rfl) ?_)
  refine OW.cons (OP.val (v := (.int .i64 (w64 (a1 + 1)))) rfl (x_assign) ?_)
  refine OW.nil ?_
  obtain ⟨o814, ho815, hm⟩ := bndE hm
  refine CW.loopB (fun (s_l1 : (List Int) × Int) (F : Fr) (w : World) => ∃ (S811 : Nat → Prop), F 0 = v1 ∧ F 1 = (.int .i64 a1) ∧ F 2 = (.int .i64 a2) ∧ F 3 = (.func (.func fk5) #[] cp6.toArray) ∧ F 8 = (.int .i64 s_l1.2) ∧ Hp w0 [Ent.own E4 S811 v1 s_l1.1, Ent.frz w0 (Ent.own E4 S2 v1 a0).S] w) (fun o => outc o (fun x => some x) (fun s => M.slices_insertionSortCmpFunc_int64__a1 s) = some r) ho815 hm ⟨S2, rfl, rfl, rfl, rfl, rfl, hL⟩ ?_ ?_
  · intro s_l1 F816 wd817 hJ hm
    have hm := outcE hm
    have hm : M.slices_insertionSortCmpFunc_int64__a1 s_l1 = some r := hm
    unfold M.slices_insertionSortCmpFunc_int64__a1 at hm
    obtain ⟨S811, f818, f819, f820, f821, f822, hL⟩ := hJ
    obtain rfl := Option.some.inj hm
    exact RR0 rfl  ⟨S811, rfl, hL.mutOut 1 rfl [0] (by decide) (by decide) rfl⟩
  · intro s_l1 F823 wd824 t812 hJ hm hr813
    unfold M.slices_insertionSortCmpFunc_int64__l1 at hm
    obtain ⟨S811, f825, f826, f827, f828, f829, hL⟩ := hJ
    refine CW.seq ?_
    refine CW.seq ?_
    refine CW.regionL ?_
    refine OW.cons (OP.val (v := (.int .i64 s_l1.2)) rfl (x_mv f829) ?_)
    refine OW.cons (OP.val (v := (.int .i64 a2)) rfl (x_mv f827) ?_)
    refine OW.cons (OP.val (v := (.bool (decide (s_l1.2 < a2)))) rfl (x_lss rfl rfl) ?_)
    refine OW.nil ?_
    refine CW.condM (t := decide (s_l1.2 < a2)) rfl hm (fun hb830 hm => ?_) (fun hb830 hm => ?_)
    · refine CW.skip ?_
      refine CW.seq ?_
      refine CW.block ?_
      refine CW.seq ?_
      refine CW.regionL ?_
      refine OW.cons (OP.val (v := (.int .i64 s_l1.2)) rfl (x_mv f829) ?_)
      refine OW.cons (OP.val (v := (.int .i64 s_l1.2)) rfl (x_assign) ?_)
      refine OW.nil ?_
      obtain ⟨o1087, ho1088, hm⟩ := bndE hm
      refine CW.loopB (fun (s_l2 : (List Int) × Int) (F : Fr) (w : World) => ∃ (S1084 : Nat → Prop), F 0 = v1 ∧ F 1 = (.int .i64 a1) ∧ F 2 = (.int .i64 a2) ∧ F 3 = (.func (.func fk5) #[] cp6.toArray) ∧ F 8 = (.int .i64 s_l1.2) ∧ F 9 = (.int .i64 s_l2.2) ∧ Hp w0 [Ent.own E4 S1084 v1 s_l2.1, Ent.frz w0 (Ent.own E4 S2 v1 a0).S] w) (fun o => outc o (fun x => some (.ret x)) (fun s => M.slices_insertionSortCmpFunc_int64__a2 s_l1 s) = some t812) ho1088 hm ⟨S811, f825, f826, f827, f828, f829, rfl, hL⟩ ?_ ?_
      · intro s_l2 F1089 wd1090 hJ hm
        have hm := outcE hm
        have hm : M.slices_insertionSortCmpFunc_int64__a2 s_l1 s_l2 = some t812 := hm
        unfold M.slices_insertionSortCmpFunc_int64__a2 at hm
        obtain ⟨S1084, f1091, f1092, f1093, f1094, f1095, f1096, hL⟩ := hJ
        refine CW.regionL ?_
        refine OW.cons (OP.val (v := (.int .i64 s_l1.2)) rfl (x_mv f1095) ?_)
        refine OW.cons (OP.val (v := (.int .i64 (w64 (s_l1.2 + 1)))) rfl (x_add rfl rfl) ?_)
        refine OW.cons (OP.val (v := (.int .i64 (w64 (s_l1.2 + 1)))) rfl (x_assign) ?_)
        refine OW.nil ?_
        obtain rfl := Option.some.inj hm
        exact ⟨_, rfl, ⟨S1084, f1091, f1092, f1093, f1094, rfl, hL⟩⟩
      · intro s_l2 F1097 wd1098 t1085 hJ hm hr1086
        unfold M.slices_insertionSortCmpFunc_int64__l2 at hm
        obtain ⟨S1084, f1099, f1100, f1101, f1102, f1103, f1104, hL⟩ := hJ
        refine CW.seq ?_
        refine CW.seqJ (fun (s_j1 : Bool) (F : Fr) (w : World) => F 0 = v1 ∧ F 1 = (.int .i64 a1) ∧ F 2 = (.int .i64 a2) ∧ F 3 = (.func (.func fk5) #[] cp6.toArray) ∧ F 8 = (.int .i64 s_l1.2) ∧ F 9 = (.int .i64 s_l2.2) ∧ F 34 = (.bool s_j1) ∧ Hp w0 [Ent.own E4 S1084 v1 s_l2.1, Ent.frz w0 (Ent.own E4 S2 v1 a0).S] w) (fun s_j1 => M.slices_insertionSortCmpFunc_int64__j1 s_l2 s_j1 = some t1085) ?_ ?_
        · refine CW.draw Try_mixed ?_
          have hL := hL.call (Mod.drew _)
          refine DW.pre (fuel := 0) (fin := ((((((((((((((((((Array.replicate 17 false).setIfInBounds 0 true).setIfInBounds 1 true).setIfInBounds 2 true).setIfInBounds 3 true).setIfInBounds 4 true).setIfInBounds 5 true).setIfInBounds 6 true).setIfInBounds 7 true).setIfInBounds 8 true).setIfInBounds 9 true).setIfInBounds 10 true).setIfInBounds 11 true).setIfInBounds 12 true).setIfInBounds 13 true).setIfInBounds 14 true).setIfInBounds 15 true).setIfInBounds 16 true)) (C := fun w' => Mod None_ _ w') [0, 1, 2, 3, 4, 5, 6, 7, 8, 9, 10, 11, 12, 13, 14, 15, 16] (Mod.refl _ _) (by kernel_rfl) (by kernel_rfl) ?_
          refine QW.cons rfl (QP.val (v := (.int .i64 s_l2.2)) rfl (fun w' hm' => x_mv f1104) ?_)
          refine QW.cons rfl (QP.val (v := (.int .i64 a1)) rfl (fun w' hm' => x_mv f1100) ?_)
          refine QW.cons rfl (QP.val (v := (.bool (decide (a1 < s_l2.2)))) rfl (fun w' hm' => x_gtr rfl rfl) ?_)
          refine QW.cons rfl (QP.val (v := (.bool (decide (a1 < s_l2.2)))) rfl (fun w' hm' => x_move) ?_)
          refine ifB_elim hm (fun hb1212 hm => ?_) (fun hb1212 hm => ?_)
          · refine QW.cons rfl (QP.yes' rfl rfl hb1212 (QP.val (v := (.func (.func fk5) #[] cp6.toArray)) rfl (fun w' hm' => x_mv f1102) ?_))
            refine QW.cons rfl (QP.yes' rfl rfl hb1212 (QP.val (v := v1) rfl (fun w' hm' => x_mv f1099) ?_))
            refine QW.cons rfl (QP.yes' rfl rfl hb1212 (QP.val (v := (.int .i64 s_l2.2)) rfl (fun w' hm' => x_mv f1104) ?_))
            obtain ⟨x1213, ha1214, hm⟩ := bndE hm
            obtain ⟨hz1215, ha1219⟩ := idxE ha1214
            obtain ⟨b1216, q1217, hix1218⟩ := rdL_ix (hL.rdO 0 rfl) hz1215 ha1219
            refine QW.cons rfl (QP.yes' rfl rfl hb1212 (QP.val (v := (.pointer (some ⟨b1216, q1217, none⟩))) rfl (fun w' hm' => x_ix Try.underlying53 Try_T2 rfl rfl hix1218) ?_))
            refine QW.cons rfl (QP.yes' rfl rfl hb1212 (QP.val (v := (.int .i64 x1213)) rfl (fun w' hm' => x_load1 Try.underlying2 rfl rfl (rdF_cells ((hL.call hm').rdO 0 rfl) hix1218 ha1219 0 _ rfl)) ?_))
            refine QW.cons rfl (QP.yes' rfl rfl hb1212 (QP.val (v := v1) rfl (fun w' hm' => x_mv f1099) ?_))
            refine QW.cons rfl (QP.yes' rfl rfl hb1212 (QP.val (v := (.int .i64 s_l2.2)) rfl (fun w' hm' => x_mv f1104) ?_))
            refine QW.cons rfl (QP.yes' rfl rfl hb1212 (QP.val (v := (.int .i64 (w64 (s_l2.2 - 1)))) rfl (fun w' hm' => x_sub rfl rfl) ?_))
            obtain ⟨x1220, ha1221, hm⟩ := bndE hm
            obtain ⟨hz1222, ha1226⟩ := idxE ha1221
            obtain ⟨b1223, q1224, hix1225⟩ := rdL_ix (hL.rdO 0 rfl) hz1222 ha1226
            refine QW.cons rfl (QP.yes' rfl rfl hb1212 (QP.val (v := (.pointer (some ⟨b1223, q1224, none⟩))) rfl (fun w' hm' => x_ix Try.underlying53 Try_T2 rfl rfl hix1225) ?_))
            refine QW.cons rfl (QP.yes' rfl rfl hb1212 (QP.val (v := (.int .i64 x1220)) rfl (fun w' hm' => x_load1 Try.underlying2 rfl rfl (rdF_cells ((hL.call hm').rdO 0 rfl) hix1225 ha1226 0 _ rfl)) ?_))
            obtain ⟨x1227, hx1228, hm⟩ := bndE hm
            refine QW.cons rfl (QP.yes' rfl rfl hb1212 (QP.call (v := (.int .i64 x1227)) rfl (fun w' hm' => x_callV (vs := [(.int .i64 x1213), (.int .i64 x1220)]) (cap := cp6) hq7.1 rfl ⟨rfl, rfl, trivial⟩) (fun w' hm' => (hq7.2 w' ((hL.call hm').agZ 1 rfl) [(.int .i64 x1213), (.int .i64 x1220)] _ ⟨x1213, x1220, x1227, rfl, hx1228, rfl⟩).mono (fun e w'' h => ⟨h.1, hm'.trans h.2.mod⟩)) ?_))
            refine QW.cons rfl (QP.yes' rfl rfl hb1212 (QP.val (v := (.bool (decide (x1227 < 0)))) rfl (fun w' hm' => x_lss rfl rfl) ?_))
            refine QW.cons rfl (QP.val (v := (.bool (decide (x1227 < 0)))) rfl (fun w' hm' => x_pickT' rfl hb1212 rfl) ?_)
            refine QW.nil ?_
            intro wd1229 hmod
            have hL := hL.call hmod
            refine DW.done (by kernel_rfl) ?_
            exact ⟨decide (x1227 < 0), hm, ⟨f1099, f1100, f1101, f1102, f1103, f1104, rfl, hL⟩⟩
          · refine QW.cons rfl (QP.no' rfl rfl hb1212 rfl ?_)
            refine QW.cons rfl (QP.no' rfl rfl hb1212 rfl ?_)
            refine QW.cons rfl (QP.no' rfl rfl hb1212 rfl ?_)
            refine QW.cons rfl (QP.no' rfl rfl hb1212 rfl ?_)
            refine QW.cons rfl (QP.no' rfl rfl hb1212 rfl ?_)
            refine QW.cons rfl (QP.no' rfl rfl hb1212 rfl ?_)
            refine QW.cons rfl (QP.no' rfl rfl hb1212 rfl ?_)
            refine QW.cons rfl (QP.no' rfl rfl hb1212 rfl ?_)
            refine QW.cons rfl (QP.no' rfl rfl hb1212 rfl ?_)
            refine QW.cons rfl (QP.no' rfl rfl hb1212 rfl ?_)
            refine QW.cons rfl (QP.no' rfl rfl hb1212 rfl ?_)
            refine QW.cons rfl (QP.no' rfl rfl hb1212 rfl ?_)
            refine QW.cons rfl (QP.val (v := (.bool false)) rfl (fun w' hm' => x_pickF' rfl hb1212 rfl) ?_)
            refine QW.nil ?_
            intro wd1230 hmod
            have hL := hL.call hmod
            refine DW.done (by kernel_rfl) ?_
            exact ⟨false, hm, ⟨f1099, f1100, f1101, f1102, f1103, f1104, rfl, hL⟩⟩
        · intro s_j1 F1124 wd1125 hJ hm
          unfold M.slices_insertionSortCmpFunc_int64__j1 at hm
          obtain ⟨f1126, f1127, f1128, f1129, f1130, f1131, f1132, hL⟩ := hJ
          refine CW.condM (t := s_j1) f1132 hm (fun hb1133 hm => ?_) (fun hb1133 hm => ?_)
          · refine CW.skip ?_
            refine CW.seq ?_
            refine CW.block ?_
            refine CW.drawH (fun w' => Hp w0 [Ent.frz w0 (Ent.own E4 S2 v1 a0).S] w') Try_mixed ?_
            have hL := hL.call (Mod.drew _)
            have hS := (hL.sel [1] (by decide) rfl)
            refine DH.take 0 rfl (by kernel_rfl) (by kernel_rfl) (by kernel_rfl) rfl rfl hS (YH.val (v := v1) (fun w' hS' => x_mv f1126)) ?_
            have hS := (hL.sel [1] (by decide) rfl)
            refine DH.take 1 rfl (by kernel_rfl) (by kernel_rfl) (by kernel_rfl) rfl rfl hS (YH.val (v := (.int .i64 s_l2.2)) (fun w' hS' => x_mv f1131)) ?_
            have hS := (hL.sel [1] (by decide) rfl)
            refine DH.take 2 rfl (by kernel_rfl) (by kernel_rfl) (by kernel_rfl) rfl rfl hS (YH.val (v := v1) (fun w' hS' => x_mv f1126)) ?_
            have hS := (hL.sel [1] (by decide) rfl)
            refine DH.take 3 rfl (by kernel_rfl) (by kernel_rfl) (by kernel_rfl) rfl rfl hS (YH.val (v := (.int .i64 s_l2.2)) (fun w' hS' => x_mv f1131)) ?_
            have hS := (hL.sel [1] (by decide) rfl)
            refine DH.take 4 rfl (by kernel_rfl) (by kernel_rfl) (by kernel_rfl) rfl rfl hS (YH.val (v := (.int .i64 (w64 (s_l2.2 - 1)))) (fun w' hS' => x_sub rfl rfl)) ?_
            have hS := (hL.sel [1] (by decide) rfl)
            refine DH.take 5 rfl (by kernel_rfl) (by kernel_rfl) (by kernel_rfl) rfl rfl hS (YH.val (v := v1) (fun w' hS' => x_mv f1126)) ?_
            have hS := (hL.sel [1] (by decide) rfl)
            refine DH.take 6 rfl (by kernel_rfl) (by kernel_rfl) (by kernel_rfl) rfl rfl hS (YH.val (v := (.int .i64 s_l2.2)) (fun w' hS' => x_mv f1131)) ?_
            have hS := (hL.sel [1] (by decide) rfl)
            refine DH.take 7 rfl (by kernel_rfl) (by kernel_rfl) (by kernel_rfl) rfl rfl hS (YH.val (v := (.int .i64 (w64 (s_l2.2 - 1)))) (fun w' hS' => x_sub rfl rfl)) ?_
            have hS := (hL.sel [1] (by decide) rfl)
            obtain ⟨x1164, ha1165, hm⟩ := bndE hm
            obtain ⟨hz1166, ha1170⟩ := idxE ha1165
            obtain ⟨b1167, q1168, hix1169⟩ := rdL_ix (hL.rdO 0 rfl) hz1166 ha1170
            refine DH.take 8 rfl (by kernel_rfl) (by kernel_rfl) (by kernel_rfl) rfl rfl hS (YH.val (v := (.pointer (some ⟨b1167, q1168, none⟩))) (fun w' hS' => x_ix Try.underlying53 Try_T2 rfl rfl hix1169)) ?_
            have hS := (hL.sel [1] (by decide) rfl)
            refine DH.take 10 rfl (by kernel_rfl) (by kernel_rfl) (by kernel_rfl) rfl rfl hS (YH.val (v := v1) (fun w' hS' => x_mv f1126)) ?_
            have hS := (hL.sel [1] (by decide) rfl)
            refine DH.take 11 rfl (by kernel_rfl) (by kernel_rfl) (by kernel_rfl) rfl rfl hS (YH.val (v := (.int .i64 s_l2.2)) (fun w' hS' => x_mv f1131)) ?_
            have hS := (hL.sel [1] (by decide) rfl)
            obtain ⟨x1171, ha1172, hm⟩ := bndE hm
            obtain ⟨hz1173, ha1177⟩ := idxE ha1172
            obtain ⟨b1174, q1175, hix1176⟩ := rdL_ix (hL.rdO 0 rfl) hz1173 ha1177
            refine DH.take 12 rfl (by kernel_rfl) (by kernel_rfl) (by kernel_rfl) rfl rfl hS (YH.val (v := (.pointer (some ⟨b1174, q1175, none⟩))) (fun w' hS' => x_ix Try.underlying53 Try_T2 rfl rfl hix1176)) ?_
            refine DH.all (rs := [9, 13]) (by kernel_rfl) (by simp) ?_
            intro i1178 hi1179
            simp only [List.mem_cons, List.not_mem_nil, or_false] at hi1179
            rcases hi1179 with rfl | rfl
            · refine ⟨_, rfl, ?_⟩
              refine OP.val (v := (.int .i64 x1164)) rfl (x_load1 Try.underlying2 rfl rfl (rdF_cells (hL.rdO 0 rfl) hix1169 ha1170 0 _ rfl)) ?_
              refine ⟨(hL.sel [1] (by decide) rfl), ?_⟩
              refine DH.only 13 rfl (by kernel_rfl) (OP.val (v := (.int .i64 x1171)) rfl (x_load1 Try.underlying2 rfl rfl (rdF_cells (hL.rdO 0 rfl) hix1176 ha1177 0 _ rfl)) ?_)
              refine ⟨(hL.sel [1] (by decide) rfl), ?_⟩
              have hS := (hL.sel [1] (by decide) rfl)
              obtain ⟨x1180, ha1181, hm⟩ := bndE hm
              obtain ⟨hz1182, ha1186⟩ := idxE ha1181
              obtain ⟨b1183, q1184, hix1185⟩ := rdL_ix (hL.rdO 0 rfl) hz1182 ha1186
              refine DH.take 14 rfl (by kernel_rfl) (by kernel_rfl) (by kernel_rfl) rfl rfl hS (YH.val (v := (.pointer (some ⟨b1183, q1184, none⟩))) (fun w' hS' => x_ix Try.underlying53 Try_T2 rfl rfl hix1185)) ?_
              refine DH.only 15 rfl (by kernel_rfl) (S_storeX (j := 0) x1164 hL 0 rfl Try_T2 hix1185 ha1186 rfl rfl rfl rfl rfl rfl ?_)
              intro wd1187 hL
              refine ⟨(hL.sel [1] (by decide) rfl), ?_⟩
              have hS := (hL.sel [1] (by decide) rfl)
              obtain ⟨x1188, ha1189, hm⟩ := bndE hm
              obtain ⟨hz1190, ha1194⟩ := idxE ha1189
              obtain ⟨b1191, q1192, hix1193⟩ := rdL_ix (hL.rdO 0 rfl) hz1190 ha1194
              refine DH.take 16 rfl (by kernel_rfl) (by kernel_rfl) (by kernel_rfl) rfl rfl hS (YH.val (v := (.pointer (some ⟨b1191, q1192, none⟩))) (fun w' hS' => x_ix Try.underlying53 Try_T2 rfl rfl hix1193)) ?_
              refine DH.only 17 rfl (by kernel_rfl) (S_storeX (j := 0) x1171 hL 0 rfl Try_T2 hix1193 ha1194 rfl rfl rfl rfl rfl rfl ?_)
              intro wd1195 hL
              refine ⟨(hL.sel [1] (by decide) rfl), ?_⟩
              refine DH.done (by kernel_rfl) ?_
              refine CW.regionL ?_
              refine OW.cons (OP.val (v := (.int .i64 s_l2.2)) rfl (x_mv f1131) ?_)
              refine OW.cons (OP.val (v := (.int .i64 (w64 (s_l2.2 - 1)))) rfl (x_sub rfl rfl) ?_)
              refine OW.cons (OP.val (v := (.int .i64 (w64 (s_l2.2 - 1)))) rfl (x_assign) ?_)
              refine OW.nil ?_
              obtain rfl := Option.some.inj hm
              exact ⟨_, rfl, ⟨S1084, f1126, f1127, f1128, f1129, f1130, rfl, hL⟩⟩
            · refine ⟨_, rfl, ?_⟩
              refine OP.val (v := (.int .i64 x1171)) rfl (x_load1 Try.underlying2 rfl rfl (rdF_cells (hL.rdO 0 rfl) hix1176 ha1177 0 _ rfl)) ?_
              refine ⟨(hL.sel [1] (by decide) rfl), ?_⟩
              refine DH.only 9 rfl (by kernel_rfl) (OP.val (v := (.int .i64 x1164)) rfl (x_load1 Try.underlying2 rfl rfl (rdF_cells (hL.rdO 0 rfl) hix1169 ha1170 0 _ rfl)) ?_)
              refine ⟨(hL.sel [1] (by decide) rfl), ?_⟩
              have hS := (hL.sel [1] (by decide) rfl)
              obtain ⟨x1196, ha1197, hm⟩ := bndE hm
              obtain ⟨hz1198, ha1202⟩ := idxE ha1197
              obtain ⟨b1199, q1200, hix1201⟩ := rdL_ix (hL.rdO 0 rfl) hz1198 ha1202
              refine DH.take 14 rfl (by kernel_rfl) (by kernel_rfl) (by kernel_rfl) rfl rfl hS (YH.val (v := (.pointer (some ⟨b1199, q1200, none⟩))) (fun w' hS' => x_ix Try.underlying53 Try_T2 rfl rfl hix1201)) ?_
              refine DH.only 15 rfl (by kernel_rfl) (S_storeX (j := 0) x1164 hL 0 rfl Try_T2 hix1201 ha1202 rfl rfl rfl rfl rfl rfl ?_)
              intro wd1203 hL
              refine ⟨(hL.sel [1] (by decide) rfl), ?_⟩
              have hS := (hL.sel [1] (by decide) rfl)
              obtain ⟨x1204, ha1205, hm⟩ := bndE hm
              obtain ⟨hz1206, ha1210⟩ := idxE ha1205
              obtain ⟨b1207, q1208, hix1209⟩ := rdL_ix (hL.rdO 0 rfl) hz1206 ha1210
              refine DH.take 16 rfl (by kernel_rfl) (by kernel_rfl) (by kernel_rfl) rfl rfl hS (YH.val (v := (.pointer (some ⟨b1207, q1208, none⟩))) (fun w' hS' => x_ix Try.underlying53 Try_T2 rfl rfl hix1209)) ?_
              refine DH.only 17 rfl (by kernel_rfl) (S_storeX (j := 0) x1171 hL 0 rfl Try_T2 hix1209 ha1210 rfl rfl rfl rfl rfl rfl ?_)
              intro wd1211 hL
              refine ⟨(hL.sel [1] (by decide) rfl), ?_⟩
              refine DH.done (by kernel_rfl) ?_
              refine CW.regionL ?_
              refine OW.cons (OP.val (v := (.int .i64 s_l2.2)) rfl (x_mv f1131) ?_)
              refine OW.cons (OP.val (v := (.int .i64 (w64 (s_l2.2 - 1)))) rfl (x_sub rfl rfl) ?_)
              refine OW.cons (OP.val (v := (.int .i64 (w64 (s_l2.2 - 1)))) rfl (x_assign) ?_)
              refine OW.nil ?_
              obtain rfl := Option.some.inj hm
              exact ⟨_, rfl, ⟨S1084, f1126, f1127, f1128, f1129, f1130, rfl, hL⟩⟩
          · refine CW.exit ?_
            refine XJ.hit ?_
            obtain rfl := Option.some.inj hm
            exact ⟨_, rfl, ⟨S1084, f1126, f1127, f1128, f1129, f1130, f1131, hL⟩⟩
    · refine CW.exit ?_
      refine XJ.hit ?_
      obtain rfl := Option.some.inj hm
      exact ⟨_, rfl, ⟨S811, f825, f826, f827, f828, f829, hL⟩⟩

theorem M.slices_stableCmpFunc_int64__ok (w0 : World) {E4 : TypeId} {S2 : Nat → Prop} {v1 : Value} (a0 : List Int) (he3 : (Ent.own E4 S2 v1 a0).H w0) (a1 : Int) (a2 : Int → Int → Option Int) {fk5 : FuncId} {cp6 : List Value} (hq7 : FnQ Try.prog fk5 cp6 (fun k => k < w0.heap.size ∧ ¬ (Ent.own E4 S2 v1 a0).S k) w0 (fun yw yvs yv => ∃ (y0 : Int) (y1 : Int) (yr : Int), yvs = [(.int .i64 y0), (.int .i64 y1)] ∧ a2 y0 y1 = some yr ∧ yv = (.int .i64 yr))) {r : (Unit) × (List Int)} (hm : M.slices_stableCmpFunc_int64_ a0 a1 a2 = some r) :
    Calls Try.prog 96 #[v1, (.int .i64 a1), (.func (.func fk5) #[] cp6.toArray)] w0 fun e w' => ∃ (ioS : Nat → Prop), e = .returned (.tuple #[]) ∧ Mut w0 w' (Ent.own E4 S2 v1 a0).S [Ent.own E4 ioS v1 r.2] := by
  unfold M.slices_stableCmpFunc_int64_ at hm
  refine calls_CW (args := [v1, (.int .i64 a1), (.func (.func fk5) #[] cp6.toArray)]) Try.func96 rfl rfl rfl ?_
  have hL := Hp.startIO he3
  refine CW.seq ?_
  refine CW.regionL ?_
  refine OW.cons (OP.val (v := (.int .i64 20)) rfl (x_assign) ?_)
  refine OW.nil ?_
  refine CW.seq ?_
  refine CW.regionL ?_
  refine OW.cons (OP.val (v := (.int .i64 20)) rfl (x_move) ?_)
  refine OW.cons (OP.val (v := (.int .i64 0)) rfl (x_assign) ?_)
  refine OW.cons (OP.val (v := (.int .i64 20)) rfl (x_assign) ?_)
  refine OW.nil ?_
  refine CW.seq ?_
  obtain ⟨o26, ho27, hm⟩ := bndE hm
  refine CW.loopB (fun (s_l1 : (List Int) × Int × Int) (F : Fr) (w : World) => ∃ (S23 : Nat → Prop), F 0 = v1 ∧ F 1 = (.int .i64 a1) ∧ F 2 = (.func (.func fk5) #[] cp6.toArray) ∧ F 6 = (.int .i64 20) ∧ F 7 = (.int .i64 s_l1.2.1) ∧ F 8 = (.int .i64 s_l1.2.2) ∧ Hp w0 [Ent.own E4 S23 v1 s_l1.1, Ent.frz w0 (Ent.own E4 S2 v1 a0).S] w) (fun o => outc o (fun x => some x) (fun s => M.slices_stableCmpFunc_int64__a1 a1 a2 s) = some r) ho27 hm ⟨S2, rfl, rfl, rfl, rfl, rfl, rfl, hL⟩ ?_ ?_
  · intro s_l1 F28 wd29 hJ hm
    have hm := outcE hm
    have hm : M.slices_stableCmpFunc_int64__a1 a1 a2 s_l1 = some r := hm
    unfold M.slices_stableCmpFunc_int64__a1 at hm
    obtain ⟨S23, f30, f31, f32, f33, f34, f35, hL⟩ := hJ
    refine CW.seq ?_
    refine CW.regionL ?_
    refine OW.cons (OP.val (v := v1) rfl (x_mv f30) ?_)
    refine OW.cons (OP.val (v := (.int .i64 s_l1.2.1)) rfl (x_mv f34) ?_)
    refine OW.cons (OP.val (v := (.int .i64 a1)) rfl (x_mv f31) ?_)
    refine OW.cons (OP.val (v := (.func (.func fk5) #[] cp6.toArray)) rfl (x_mv f32) ?_)
    obtain ⟨x36, hx37, hm⟩ := bndE hm
    refine OW.cons (OP.call rfl (x_call (vs := [v1, (.int .i64 s_l1.2.1), (.int .i64 a1), (.func (.func fk5) #[] cp6.toArray)]) Try_C97 ⟨rfl, rfl, rfl, rfl, trivial⟩) (M.slices_insertionSortCmpFunc_int64__ok _ s_l1.1 (hL.get 0 rfl) s_l1.2.1 a1 a2 (hL.fnZX 1 0 (by decide) rfl rfl hq7) hx37) ?_)
    rintro e38 wd39 ⟨S41, rfl, hF40⟩
    refine ⟨_, rfl, ?_⟩
    have hL := hL.mut 0 rfl hF40
    simp only [List.cons_append, List.nil_append, List.set_cons_zero, List.set_cons_succ] at hL
    refine OW.nil ?_
    obtain ⟨o106, ho107, hm⟩ := bndE hm
    refine CW.loopB (fun (s_l2 : Int) (F : Fr) (w : World) => F 0 = v1 ∧ F 1 = (.int .i64 a1) ∧ F 2 = (.func (.func fk5) #[] cp6.toArray) ∧ F 6 = (.int .i64 s_l2) ∧ Hp w0 [Ent.own E4 S41 v1 x36.2, Ent.frz w0 (Ent.own E4 S2 v1 a0).S] w) (fun o => outc o (fun x => some x) (fun s => M.slices_stableCmpFunc_int64__a2 x36 s) = some r) ho107 hm ⟨f30, f31, f32, f33, hL⟩ ?_ ?_
    · intro s_l2 F108 wd109 hJ hm
      have hm := outcE hm
      have hm : M.slices_stableCmpFunc_int64__a2 x36 s_l2 = some r := hm
      unfold M.slices_stableCmpFunc_int64__a2 at hm
      obtain ⟨f110, f111, f112, f113, hL⟩ := hJ
      obtain rfl := Option.some.inj hm
      exact RR0 rfl  ⟨S41, rfl, hL.mutOut 1 rfl [0] (by decide) (by decide) rfl⟩
    · intro s_l2 F114 wd115 t104 hJ hm hr105
      unfold M.slices_stableCmpFunc_int64__l2 at hm
      obtain ⟨f116, f117, f118, f119, hL⟩ := hJ
      refine CW.seq ?_
      refine CW.seq ?_
      refine CW.regionL ?_
      refine OW.cons (OP.val (v := (.int .i64 s_l2)) rfl (x_mv f119) ?_)
      refine OW.cons (OP.val (v := (.int .i64 a1)) rfl (x_mv f117) ?_)
      refine OW.cons (OP.val (v := (.bool (decide (s_l2 < a1)))) rfl (x_lss rfl rfl) ?_)
      refine OW.nil ?_
      refine CW.condM (t := decide (s_l2 < a1)) rfl hm (fun hb120 hm => ?_) (fun hb120 hm => ?_)
      · refine CW.skip ?_
        refine CW.block ?_
        refine CW.seq ?_
        refine CW.regionL ?_
        refine OW.cons (OP.val (v := (.int .i64 s_l2)) rfl (x_mv f119) ?_)
        refine OW.cons (OP.val (v := (.int .i64 (w64 (2 * s_l2)))) rfl (x_mul rfl rfl) ?_)
        refine OW.cons (OP.val (v := (.int .i64 0)) rfl (x_assign) ?_)
        refine OW.cons (OP.val (v := (.int .i64 (w64 (2 * s_l2)))) rfl (x_assign) ?_)
        refine OW.nil ?_
        refine CW.seq ?_
        obtain ⟨o124, ho125, hm⟩ := bndE hm
        refine CW.loopB (fun (s_l3 : Unit) (F : Fr) (w : World) => F 0 = v1 ∧ F 1 = (.int .i64 a1) ∧ F 2 = (.func (.func fk5) #[] cp6.toArray) ∧ F 6 = (.int .i64 s_l2) ∧ F 7 = (.int .i64 0) ∧ F 8 = (.int .i64 (w64 (2 * s_l2))) ∧ Hp w0 [Ent.own E4 S41 v1 x36.2, Ent.frz w0 (Ent.own E4 S2 v1 a0).S] w) (fun o => outc o (fun x => some (.ret x)) (fun s => M.slices_stableCmpFunc_int64__a3 a1 s_l2 s) = some t104) ho125 hm ⟨f116, f117, f118, f119, rfl, rfl, hL⟩ ?_ ?_
        · intro s_l3 F126 wd127 hJ hm
          have hm := outcE hm
          have hm : M.slices_stableCmpFunc_int64__a3 a1 s_l2 s_l3 = some t104 := hm
          unfold M.slices_stableCmpFunc_int64__a3 at hm
          obtain ⟨f128, f129, f130, f131, f132, f133, hL⟩ := hJ
          refine CW.seqJ (fun (s_j1 : Unit) (F : Fr) (w : World) => F 0 = v1 ∧ F 1 = (.int .i64 a1) ∧ F 2 = (.func (.func fk5) #[] cp6.toArray) ∧ F 6 = (.int .i64 s_l2) ∧ Hp w0 [Ent.own E4 S41 v1 x36.2, Ent.frz w0 (Ent.own E4 S2 v1 a0).S] w) (fun s_j1 => M.slices_stableCmpFunc_int64__j1 s_l2 s_j1 = some t104) ?_ ?_
          · refine CW.seq ?_
            refine CW.regionL ?_
            refine OW.cons (OP.val (v := (.int .i64 0)) rfl (x_mv f132) ?_)
            refine OW.cons (OP.val (v := (.int .i64 s_l2)) rfl (x_mv f131) ?_)
            refine OW.cons (OP.val (v := (.int .i64 (w64 (0 + s_l2)))) rfl (x_add rfl rfl) ?_)
            refine OW.cons (OP.val (v := (.int .i64 (w64 (0 + s_l2)))) rfl (x_assign) ?_)
            refine OW.nil ?_
            refine CW.seq ?_
            refine CW.regionL ?_
            refine OW.cons (OP.val (v := (.int .i64 (w64 (0 + s_l2)))) rfl (x_move) ?_)
            refine OW.cons (OP.val (v := (.int .i64 a1)) rfl (x_mv f129) ?_)
            refine OW.cons (OP.val (v := (.bool (decide ((w64 (0 + s_l2)) < a1)))) rfl (x_lss rfl rfl) ?_)
            refine OW.nil ?_
            refine CW.condM (t := decide ((w64 (0 + s_l2)) < a1)) rfl hm (fun hb141 hm => ?_) (fun hb141 hm => ?_)
            · refine CW.regionL ?_
              refine OW.cons (OP.val (v := v1) rfl (x_mv f128) ?_)
              refine OW.cons (OP.val (v := (.int .i64 0)) rfl (x_mv f132) ?_)
              refine OW.cons (OP.val (v := (.int .i64 (w64 (0 + s_l2)))) rfl (x_move) ?_)
              refine OW.cons (OP.val (v := (.int .i64 a1)) rfl (x_mv f129) ?_)
              refine OW.cons (OP.val (v := (.func (.func fk5) #[] cp6.toArray)) rfl (x_mv f130) ?_)
              exact nomatch hm
            · refine CW.skip ?_
              exact ⟨(), hm, ⟨f128, f129, f130, f131, hL⟩⟩
          · intro s_j1 F135 wd136 hJ hm
            unfold M.slices_stableCmpFunc_int64__j1 at hm
            obtain ⟨f137, f138, f139, f140, hL⟩ := hJ
            refine CW.regionL ?_
            refine OW.cons (OP.val (v := (.int .i64 s_l2)) rfl (x_mv f140) ?_)
            refine OW.cons (OP.val (v := (.int .i64 (w64 (s_l2 * 2)))) rfl (x_mul rfl rfl) ?_)
            refine OW.cons (OP.val (v := (.int .i64 (w64 (s_l2 * 2)))) rfl (x_assign) ?_)
            refine OW.nil ?_
            obtain rfl := Option.some.inj hm
            exact ⟨_, rfl, ⟨f137, f138, f139, rfl, hL⟩⟩
        · intro s_l3 F142 wd143 t122 hJ hm hr123
          unfold M.slices_stableCmpFunc_int64__l3 at hm
          obtain ⟨f144, f145, f146, f147, f148, f149, hL⟩ := hJ
          refine CW.seq ?_
          refine CW.seq ?_
          refine CW.regionL ?_
          refine OW.cons (OP.val (v := (.int .i64 (w64 (2 * s_l2)))) rfl (x_mv f149) ?_)
          refine OW.cons (OP.val (v := (.int .i64 a1)) rfl (x_mv f145) ?_)
          refine OW.cons (OP.val (v := (.bool (decide ((w64 (2 * s_l2)) ≤ a1)))) rfl (x_leq rfl rfl) ?_)
          refine OW.nil ?_
          refine CW.condM (t := decide ((w64 (2 * s_l2)) ≤ a1)) rfl hm (fun hb150 hm => ?_) (fun hb150 hm => ?_)
          · refine CW.skip ?_
            refine CW.block ?_
            refine CW.seq ?_
            refine CW.regionL ?_
            refine OW.cons (OP.val (v := v1) rfl (x_mv f144) ?_)
            refine OW.cons (OP.val (v := (.int .i64 0)) rfl (x_mv f148) ?_)
            refine OW.cons (OP.val (v := (.int .i64 0)) rfl (x_mv f148) ?_)
            refine OW.cons (OP.val (v := (.int .i64 s_l2)) rfl (x_mv f147) ?_)
            refine OW.cons (OP.val (v := (.int .i64 (w64 (0 + s_l2)))) rfl (x_add rfl rfl) ?_)
            refine OW.cons (OP.val (v := (.int .i64 (w64 (2 * s_l2)))) rfl (x_mv f149) ?_)
            refine OW.cons (OP.val (v := (.func (.func fk5) #[] cp6.toArray)) rfl (x_mv f146) ?_)
            exact nomatch hm
          · refine CW.exit ?_
            refine XJ.hit ?_
            obtain rfl := Option.some.inj hm
            exact ⟨_, rfl, ⟨f144, f145, f146, f147, f148, f149, hL⟩⟩
      · refine CW.exit ?_
        refine XJ.hit ?_
        obtain rfl := Option.some.inj hm
        exact ⟨_, rfl, ⟨f116, f117, f118, f119, hL⟩⟩
  · intro s_l1 F151 wd152 t24 hJ hm hr25
    unfold M.slices_stableCmpFunc_int64__l1 at hm
    obtain ⟨S23, f153, f154, f155, f156, f157, f158, hL⟩ := hJ
    refine CW.seq ?_
    refine CW.seq ?_
    refine CW.regionL ?_
    refine OW.cons (OP.val (v := (.int .i64 s_l1.2.2)) rfl (x_mv f158) ?_)
    refine OW.cons (OP.val (v := (.int .i64 a1)) rfl (x_mv f154) ?_)
    refine OW.cons (OP.val (v := (.bool (decide (s_l1.2.2 ≤ a1)))) rfl (x_leq rfl rfl) ?_)
    refine OW.nil ?_
    refine CW.condM (t := decide (s_l1.2.2 ≤ a1)) rfl hm (fun hb159 hm => ?_) (fun hb159 hm => ?_)
    · refine CW.skip ?_
      refine CW.block ?_
      refine CW.seq ?_
      refine CW.regionL ?_
      refine OW.cons (OP.val (v := v1) rfl (x_mv f153) ?_)
      refine OW.cons (OP.val (v := (.int .i64 s_l1.2.1)) rfl (x_mv f157) ?_)
      refine OW.cons (OP.val (v := (.int .i64 s_l1.2.2)) rfl (x_mv f158) ?_)
      refine OW.cons (OP.val (v := (.func (.func fk5) #[] cp6.toArray)) rfl (x_mv f155) ?_)
      obtain ⟨x160, hx161, hm⟩ := bndE hm
      refine OW.cons (OP.call rfl (x_call (vs := [v1, (.int .i64 s_l1.2.1), (.int .i64 s_l1.2.2), (.func (.func fk5) #[] cp6.toArray)]) Try_C97 ⟨rfl, rfl, rfl, rfl, trivial⟩) (M.slices_insertionSortCmpFunc_int64__ok _ s_l1.1 (hL.get 0 rfl) s_l1.2.1 s_l1.2.2 a2 (hL.fnZX 1 0 (by decide) rfl rfl hq7) hx161) ?_)
      rintro e162 wd163 ⟨S165, rfl, hF164⟩
      refine ⟨_, rfl, ?_⟩
      have hL := hL.mut 0 rfl hF164
      simp only [List.cons_append, List.nil_append, List.set_cons_zero, List.set_cons_succ] at hL
      refine OW.nil ?_
      refine CW.seq ?_
      refine CW.regionL ?_
      refine OW.cons (OP.val (v := (.int .i64 s_l1.2.2)) rfl (x_mv f158) ?_)
      refine OW.cons (OP.val (v := (.int .i64 s_l1.2.2)) rfl (x_assign) ?_)
      refine OW.nil ?_
      refine CW.regionL ?_
      refine OW.cons (OP.val (v := (.int .i64 s_l1.2.2)) rfl (x_mv f158) ?_)
      refine OW.cons (OP.val (v := (.int .i64 20)) rfl (x_mv f156) ?_)
      refine OW.cons (OP.val (v := (.int .i64 (w64 (s_l1.2.2 + 20)))) rfl (x_add rfl rfl) ?_)
      refine OW.cons (OP.val (v := (.int .i64 (w64 (s_l1.2.2 + 20)))) rfl (x_assign) ?_)
      refine OW.nil ?_
      obtain rfl := Option.some.inj hm
      exact ⟨_, rfl, ⟨S165, f153, f154, f155, f156, rfl, rfl, hL⟩⟩
    · refine CW.exit ?_
      refine XJ.hit ?_
      obtain rfl := Option.some.inj hm
      exact ⟨_, rfl, ⟨S23, f153, f154, f155, f156, f157, f158, hL⟩⟩

theorem M.slices_SortStableFunc___int64_int64__ok (w0 : World) {E4 : TypeId} {S2 : Nat → Prop} {v1 : Value} (a0 : List Int) (he3 : (Ent.own E4 S2 v1 a0).H w0) (a1 : Int → Int → Option Int) {fk5 : FuncId} {cp6 : List Value} (hq7 : FnQ Try.prog fk5 cp6 (fun k => k < w0.heap.size ∧ ¬ (Ent.own E4 S2 v1 a0).S k) w0 (fun yw yvs yv => ∃ (y0 : Int) (y1 : Int) (yr : Int), yvs = [(.int .i64 y0), (.int .i64 y1)] ∧ a1 y0 y1 = some yr ∧ yv = (.int .i64 yr))) {r : (Unit) × (List Int)} (hm : M.slices_SortStableFunc___int64_int64_ a0 a1 = some r) :
    Calls Try.prog 92 #[v1, (.func (.func fk5) #[] cp6.toArray)] w0 fun e w' => ∃ (ioS : Nat → Prop), e = .returned (.tuple #[]) ∧ Mut w0 w' (Ent.own E4 S2 v1 a0).S [Ent.own E4 ioS v1 r.2] := by
  unfold M.slices_SortStableFunc___int64_int64_ at hm
  refine calls_CW (args := [v1, (.func (.func fk5) #[] cp6.toArray)]) Try.func92 rfl rfl rfl ?_
  have hL := Hp.startIO he3
  refine CW.regionL ?_
  refine OW.cons (OP.val (v := v1) rfl (x_move) ?_)
  refine OW.cons (OP.val (v := v1) rfl (x_move) ?_)
  refine OW.cons (OP.val (v := (.int .i64 (a0.length : Int))) rfl (x_lenR Try.underlying53 rfl (hL.rdO 0 rfl)) ?_)
  refine OW.cons (OP.val (v := (.func (.func fk5) #[] cp6.toArray)) rfl (x_move) ?_)
  obtain ⟨x8, hx9, hm⟩ := bndE hm
  refine OW.cons (OP.call rfl (x_call (vs := [v1, (.int .i64 (a0.length : Int)), (.func (.func fk5) #[] cp6.toArray)]) Try_C96 ⟨rfl, rfl, rfl, trivial⟩) (M.slices_stableCmpFunc_int64__ok _ a0 (hL.get 0 rfl) (a0.length : Int) a1 (hL.fnZX 1 0 (by decide) rfl rfl hq7) hx9) ?_)
  rintro e10 wd11 ⟨S13, rfl, hF12⟩
  refine ⟨_, rfl, ?_⟩
  have hL := hL.mut 0 rfl hF12
  simp only [List.cons_append, List.nil_append, List.set_cons_zero, List.set_cons_succ] at hL
  refine OW.nil ?_
  obtain rfl := Option.some.inj hm
  exact RR0 rfl  ⟨S13, rfl, hL.mutOut 1 rfl [0] (by decide) (by decide) rfl⟩

theorem M.impl_sortedIndices_ok (w0 : World) (a0 : Int) (a1 : Int → Int → Option Int) {fk1 : FuncId} {cp2 : List Value} (hq3 : FnQ Try.prog fk1 cp2 (· < w0.heap.size) w0 (fun yw yvs yv => ∃ (y0 : Int) (y1 : Int) (yr : Int), yvs = [(.int .i64 y0), (.int .i64 y1)] ∧ a1 y0 y1 = some yr ∧ yv = (.int .i64 yr))) {r : (List Int)} (hm : M.impl_sortedIndices a0 a1 = some r) :
    Calls Try.prog 78 #[(.int .i64 a0), (.func (.func fk1) #[] cp2.toArray)] w0 fun e w' => ∃ (rv0 : Value) (rS0 : Nat → Prop), e = .returned rv0 ∧ Fresh w0 w' [Ent.own 2 rS0 rv0 r] := by
  unfold M.impl_sortedIndices at hm
  refine calls_CW (args := [(.int .i64 a0), (.func (.func fk1) #[] cp2.toArray)]) Try.func78 rfl rfl rfl ?_
  have hL := Hp.start w0
  refine CW.seq ?_
  refine CW.regionL ?_
  refine OW.cons (S_box (cs := #[(.func (.func fk1) #[] cp2.toArray)]) hL rfl rfl rfl ?_)
  intro wd4 b5 hL
  refine OW.cons (OP.val (v := (.slice none 0 0)) rfl (x_assign) ?_)
  refine OW.nil ?_
  refine CW.seq ?_
  refine CW.regionL ?_
  refine OW.cons (S_lit ([] : List Int) hL Try.underlying53 Try_T2 rfl (by decide) (by first | (simp [Instr.fill, madeCells, Value.cells, ev, upd, Flat.enc, Flat.sz]; done) | rfl | kernel_rfl) rfl rfl ?_)
  intro wd6 v7 S8 hL
  refine OW.cons (OP.val (v := v7) rfl (x_assign) ?_)
  refine OW.nil ?_
  refine CW.seq ?_
  refine CW.seq ?_
  refine CW.regionL ?_
  refine OW.cons (OP.val (v := (.int .i64 a0)) rfl (x_move) ?_)
  refine OW.cons (OP.val (v := (.int .i64 0)) rfl (x_move) ?_)
  refine OW.nil ?_
  obtain ⟨o31, ho32, hm⟩ := bndE hm
  refine CW.loopB (fun (s_l1 : (List Int) × Int) (F : Fr) (w : World) => ∃ (v27 : Value) (S28 : Nat → Prop), F 3 = (.pointer (some ⟨b5, 0, none⟩)) ∧ F 5 = v27 ∧ F 8 = (.int .i64 a0) ∧ F 9 = (.int .i64 s_l1.2) ∧ Hp w0 [Ent.own 2 S28 v27 s_l1.1, Ent.blk b5 102 #[(.func (.func fk1) #[] cp2.toArray)], Ent.snap w0 w0.heap.size] w) (fun o => outc o (fun x => some x) (fun s => M.impl_sortedIndices_a1 a1 s) = some r) ho32 hm ⟨v7, S8, rfl, rfl, rfl, rfl, hL⟩ ?_ ?_
  · intro s_l1 F33 wd34 hJ hm
    have hm := outcE hm
    have hm : M.impl_sortedIndices_a1 a1 s_l1 = some r := hm
    unfold M.impl_sortedIndices_a1 at hm
    obtain ⟨v27, S28, f35, f36, f37, f38, hL⟩ := hJ
    refine CW.seq ?_
    refine CW.regionL ?_
    refine OW.cons (OP.val (v := v27) rfl (x_mv f36) ?_)
    refine OW.cons (OP.val (v := (.func (.func 93) #[] #[(.pointer (some ⟨b5, 0, none⟩))])) rfl (x_makeFunc (vs := [(.pointer (some ⟨b5, 0, none⟩))]) ⟨f35, trivial⟩) ?_)
    obtain ⟨x39, hx40, hm⟩ := bndE hm
    refine OW.cons (OP.call rfl (x_call (vs := [v27, (.func (.func 93) #[] #[(.pointer (some ⟨b5, 0, none⟩))])]) Try_C92 ⟨rfl, rfl, trivial⟩) (M.slices_SortStableFunc___int64_int64__ok _ s_l1.1 (hL.get 0 rfl) (fun y0 y1 => M.impl_sortedIndices_1 y0 y1 a1) ⟨Try_C93, fun yw hag yvs yv hR => by obtain ⟨y0, y1, yr, rfl, hyf, rfl⟩ := hR; exact M.impl_sortedIndices_1_ok yw y0 y1 a1 (hag.fnS (hL.fnSX 2 0 (by decide) rfl rfl hq3)) (hag.bx (hL.bxX 1 0 (by decide) rfl rfl)) hyf⟩ hx40) ?_)
    rintro e41 wd42 ⟨S44, rfl, hF43⟩
    refine ⟨_, rfl, ?_⟩
    have hL := hL.mut 0 rfl hF43
    simp only [List.cons_append, List.nil_append, List.set_cons_zero, List.set_cons_succ] at hL
    refine OW.nil ?_
    refine CW.seq ?_
    refine CW.regionL ?_
    refine OW.cons (OP.val (v := v27) rfl (x_mv f36) ?_)
    refine OW.cons (OP.val (v := v27) rfl (x_assign) ?_)
    refine OW.nil ?_
    refine CW.ret ?_
    obtain rfl := Option.some.inj hm
    exact RR1 rfl rfl ⟨v27, S44, rfl, hL.fresh 2 rfl [0] (by decide) (by decide) rfl⟩
  · intro s_l1 F45 wd46 t29 hJ hm hr30
    unfold M.impl_sortedIndices_l1 at hm
    obtain ⟨v27, S28, f47, f48, f49, f50, hL⟩ := hJ
    refine CW.seq ?_
    refine CW.regionL ?_
    refine OW.cons (OP.val (v := (.bool (decide (s_l1.2 < a0)))) rfl (x_lss f50 f49) ?_)
    refine OW.nil ?_
    refine CW.seq ?_
    refine CW.condM (t := decide (s_l1.2 < a0)) rfl hm (fun hb51 hm => ?_) (fun hb51 hm => ?_)
    · refine CW.skip ?_
      refine CW.seq ?_
      refine CW.block ?_
      refine CW.seq ?_
      refine CW.regionL ?_
      refine OW.cons (OP.val (v := (.int .i64 s_l1.2)) rfl (x_mv f50) ?_)
      refine OW.cons (OP.val (v := (.int .i64 s_l1.2)) rfl (x_assign) ?_)
      refine OW.nil ?_
      refine CW.regionL ?_
      refine OW.cons (OP.val (v := v27) rfl (x_mv f48) ?_)
      refine OW.cons (OP.val (v := (.int .i64 s_l1.2)) rfl (x_move) ?_)
      refine OW.cons (S_lit ([s_l1.2] : List Int) hL Try.underlying53 Try_T2 rfl (by decide) (by first | (simp [Instr.fill, madeCells, Value.cells, ev, upd, Flat.enc, Flat.sz]; done) | rfl | kernel_rfl) rfl rfl ?_)
      intro wd52 v53 S54 hL
      obtain ⟨hc58, hm⟩ := chkE hm
      refine OW.cons (S_append (ys := ([s_l1.2] : List Int)) hL 1 rfl Try.underlying53 Try_T2 rfl rfl rfl (hL.rdO 0 rfl) hc58 (by decide) rfl ?_)
      intro wd55 v56 S57 hL
      refine OW.cons (OP.val (v := v56) rfl (x_assign) ?_)
      refine OW.nil ?_
      refine CW.regionL ?_
      refine OW.cons (OP.val (v := (.int .i64 (w64 (s_l1.2 + 1)))) rfl (x_add f50 rfl) ?_)
      refine OW.cons (OP.val (v := (.int .i64 (w64 (s_l1.2 + 1)))) rfl (x_move) ?_)
      refine OW.nil ?_
      have hL := hL.sel [1, 2, 3] (by decide) rfl
      obtain rfl := Option.some.inj hm
      exact ⟨_, rfl, ⟨v56, S57, f47, rfl, f49, rfl, hL⟩⟩
    · refine CW.exit ?_
      refine XJ.hit ?_
      obtain rfl := Option.some.inj hm
      exact ⟨_, rfl, ⟨v27, S28, f47, f48, f49, f50, hL⟩⟩

theorem M.impl_FinishOrder_ok (w0 : World) (a0 : Int) (a1 : Race) {v1 : Value} (h2 : rdL (· < w0.heap.size) w0 v1 a1.Finishes) {r : (List Int) × Int} (hm : M.impl_FinishOrder a0 a1 = some r) :
    Calls Try.prog 44 #[(.int .i64 a0), (.agg #[v1])] w0 fun e w' => ∃ (rv0 : Value) (rS0 : Nat → Prop), e = .returned (.tuple #[rv0, (.int .i64 r.2)]) ∧ Fresh w0 w' [Ent.own 2 rS0 rv0 r.1] := by
  unfold M.impl_FinishOrder at hm
  refine calls_CW (args := [(.int .i64 a0), (.agg #[v1])]) Try.func44 rfl rfl rfl ?_
  have hL := Hp.start w0
  refine CW.seq ?_
  refine CW.regionL ?_
  refine OW.cons (S_box (cs := #[v1]) hL rfl rfl rfl ?_)
  intro wd3 b4 hL
  refine OW.cons (OP.val (v := (.slice none 0 0)) rfl (x_assign) ?_)
  refine OW.cons (OP.val (v := (.int .i64 0)) rfl (x_assign) ?_)
  refine OW.nil ?_
  refine CW.seq ?_
  refine CW.seq ?_
  refine CW.regionL ?_
  refine OW.cons (OP.val (v := (.int .i64 a0)) rfl (x_move) ?_)
  refine OW.cons (OP.val (v := (.agg #[v1])) rfl (x_loadN (cs := [v1]) Try.underlying29 Try_T29 rfl rfl (hL.cellsB 0 rfl (o := 0) (l := [v1]) (by intro j u hj; exact (by simpa using hj)))) ?_)
  obtain ⟨x5, hx6, hm⟩ := bndE hm
  refine OW.cons (OP.call rfl (x_call (vs := [(.int .i64 a0), (.agg #[v1])]) Try_C16 ⟨rfl, rfl, trivial⟩) (M.impl_IsRace_ok _ a0 a1 (hL.rdS 1 rfl h2) hx6) ?_)
  rintro e7 wd8 ⟨rfl, hF9⟩
  refine ⟨_, rfl, ?_⟩
  have hL := hL.pushAll hF9
  simp only [List.cons_append, List.nil_append, List.set_cons_zero, List.set_cons_succ] at hL
  refine OW.cons (OP.val (v := (.bool (!x5))) rfl (x_not rfl) ?_)
  refine OW.nil ?_
  refine CW.condM (t := !x5) rfl hm (fun hb10 hm => ?_) (fun hb10 hm => ?_)
  · refine CW.seq ?_
    refine CW.regionL ?_
    refine OW.cons (OP.val (v := (.slice none 0 0)) rfl (x_assign) ?_)
    refine OW.cons (OP.val (v := (.int .i64 1)) rfl (x_assign) ?_)
    refine OW.nil ?_
    refine CW.ret ?_
    have hL := hL.pushNil Int 2
    obtain rfl := Option.some.inj hm
    exact RR2 rfl rfl rfl ⟨(.slice none 0 0), None_, rfl, hL.fresh 2 rfl [0] (by decide) (by decide) rfl⟩
  · refine CW.skip ?_
    refine CW.seq ?_
    refine CW.regionL ?_
    refine OW.cons (OP.val (v := (.pointer (some ⟨b4, 0, none⟩))) rfl (x_fieldAddr (fsz := 1) 0 0 0 Try.underlying29 rfl Try_T27 rfl rfl rfl) ?_)
    refine OW.cons (OP.val (v := v1) rfl (x_load1 Try.underlying27 rfl rfl (hL.cellB 0 rfl rfl)) ?_)
    refine OW.cons (OP.val (v := (.int .i64 (a1.Finishes.length : Int))) rfl (x_lenR Try.underlying27 rfl (hL.rdS 1 rfl h2)) ?_)
    refine OW.cons (OP.val (v := (.func (.func 79) #[] #[(.pointer (some ⟨b4, 0, none⟩))])) rfl (x_makeFunc (vs := [(.pointer (some ⟨b4, 0, none⟩))]) ⟨rfl, trivial⟩) ?_)
    obtain ⟨x11, hx12, hm⟩ := bndE hm
    refine OW.cons (OP.call rfl (x_call (vs := [(.int .i64 (a1.Finishes.length : Int)), (.func (.func 79) #[] #[(.pointer (some ⟨b4, 0, none⟩))])]) Try_C78 ⟨rfl, rfl, trivial⟩) (M.impl_sortedIndices_ok _ (a1.Finishes.length : Int) (fun y0 y1 => M.impl_FinishOrder_1 y0 y1 a1) ⟨Try_C79, fun yw hag yvs yv hR => by obtain ⟨y0, y1, yr, rfl, hyf, rfl⟩ := hR; exact M.impl_FinishOrder_1_ok yw y0 y1 a1 (hag.rdL (hL.rdS 1 rfl h2)) (hag.bx (hL.bxB 0 rfl)) hyf⟩ hx12) ?_)
    rintro e15 wd16 ⟨v14, S13, rfl, hF17⟩
    refine ⟨_, rfl, ?_⟩
    have hL := hL.pushAll hF17
    simp only [List.cons_append, List.nil_append, List.set_cons_zero, List.set_cons_succ] at hL
    refine OW.cons (OP.val (v := v14) rfl (x_assign) ?_)
    refine OW.cons (OP.val (v := (.int .i64 0)) rfl (x_assign) ?_)
    refine OW.nil ?_
    refine CW.ret ?_
    obtain rfl := Option.some.inj hm
    exact RR2 rfl rfl rfl ⟨v14, S13, rfl, hL.fresh 2 rfl [0] (by decide) (by decide) rfl⟩

theorem M.spec_DrawFinishOrder_ok (w0 : World) (a0 : List UInt8) {v1 : Value} (h2 : rdL (· < w0.heap.size) w0 v1 a0) {r : Int × Race} (hm : M.spec_DrawFinishOrder a0 = some r) :
    Calls Try.prog 45 #[v1] w0 fun e w' => ∃ (rv0 : Value) (rS0 : Nat → Prop), e = .returned (.tuple #[(.int .i64 r.1), (.agg #[rv0])]) ∧ Fresh w0 w' [Ent.own 88 rS0 rv0 r.2.Finishes] := by
  unfold M.spec_DrawFinishOrder at hm
  refine calls_CW (args := [v1]) Try.func45 rfl rfl rfl ?_
  have hL := Hp.start w0
  refine CW.seq ?_
  refine CW.regionL ?_
  refine OW.cons (OP.val (v := (.int .i64 0)) rfl (x_assign) ?_)
  refine OW.cons (S_alloc (cs := #[(.slice none 0 0)]) hL Try_T29 rfl rfl ?_)
  intro wd3 b4 hL
  refine OW.nil ?_
  refine CW.seq ?_
  refine CW.regionL ?_
  refine OW.cons (OP.val (v := v1) rfl (x_move) ?_)
  obtain ⟨x5, hx6, hm⟩ := bndE hm
  refine OW.cons (OP.call rfl (x_call (vs := [v1]) Try_C70 ⟨rfl, trivial⟩) (M.spec_DrawIsRace_ok _ a0 (hL.rdS 1 rfl h2) hx6) ?_)
  rintro e9 wd10 ⟨v8, S7, rfl, hF11⟩
  refine ⟨_, rfl, ?_⟩
  have hL := hL.pushAll hF11
  simp only [List.cons_append, List.nil_append, List.set_cons_zero, List.set_cons_succ] at hL
  refine OW.cons (OP.val (v := (.int .i64 x5.1)) rfl (x_extract rfl rfl) ?_)
  refine OW.cons (OP.val (v := (.agg #[v8])) rfl (x_extract rfl rfl) ?_)
  refine OW.cons (OP.val (v := (.int .i64 x5.1)) rfl (x_assign) ?_)
  refine OW.cons (S_storeN (l := [v8]) (cs' := #[v8]) hL 1 rfl Try_T29 rfl rfl (List.forall_mem_cons.2 ⟨rdL_one (hL.rdO 0 rfl), (fun _ h => by cases h)⟩) rfl (Nat.le_of_ble_eq_true rfl) rfl ?_)
  intro wd12 hL
  refine OW.nil ?_
  refine CW.ret ?_
  obtain rfl := Option.some.inj hm
  exact RRs (v := (.int .i64 x5.1)) (v2 := (.agg #[v8])) (vs := []) (rs := [.tmp 2, .cell 3 29]) rfl ⟨resTmp rfl, resCell rfl (run_loadBlk Try.underlying29 Try_T29 (hL.get 1 rfl) rfl), trivial⟩ ⟨v8, S7, rfl, hL.fresh 2 rfl [0] (by decide) (by decide) rfl⟩

end Go.Proofs.Ytblljgcbffkahaa
