/- Links: each Go function returns what its model computes and leaves what was there. Printed by my generator. -/
import Derived.Test.YtgelmamcinlahaaMod2
import Derived.Test.YtgelmamcinlahaaBase6
import Derived.Test.YtgelmamcinlahaaProg
import Derived.KernelRfl
namespace Go.Proofs.Ytgelmamcinlahaa
set_option maxRecDepth 10000
open Go Go.RowKit Go.ChangeShapes Go.WideShapes
set_option linter.unusedVariables false
set_option linter.unusedSimpArgs false

theorem Try_mixed : Try.prog.follows .mixedOrders = true := by kernel_rfl
theorem Try_T2 : TyI Try.prog 2 1 8 (.int .i64 0) := by unfold TyI; kernel_rfl
theorem Try_T3 : TyI Try.prog 3 1 8 (.int .i64 0) := by unfold TyI; kernel_rfl
theorem Try_T5 : TyI Try.prog 5 1 1 (.int .u8 0) := by unfold TyI; kernel_rfl
theorem Try_T22 : TyI Try.prog 22 1 24 (.slice none 0 0) := by unfold TyI; kernel_rfl
theorem Try_T24 : TyI Try.prog 24 3 40 (.agg #[.int .i64 0, .int .i64 0, .slice none 0 0]) := by unfold TyI; kernel_rfl
theorem Try_T29 : TyI Try.prog 29 1 24 (.slice none 0 0) := by unfold TyI; kernel_rfl
theorem Try_T31 : TyI Try.prog 31 3 40 (.agg #[.int .i64 0, .int .i64 0, .slice none 0 0]) := by unfold TyI; kernel_rfl
theorem Try_T38 : TyI Try.prog 38 1 24 (.slice none 0 0) := by unfold TyI; kernel_rfl
theorem Try_T44 : TyI Try.prog 44 1 24 (.slice none 0 0) := by unfold TyI; kernel_rfl
theorem Try_T46 : TyI Try.prog 46 1 24 (.agg #[.slice none 0 0]) := by unfold TyI; kernel_rfl
theorem Try_T48 : TyI Try.prog 48 4 32 (.agg #[.int .i64 0, .int .i64 0, .int .i64 0, .int .i64 0]) := by unfold TyI; kernel_rfl
theorem Try_T50 : TyI Try.prog 50 3 24 (.agg #[.int .i64 0, .int .i64 0, .int .i64 0]) := by unfold TyI; kernel_rfl
theorem Try_T54 : TyI Try.prog 54 1 24 (.slice none 0 0) := by unfold TyI; kernel_rfl
theorem Try_T56 : TyI Try.prog 56 3 56 (.agg #[.int .i64 0, .slice none 0 0, .slice none 0 0]) := by unfold TyI; kernel_rfl
theorem Try_T61 : TyI Try.prog 61 1 24 (.slice none 0 0) := by unfold TyI; kernel_rfl
theorem Try_T66 : TyI Try.prog 66 4 32 (.agg #[.int .i64 0, .int .i64 0, .int .i64 0, .int .i64 0]) := by unfold TyI; kernel_rfl
theorem Try_T84 : TyI Try.prog 84 1 24 (.slice none 0 0) := by unfold TyI; kernel_rfl
theorem Try_T86 : TyI Try.prog 86 1 24 (.agg #[.slice none 0 0]) := by unfold TyI; kernel_rfl
theorem Try_T114 : TyI Try.prog 114 3 24 (.agg #[.int .i64 0, .int .i64 0, .int .i64 0]) := by unfold TyI; kernel_rfl
theorem Try_B31 : BuildI Try.prog 31 [(0, 1), (1, 1), (2, 1)] #[.int .i64 0, .int .i64 0, .slice none 0 0] := by unfold BuildI; kernel_rfl
theorem Try_B46 : BuildI Try.prog 46 [(0, 1)] #[.slice none 0 0] := by unfold BuildI; kernel_rfl
theorem Try_B48 : BuildI Try.prog 48 [(0, 1), (1, 1), (2, 1), (3, 1)] #[.int .i64 0, .int .i64 0, .int .i64 0, .int .i64 0] := by unfold BuildI; kernel_rfl
theorem Try_B50 : BuildI Try.prog 50 [(0, 1), (1, 1), (2, 1)] #[.int .i64 0, .int .i64 0, .int .i64 0] := by unfold BuildI; kernel_rfl
theorem Try_B56 : BuildI Try.prog 56 [(0, 1), (1, 1), (2, 1)] #[.int .i64 0, .slice none 0 0, .slice none 0 0] := by unfold BuildI; kernel_rfl
theorem Try_B94 : BuildI Try.prog 94 [(0, 1), (1, 1), (2, 1)] #[.slice none 0 0, .int .i64 0, .int .i64 0] := by unfold BuildI; kernel_rfl
theorem Try_C8 : CallOK Try.prog 8 := ⟨_, _, Try.func8, rfl, by kernel_rfl⟩
theorem Try_C9 : CallOK Try.prog 9 := ⟨_, _, Try.func9, rfl, by kernel_rfl⟩
theorem Try_C10 : CallOK Try.prog 10 := ⟨_, _, Try.func10, rfl, by kernel_rfl⟩
theorem Try_C11 : CallOK Try.prog 11 := ⟨_, _, Try.func11, rfl, by kernel_rfl⟩
theorem Try_C12 : CallOK Try.prog 12 := ⟨_, _, Try.func12, rfl, by kernel_rfl⟩
theorem Try_C13 : CallOK Try.prog 13 := ⟨_, _, Try.func13, rfl, by kernel_rfl⟩
theorem Try_C14 : CallOK Try.prog 14 := ⟨_, _, Try.func14, rfl, by kernel_rfl⟩
theorem Try_C15 : CallOK Try.prog 15 := ⟨_, _, Try.func15, rfl, by kernel_rfl⟩
theorem Try_C16 : CallOK Try.prog 16 := ⟨_, _, Try.func16, rfl, by kernel_rfl⟩
theorem Try_C17 : CallOK Try.prog 17 := ⟨_, _, Try.func17, rfl, by kernel_rfl⟩
theorem Try_C18 : CallOK Try.prog 18 := ⟨_, _, Try.func18, rfl, by kernel_rfl⟩
theorem Try_C19 : CallOK Try.prog 19 := ⟨_, _, Try.func19, rfl, by kernel_rfl⟩
theorem Try_C20 : CallOK Try.prog 20 := ⟨_, _, Try.func20, rfl, by kernel_rfl⟩
theorem Try_C21 : CallOK Try.prog 21 := ⟨_, _, Try.func21, rfl, by kernel_rfl⟩
theorem Try_C22 : CallOK Try.prog 22 := ⟨_, _, Try.func22, rfl, by kernel_rfl⟩
theorem Try_C23 : CallOK Try.prog 23 := ⟨_, _, Try.func23, rfl, by kernel_rfl⟩
theorem Try_C24 : CallOK Try.prog 24 := ⟨_, _, Try.func24, rfl, by kernel_rfl⟩
theorem Try_C25 : CallOK Try.prog 25 := ⟨_, _, Try.func25, rfl, by kernel_rfl⟩
theorem Try_C26 : CallOK Try.prog 26 := ⟨_, _, Try.func26, rfl, by kernel_rfl⟩
theorem Try_C27 : CallOK Try.prog 27 := ⟨_, _, Try.func27, rfl, by kernel_rfl⟩
theorem Try_C28 : CallOK Try.prog 28 := ⟨_, _, Try.func28, rfl, by kernel_rfl⟩
theorem Try_C29 : CallOK Try.prog 29 := ⟨_, _, Try.func29, rfl, by kernel_rfl⟩
theorem Try_C30 : CallOK Try.prog 30 := ⟨_, _, Try.func30, rfl, by kernel_rfl⟩
theorem Try_C31 : CallOK Try.prog 31 := ⟨_, _, Try.func31, rfl, by kernel_rfl⟩
theorem Try_C32 : CallOK Try.prog 32 := ⟨_, _, Try.func32, rfl, by kernel_rfl⟩
theorem Try_C33 : CallOK Try.prog 33 := ⟨_, _, Try.func33, rfl, by kernel_rfl⟩
theorem Try_C34 : CallOK Try.prog 34 := ⟨_, _, Try.func34, rfl, by kernel_rfl⟩
theorem Try_C35 : CallOK Try.prog 35 := ⟨_, _, Try.func35, rfl, by kernel_rfl⟩
theorem Try_C36 : CallOK Try.prog 36 := ⟨_, _, Try.func36, rfl, by kernel_rfl⟩
theorem Try_C37 : CallOK Try.prog 37 := ⟨_, _, Try.func37, rfl, by kernel_rfl⟩
theorem Try_C38 : CallOK Try.prog 38 := ⟨_, _, Try.func38, rfl, by kernel_rfl⟩
theorem Try_C39 : CallOK Try.prog 39 := ⟨_, _, Try.func39, rfl, by kernel_rfl⟩
theorem Try_C40 : CallOK Try.prog 40 := ⟨_, _, Try.func40, rfl, by kernel_rfl⟩
theorem Try_C41 : CallOK Try.prog 41 := ⟨_, _, Try.func41, rfl, by kernel_rfl⟩
theorem Try_C42 : CallOK Try.prog 42 := ⟨_, _, Try.func42, rfl, by kernel_rfl⟩
theorem Try_C43 : CallOK Try.prog 43 := ⟨_, _, Try.func43, rfl, by kernel_rfl⟩
theorem Try_C44 : CallOK Try.prog 44 := ⟨_, _, Try.func44, rfl, by kernel_rfl⟩
theorem Try_C45 : CallOK Try.prog 45 := ⟨_, _, Try.func45, rfl, by kernel_rfl⟩
theorem Try_C46 : CallOK Try.prog 46 := ⟨_, _, Try.func46, rfl, by kernel_rfl⟩
theorem Try_C47 : CallOK Try.prog 47 := ⟨_, _, Try.func47, rfl, by kernel_rfl⟩
theorem Try_C48 : CallOK Try.prog 48 := ⟨_, _, Try.func48, rfl, by kernel_rfl⟩
theorem Try_C49 : CallOK Try.prog 49 := ⟨_, _, Try.func49, rfl, by kernel_rfl⟩
theorem Try_C50 : CallOK Try.prog 50 := ⟨_, _, Try.func50, rfl, by kernel_rfl⟩
theorem Try_C51 : CallOK Try.prog 51 := ⟨_, _, Try.func51, rfl, by kernel_rfl⟩
theorem Try_C52 : CallOK Try.prog 52 := ⟨_, _, Try.func52, rfl, by kernel_rfl⟩
theorem Try_C53 : CallOK Try.prog 53 := ⟨_, _, Try.func53, rfl, by kernel_rfl⟩
theorem Try_C54 : CallOK Try.prog 54 := ⟨_, _, Try.func54, rfl, by kernel_rfl⟩
theorem Try_C55 : CallOK Try.prog 55 := ⟨_, _, Try.func55, rfl, by kernel_rfl⟩
theorem Try_C56 : CallOK Try.prog 56 := ⟨_, _, Try.func56, rfl, by kernel_rfl⟩
theorem Try_C57 : CallOK Try.prog 57 := ⟨_, _, Try.func57, rfl, by kernel_rfl⟩
theorem Try_C58 : CallOK Try.prog 58 := ⟨_, _, Try.func58, rfl, by kernel_rfl⟩
theorem Try_C59 : CallOK Try.prog 59 := ⟨_, _, Try.func59, rfl, by kernel_rfl⟩
theorem Try_C60 : CallOK Try.prog 60 := ⟨_, _, Try.func60, rfl, by kernel_rfl⟩
theorem Try_C61 : CallOK Try.prog 61 := ⟨_, _, Try.func61, rfl, by kernel_rfl⟩
theorem Try_C62 : CallOK Try.prog 62 := ⟨_, _, Try.func62, rfl, by kernel_rfl⟩
theorem Try_C63 : CallOK Try.prog 63 := ⟨_, _, Try.func63, rfl, by kernel_rfl⟩
theorem Try_C64 : CallOK Try.prog 64 := ⟨_, _, Try.func64, rfl, by kernel_rfl⟩
theorem Try_C65 : CallOK Try.prog 65 := ⟨_, _, Try.func65, rfl, by kernel_rfl⟩
theorem Try_C66 : CallOK Try.prog 66 := ⟨_, _, Try.func66, rfl, by kernel_rfl⟩
theorem Try_C67 : CallOK Try.prog 67 := ⟨_, _, Try.func67, rfl, by kernel_rfl⟩
theorem Try_C68 : CallOK Try.prog 68 := ⟨_, _, Try.func68, rfl, by kernel_rfl⟩
theorem Try_C69 : CallOK Try.prog 69 := ⟨_, _, Try.func69, rfl, by kernel_rfl⟩
theorem Try_C70 : CallOK Try.prog 70 := ⟨_, _, Try.func70, rfl, by kernel_rfl⟩
theorem Try_C71 : CallOK Try.prog 71 := ⟨_, _, Try.func71, rfl, by kernel_rfl⟩
theorem Try_C72 : CallOK Try.prog 72 := ⟨_, _, Try.func72, rfl, by kernel_rfl⟩
theorem Try_C73 : CallOK Try.prog 73 := ⟨_, _, Try.func73, rfl, by kernel_rfl⟩
theorem Try_C74 : CallOK Try.prog 74 := ⟨_, _, Try.func74, rfl, by kernel_rfl⟩
theorem Try_C75 : CallOK Try.prog 75 := ⟨_, _, Try.func75, rfl, by kernel_rfl⟩
theorem Try_C76 : CallOK Try.prog 76 := ⟨_, _, Try.func76, rfl, by kernel_rfl⟩
theorem Try_C77 : CallOK Try.prog 77 := ⟨_, _, Try.func77, rfl, by kernel_rfl⟩
theorem Try_C78 : CallOK Try.prog 78 := ⟨_, _, Try.func78, rfl, by kernel_rfl⟩
theorem Try_C79 : CallOK Try.prog 79 := ⟨_, _, Try.func79, rfl, by kernel_rfl⟩
theorem Try_C80 : CallOK Try.prog 80 := ⟨_, _, Try.func80, rfl, by kernel_rfl⟩
theorem Try_C81 : CallOK Try.prog 81 := ⟨_, _, Try.func81, rfl, by kernel_rfl⟩
theorem Try_C82 : CallOK Try.prog 82 := ⟨_, _, Try.func82, rfl, by kernel_rfl⟩
theorem Try_C83 : CallOK Try.prog 83 := ⟨_, _, Try.func83, rfl, by kernel_rfl⟩
theorem Try_C84 : CallOK Try.prog 84 := ⟨_, _, Try.func84, rfl, by kernel_rfl⟩
theorem Try_C85 : CallOK Try.prog 85 := ⟨_, _, Try.func85, rfl, by kernel_rfl⟩
theorem Try_C86 : CallOK Try.prog 86 := ⟨_, _, Try.func86, rfl, by kernel_rfl⟩
theorem Try_C87 : CallOK Try.prog 87 := ⟨_, _, Try.func87, rfl, by kernel_rfl⟩
theorem Try_C88 : CallOK Try.prog 88 := ⟨_, _, Try.func88, rfl, by kernel_rfl⟩
theorem Try_C89 : CallOK Try.prog 89 := ⟨_, _, Try.func89, rfl, by kernel_rfl⟩
theorem Try_C90 : CallOK Try.prog 90 := ⟨_, _, Try.func90, rfl, by kernel_rfl⟩
theorem Try_C91 : CallOK Try.prog 91 := ⟨_, _, Try.func91, rfl, by kernel_rfl⟩
theorem Try_C92 : CallOK Try.prog 92 := ⟨_, _, Try.func92, rfl, by kernel_rfl⟩
theorem Try_C93 : CallOK Try.prog 93 := ⟨_, _, Try.func93, rfl, by kernel_rfl⟩
theorem Try_C94 : CallOK Try.prog 94 := ⟨_, _, Try.func94, rfl, by kernel_rfl⟩
theorem Try_C95 : CallOK Try.prog 95 := ⟨_, _, Try.func95, rfl, by kernel_rfl⟩
theorem Try_C96 : CallOK Try.prog 96 := ⟨_, _, Try.func96, rfl, by kernel_rfl⟩
theorem Try_C97 : CallOK Try.prog 97 := ⟨_, _, Try.func97, rfl, by kernel_rfl⟩
theorem Try_C98 : CallOK Try.prog 98 := ⟨_, _, Try.func98, rfl, by kernel_rfl⟩
theorem Try_C99 : CallOK Try.prog 99 := ⟨_, _, Try.func99, rfl, by kernel_rfl⟩

theorem M.spec_l01In_ok (w0 : World) (a0 : Int) (a1 : Int) (a2 : Int) {r : Bool} (hm : M.spec_l01In a0 a1 a2 = some r) :
    Calls Try.prog 61 #[(.int .i64 a0), (.int .i64 a1), (.int .i64 a2)] w0 fun e w' => e = .returned (.bool r) ∧ Fresh w0 w' [] := by
  unfold M.spec_l01In at hm
  refine calls_CW (args := [(.int .i64 a0), (.int .i64 a1), (.int .i64 a2)]) Try.func61 rfl rfl rfl ?_
  have hL := Hp.start w0
  refine CW.seq ?_
  refine CW.regionL ?_
  refine OW.cons (OP.val (v := (.bool false)) rfl (x_assign) ?_)
  refine OW.nil ?_
  refine CW.seqJ (fun (s_j1 : Bool) (F : Fr) (w : World) => F 6 = (.bool s_j1) ∧ Hp w0 [Ent.snap w0 w0.heap.size] w) (fun s_j1 => M.spec_l01In_j1 s_j1 = some r) ?_ ?_
  · refine CW.regionL ?_
    refine OW.cons (OP.val (v := (.int .i64 a0)) rfl (x_move) ?_)
    refine OW.cons (OP.val (v := (.int .i64 a1)) rfl (x_move) ?_)
    refine OW.cons (OP.val (v := (.bool (decide (a1 ≤ a0)))) rfl (x_geq rfl rfl) ?_)
    refine OW.cons (OP.val (v := (.bool (decide (a1 ≤ a0)))) rfl (x_move) ?_)
    refine ifB_elim hm (fun hb5 hm => ?_) (fun hb5 hm => ?_)
    · refine OW.cons (OP.yes' rfl rfl hb5 (OP.val (v := (.int .i64 a0)) rfl (x_move) ?_))
      refine OW.cons (OP.yes' rfl rfl hb5 (OP.val (v := (.int .i64 a2)) rfl (x_move) ?_))
      refine OW.cons (OP.yes' rfl rfl hb5 (OP.val (v := (.bool (decide (a0 ≤ a2)))) rfl (x_leq rfl rfl) ?_))
      refine OW.cons (OP.val (v := (.bool (decide (a0 ≤ a2)))) rfl (x_pickT' rfl hb5 rfl) ?_)
      refine OW.cons (OP.val (v := (.bool (decide (a0 ≤ a2)))) rfl (x_assign) ?_)
      refine OW.nil ?_
      exact ⟨decide (a0 ≤ a2), hm, ⟨rfl, hL⟩⟩
    · refine OW.cons (OP.no' rfl rfl hb5 rfl ?_)
      refine OW.cons (OP.no' rfl rfl hb5 rfl ?_)
      refine OW.cons (OP.no' rfl rfl hb5 rfl ?_)
      refine OW.cons (OP.val (v := (.bool false)) rfl (x_pickF' rfl hb5 rfl) ?_)
      refine OW.cons (OP.val (v := (.bool false)) rfl (x_assign) ?_)
      refine OW.nil ?_
      exact ⟨false, hm, ⟨rfl, hL⟩⟩
  · intro s_j1 F2 wd3 hJ hm
    unfold M.spec_l01In_j1 at hm
    obtain ⟨f4, hL⟩ := hJ
    refine CW.ret ?_
    obtain rfl := Option.some.inj hm
    exact RR1 rfl f4 ⟨rfl, hL.fresh 0 rfl [] (by decide) (by decide) rfl⟩

theorem M.spec_l26Code_ok (w0 : World) (a0 : Int) {r : Bool} (hm : M.spec_l26Code a0 = some r) :
    Calls Try.prog 85 #[(.int .i64 a0)] w0 fun e w' => e = .returned (.bool r) ∧ Fresh w0 w' [] := by
  unfold M.spec_l26Code at hm
  refine calls_CW (args := [(.int .i64 a0)]) Try.func85 rfl rfl rfl ?_
  have hL := Hp.start w0
  refine CW.seq ?_
  refine CW.regionL ?_
  refine OW.cons (OP.val (v := (.bool false)) rfl (x_assign) ?_)
  refine OW.nil ?_
  refine CW.seq ?_
  refine CW.regionL ?_
  refine OW.cons (OP.val (v := (.int .i64 a0)) rfl (x_move) ?_)
  obtain ⟨x1, hx2, hm⟩ := bndE hm
  refine OW.cons (OP.call rfl (x_call (vs := [(.int .i64 a0), (.int .i64 0), (.int .i64 9)]) Try_C61 ⟨rfl, rfl, rfl, trivial⟩) (M.spec_l01In_ok _ a0 0 9 hx2) ?_)
  rintro e3 wd4 ⟨rfl, hF5⟩
  refine ⟨_, rfl, ?_⟩
  have hL := hL.pushAll hF5
  simp only [lA, lB, lC, lD] at hL
  refine OW.cons (OP.val (v := (.bool x1)) rfl (x_assign) ?_)
  refine OW.nil ?_
  refine CW.ret ?_
  obtain rfl := Option.some.inj hm
  exact RR1 rfl rfl ⟨rfl, hL.fresh 0 rfl [] (by decide) (by decide) rfl⟩

theorem M.spec_l26Race_ok (w0 : World) (a0 : Int) (a1 : Race) {v1 : Value} (h2 : rdL (· < w0.heap.size) w0 v1 a1.Finishes) {r : Bool} (hm : M.spec_l26Race a0 a1 = some r) :
    Calls Try.prog 62 #[(.int .i64 a0), (.agg #[v1])] w0 fun e w' => e = .returned (.bool r) ∧ Fresh w0 w' [] := by
  unfold M.spec_l26Race at hm
  refine calls_CW (args := [(.int .i64 a0), (.agg #[v1])]) Try.func62 rfl rfl rfl ?_
  have hL := Hp.start w0
  refine CW.seq ?_
  refine CW.regionL ?_
  refine OW.cons (S_box (cs := #[v1]) hL rfl rfl rfl ?_)
  intro wd3 b4 hL
  refine OW.cons (OP.val (v := (.bool false)) rfl (x_assign) ?_)
  refine OW.nil ?_
  refine CW.seq ?_
  refine CW.seq ?_
  refine CW.regionL ?_
  refine OW.cons (OP.val (v := (.pointer (some ⟨b4, 0, none⟩))) rfl (x_fieldAddr (fsz := 1) 0 0 0 Try.underlying46 rfl Try_T44 rfl rfl rfl) ?_)
  refine OW.cons (OP.val (v := v1) rfl (x_load1 Try.underlying44 rfl rfl (hL.cellB 0 rfl rfl)) ?_)
  refine OW.cons (OP.val (v := (.int .i64 (a1.Finishes.length : Int))) rfl (x_lenR Try.underlying44 rfl (hL.rdS 1 rfl h2)) ?_)
  refine OW.cons (OP.val (v := (.int .i64 a0)) rfl (x_move) ?_)
  refine OW.cons (OP.val (v := (.bool ((a1.Finishes.length : Int) != a0))) rfl (x_neq rfl rfl) ?_)
  refine OW.nil ?_
  refine CW.condM (t := (a1.Finishes.length : Int) != a0) rfl hm (fun hb5 hm => ?_) (fun hb5 hm => ?_)
  · refine CW.seq ?_
    refine CW.regionL ?_
    refine OW.cons (OP.val (v := (.bool false)) rfl (x_assign) ?_)
    refine OW.nil ?_
    refine CW.ret ?_
    obtain rfl := Option.some.inj hm
    exact RR1 rfl rfl ⟨rfl, hL.fresh 1 rfl [] (by decide) (by decide) rfl⟩
  · refine CW.skip ?_
    refine CW.seq ?_
    refine CW.seq ?_
    refine CW.regionL ?_
    refine OW.cons (OP.val (v := (.int .i64 0)) rfl (x_assign) ?_)
    refine OW.nil ?_
    obtain ⟨o116, ho117, hm⟩ := bndE hm
    refine CW.loopB (fun (s_l1 : Int) (F : Fr) (w : World) => F 3 = (.pointer (some ⟨b4, 0, none⟩)) ∧ F 5 = (.int .i64 s_l1) ∧ Hp w0 [Ent.blk b4 46 #[v1], Ent.snap w0 w0.heap.size] w) (fun o => outc o (fun x => some x) (fun s => M.spec_l26Race_a1 s) = some r) ho117 hm ⟨rfl, rfl, hL⟩ ?_ ?_
    · intro s_l1 F118 wd119 hJ hm
      have hm := outcE hm
      have hm : M.spec_l26Race_a1 s_l1 = some r := hm
      unfold M.spec_l26Race_a1 at hm
      obtain ⟨f120, f121, hL⟩ := hJ
      refine CW.seq ?_
      refine CW.regionL ?_
      refine OW.cons (OP.val (v := (.bool true)) rfl (x_assign) ?_)
      refine OW.nil ?_
      refine CW.ret ?_
      obtain rfl := Option.some.inj hm
      exact RR1 rfl rfl ⟨rfl, hL.fresh 1 rfl [] (by decide) (by decide) rfl⟩
    · intro s_l1 F122 wd123 t114 hJ hm hr115
      unfold M.spec_l26Race_l1 at hm
      obtain ⟨f124, f125, hL⟩ := hJ
      refine CW.seq ?_
      refine CW.seq ?_
      refine CW.regionL ?_
      refine OW.cons (OP.val (v := (.int .i64 s_l1)) rfl (x_mv f125) ?_)
      refine OW.cons (OP.val (v := (.pointer (some ⟨b4, 0, none⟩))) rfl (x_fieldAddr (fsz := 1) 0 0 0 Try.underlying46 rfl Try_T44 rfl f124 rfl) ?_)
      refine OW.cons (OP.val (v := v1) rfl (x_load1 Try.underlying44 rfl rfl (hL.cellB 0 rfl rfl)) ?_)
      refine OW.cons (OP.val (v := (.int .i64 (a1.Finishes.length : Int))) rfl (x_lenR Try.underlying44 rfl (hL.rdS 1 rfl h2)) ?_)
      refine OW.cons (OP.val (v := (.bool (decide (s_l1 < (a1.Finishes.length : Int))))) rfl (x_lss rfl rfl) ?_)
      refine OW.nil ?_
      refine CW.condM (t := decide (s_l1 < (a1.Finishes.length : Int))) rfl hm (fun hb126 hm => ?_) (fun hb126 hm => ?_)
      · refine CW.skip ?_
        refine CW.seq ?_
        refine CW.block ?_
        refine CW.seq ?_
        refine CW.regionL ?_
        refine OW.cons (OP.val (v := (.pointer (some ⟨b4, 0, none⟩))) rfl (x_fieldAddr (fsz := 1) 0 0 0 Try.underlying46 rfl Try_T44 rfl f124 rfl) ?_)
        refine OW.cons (OP.val (v := v1) rfl (x_load1 Try.underlying44 rfl rfl (hL.cellB 0 rfl rfl)) ?_)
        refine OW.cons (OP.val (v := (.int .i64 s_l1)) rfl (x_mv f125) ?_)
        obtain ⟨x127, ha128, hm⟩ := bndE hm
        obtain ⟨hz129, ha133⟩ := idxE ha128
        obtain ⟨b130, q131, hix132⟩ := rdL_ix (hL.rdS 1 rfl h2) hz129 ha133
        refine OW.cons (OP.val (v := (.pointer (some ⟨b130, q131, none⟩))) rfl (x_ix Try.underlying44 Try_T50 rfl rfl hix132) ?_)
        refine OW.cons (OP.val (v := (.agg #[(.int .i64 x127.Boat), (.int .i64 x127.Code), (.int .i64 x127.Time)])) rfl (x_loadN (cs := [(.int .i64 x127.Boat), (.int .i64 x127.Code), (.int .i64 x127.Time)]) Try.underlying50 Try_T50 rfl rfl (rdF_cells (hL.rdS 1 rfl h2) hix132 ha133)) ?_)
        refine OW.cons (S_alloc (cs := #[(.int .i64 0), (.int .i64 0), (.int .i64 0)]) hL Try_T50 rfl rfl ?_)
        intro wd134 b135 hL
        refine OW.cons (S_storeN (l := [(.int .i64 x127.Boat), (.int .i64 x127.Code), (.int .i64 x127.Time)]) (cs' := #[(.int .i64 x127.Boat), (.int .i64 x127.Code), (.int .i64 x127.Time)]) hL 0 rfl Try_T50 rfl rfl (List.forall_mem_cons.2 ⟨rfl, (List.forall_mem_cons.2 ⟨rfl, (List.forall_mem_cons.2 ⟨rfl, (fun _ h => by cases h)⟩)⟩)⟩) rfl (Nat.le_of_ble_eq_true rfl) rfl ?_)
        intro wd136 hL
        refine OW.nil ?_
        refine CW.seq ?_
        refine CW.seqJ (fun (s_j1 : Bool) (F : Fr) (w : World) => F 3 = (.pointer (some ⟨b4, 0, none⟩)) ∧ F 5 = (.int .i64 s_l1) ∧ F 6 = (.pointer (some ⟨b135, 0, none⟩)) ∧ F 33 = (.bool s_j1) ∧ Hp w0 [Ent.blk b135 50 #[(.int .i64 x127.Boat), (.int .i64 x127.Code), (.int .i64 x127.Time)], Ent.blk b4 46 #[v1], Ent.snap w0 w0.heap.size] w) (fun s_j1 => M.spec_l26Race_j1 s_l1 x127 s_j1 = some t114) ?_ ?_
        · refine CW.regionL ?_
          refine OW.cons (OP.val (v := (.pointer (some ⟨b135, 0, none⟩))) rfl (x_fieldAddr (fsz := 1) 0 0 0 Try.underlying50 rfl Try_T2 rfl rfl rfl) ?_)
          refine OW.cons (OP.val (v := (.int .i64 x127.Boat)) rfl (x_load1 Try.underlying2 rfl rfl (hL.cellB 0 rfl rfl)) ?_)
          refine OW.cons (OP.val (v := (.int .i64 s_l1)) rfl (x_mv f125) ?_)
          refine OW.cons (OP.val (v := (.bool (x127.Boat != s_l1))) rfl (x_neq rfl rfl) ?_)
          refine OW.cons (OP.val (v := (.bool (x127.Boat != s_l1))) rfl (x_move) ?_)
          refine ifB_elim hm (fun hb174 hm => ?_) (fun hb174 hm => ?_)
          · refine OW.cons (OP.no' rfl rfl hb174 rfl ?_)
            refine OW.cons (OP.no' rfl rfl hb174 rfl ?_)
            refine OW.cons (OP.no' rfl rfl hb174 rfl ?_)
            refine OW.cons (OP.no' rfl rfl hb174 rfl ?_)
            refine OW.cons (OP.val (v := (.bool true)) rfl (x_pickT' rfl hb174 rfl) ?_)
            refine OW.nil ?_
            exact ⟨true, hm, ⟨f124, f125, rfl, rfl, hL⟩⟩
          · refine OW.cons (OP.yes' rfl rfl hb174 (OP.val (v := (.pointer (some ⟨b135, 1, none⟩))) rfl (x_fieldAddr (fsz := 1) 0 1 1 Try.underlying50 rfl Try_T2 rfl rfl rfl) ?_))
            refine OW.cons (OP.yes' rfl rfl hb174 (OP.val (v := (.int .i64 x127.Code)) rfl (x_load1 Try.underlying2 rfl rfl (hL.cellB 0 rfl rfl)) ?_))
            obtain ⟨x175, hx176, hm⟩ := bndE hm
            refine OW.cons (OP.yes' rfl rfl hb174 (OP.call rfl (x_call (vs := [(.int .i64 x127.Code)]) Try_C85 ⟨rfl, trivial⟩) (M.spec_l26Code_ok _ x127.Code hx176) ?_))
            rintro e177 wd178 ⟨rfl, hF179⟩
            refine ⟨_, rfl, ?_⟩
            have hL := hL.pushAll hF179
            simp only [lA, lB, lC, lD] at hL
            refine OW.cons (OP.yes' rfl rfl hb174 (OP.val (v := (.bool (!x175))) rfl (x_not rfl) ?_))
            refine OW.cons (OP.val (v := (.bool (!x175))) rfl (x_pickF' rfl hb174 rfl) ?_)
            refine OW.nil ?_
            exact ⟨!x175, hm, ⟨f124, f125, rfl, rfl, hL⟩⟩
        · intro s_j1 F143 wd144 hJ hm
          unfold M.spec_l26Race_j1 at hm
          obtain ⟨f145, f146, f147, f148, hL⟩ := hJ
          refine CW.condM (t := s_j1) f148 hm (fun hb149 hm => ?_) (fun hb149 hm => ?_)
          · refine CW.seq ?_
            refine CW.regionL ?_
            refine OW.cons (OP.val (v := (.bool false)) rfl (x_assign) ?_)
            refine OW.nil ?_
            refine CW.ret ?_
            obtain rfl := Option.some.inj hm
            have hm := hr115 _ rfl
            obtain rfl := Option.some.inj hm
            exact RR1 rfl rfl ⟨rfl, hL.fresh 2 rfl [] (by decide) (by decide) rfl⟩
          · refine CW.skip ?_
            refine CW.seqJ (fun (s_j2 : Bool) (F : Fr) (w : World) => F 3 = (.pointer (some ⟨b4, 0, none⟩)) ∧ F 5 = (.int .i64 s_l1) ∧ F 52 = (.bool s_j2) ∧ Hp w0 [Ent.blk b135 50 #[(.int .i64 x127.Boat), (.int .i64 x127.Code), (.int .i64 x127.Time)], Ent.blk b4 46 #[v1], Ent.snap w0 w0.heap.size] w) (fun s_j2 => M.spec_l26Race_j2 s_l1 s_j2 = some t114) ?_ ?_
            · refine CW.regionL ?_
              refine OW.cons (OP.val (v := (.pointer (some ⟨b135, 1, none⟩))) rfl (x_fieldAddr (fsz := 1) 0 1 1 Try.underlying50 rfl Try_T2 rfl f147 rfl) ?_)
              refine OW.cons (OP.val (v := (.int .i64 x127.Code)) rfl (x_load1 Try.underlying2 rfl rfl (hL.cellB 0 rfl rfl)) ?_)
              refine OW.cons (OP.val (v := (.bool (x127.Code == 0))) rfl (x_eql rfl rfl) ?_)
              refine OW.cons (OP.val (v := (.bool (x127.Code == 0))) rfl (x_move) ?_)
              refine ifB_elim hm (fun hb165 hm => ?_) (fun hb165 hm => ?_)
              · refine OW.cons (OP.yes' rfl rfl hb165 (OP.val (v := (.pointer (some ⟨b135, 2, none⟩))) rfl (x_fieldAddr (fsz := 1) 0 2 2 Try.underlying50 rfl Try_T2 rfl f147 rfl) ?_))
                refine OW.cons (OP.yes' rfl rfl hb165 (OP.val (v := (.int .i64 x127.Time)) rfl (x_load1 Try.underlying2 rfl rfl (hL.cellB 0 rfl rfl)) ?_))
                obtain ⟨x166, hx167, hm⟩ := bndE hm
                refine OW.cons (OP.yes' rfl rfl hb165 (OP.call rfl (x_call (vs := [(.int .i64 x127.Time), (.int .i64 1), (.int .i64 1000000000)]) Try_C61 ⟨rfl, rfl, rfl, trivial⟩) (M.spec_l01In_ok _ x127.Time 1 1000000000 hx167) ?_))
                rintro e168 wd169 ⟨rfl, hF170⟩
                refine ⟨_, rfl, ?_⟩
                have hL := hL.pushAll hF170
                simp only [lA, lB, lC, lD] at hL
                refine OW.cons (OP.yes' rfl rfl hb165 (OP.val (v := (.bool (!x166))) rfl (x_not rfl) ?_))
                refine OW.cons (OP.val (v := (.bool (!x166))) rfl (x_pickT' rfl hb165 rfl) ?_)
                refine OW.cons (OP.val (v := (.bool (!x166))) rfl (x_move) ?_)
                refine ifB_elim hm (fun hb171 hm => ?_) (fun hb171 hm => ?_)
                · refine OW.cons (OP.no' rfl rfl hb171 rfl ?_)
                  refine OW.cons (OP.no' rfl rfl hb171 rfl ?_)
                  refine OW.cons (OP.no' rfl rfl hb171 rfl ?_)
                  refine OW.cons (OP.no' rfl rfl hb171 rfl ?_)
                  refine OW.cons (OP.noU rfl rfl rfl ?_)
                  refine OW.cons (OP.noU rfl rfl rfl ?_)
                  refine OW.cons (OP.noU rfl rfl rfl ?_)
                  refine OW.cons (OP.no' rfl rfl hb171 rfl ?_)
                  refine OW.cons (OP.val (v := (.bool true)) rfl (x_pickT' rfl hb171 rfl) ?_)
                  refine OW.nil ?_
                  exact ⟨true, hm, ⟨f145, f146, rfl, hL⟩⟩
                · refine OW.cons (OP.yes' rfl rfl hb171 (OP.val (v := (.pointer (some ⟨b135, 1, none⟩))) rfl (x_fieldAddr (fsz := 1) 0 1 1 Try.underlying50 rfl Try_T2 rfl f147 rfl) ?_))
                  refine OW.cons (OP.yes' rfl rfl hb171 (OP.val (v := (.int .i64 x127.Code)) rfl (x_load1 Try.underlying2 rfl rfl (hL.cellB 0 rfl rfl)) ?_))
                  refine OW.cons (OP.yes' rfl rfl hb171 (OP.val (v := (.bool (x127.Code != 0))) rfl (x_neq rfl rfl) ?_))
                  refine OW.cons (OP.yes' rfl rfl hb171 (OP.val (v := (.bool (x127.Code != 0))) rfl (x_move) ?_))
                  refine ifB_elim hm (fun hb172 hm => ?_) (fun hb172 hm => ?_)
                  · refine OW.cons (OP.yes' rfl rfl hb172 (OP.val (v := (.pointer (some ⟨b135, 2, none⟩))) rfl (x_fieldAddr (fsz := 1) 0 2 2 Try.underlying50 rfl Try_T2 rfl f147 rfl) ?_))
                    refine OW.cons (OP.yes' rfl rfl hb172 (OP.val (v := (.int .i64 x127.Time)) rfl (x_load1 Try.underlying2 rfl rfl (hL.cellB 0 rfl rfl)) ?_))
                    refine OW.cons (OP.yes' rfl rfl hb172 (OP.val (v := (.bool (x127.Time != 0))) rfl (x_neq rfl rfl) ?_))
                    refine OW.cons (OP.yes' rfl rfl hb171 (OP.val (v := (.bool (x127.Time != 0))) rfl (x_pickT' rfl hb172 rfl) ?_))
                    refine OW.cons (OP.val (v := (.bool (x127.Time != 0))) rfl (x_pickF' rfl hb171 rfl) ?_)
                    refine OW.nil ?_
                    exact ⟨x127.Time != 0, hm, ⟨f145, f146, rfl, hL⟩⟩
                  · refine OW.cons (OP.no' rfl rfl hb172 rfl ?_)
                    refine OW.cons (OP.no' rfl rfl hb172 rfl ?_)
                    refine OW.cons (OP.no' rfl rfl hb172 rfl ?_)
                    refine OW.cons (OP.yes' rfl rfl hb171 (OP.val (v := (.bool false)) rfl (x_pickF' rfl hb172 rfl) ?_))
                    refine OW.cons (OP.val (v := (.bool false)) rfl (x_pickF' rfl hb171 rfl) ?_)
                    refine OW.nil ?_
                    exact ⟨false, hm, ⟨f145, f146, rfl, hL⟩⟩
              · refine OW.cons (OP.no' rfl rfl hb165 rfl ?_)
                refine OW.cons (OP.no' rfl rfl hb165 rfl ?_)
                refine OW.cons (OP.no' rfl rfl hb165 rfl ?_)
                refine OW.cons (OP.no' rfl rfl hb165 rfl ?_)
                refine OW.cons (OP.val (v := (.bool false)) rfl (x_pickF' rfl hb165 rfl) ?_)
                refine OW.cons (OP.val (v := (.bool false)) rfl (x_move) ?_)
                refine OW.cons (OP.yes' rfl rfl rfl (OP.val (v := (.pointer (some ⟨b135, 1, none⟩))) rfl (x_fieldAddr (fsz := 1) 0 1 1 Try.underlying50 rfl Try_T2 rfl f147 rfl) ?_))
                refine OW.cons (OP.yes' rfl rfl rfl (OP.val (v := (.int .i64 x127.Code)) rfl (x_load1 Try.underlying2 rfl rfl (hL.cellB 0 rfl rfl)) ?_))
                refine OW.cons (OP.yes' rfl rfl rfl (OP.val (v := (.bool (x127.Code != 0))) rfl (x_neq rfl rfl) ?_))
                refine OW.cons (OP.yes' rfl rfl rfl (OP.val (v := (.bool (x127.Code != 0))) rfl (x_move) ?_))
                refine ifB_elim hm (fun hb173 hm => ?_) (fun hb173 hm => ?_)
                · refine OW.cons (OP.yes' rfl rfl hb173 (OP.val (v := (.pointer (some ⟨b135, 2, none⟩))) rfl (x_fieldAddr (fsz := 1) 0 2 2 Try.underlying50 rfl Try_T2 rfl f147 rfl) ?_))
                  refine OW.cons (OP.yes' rfl rfl hb173 (OP.val (v := (.int .i64 x127.Time)) rfl (x_load1 Try.underlying2 rfl rfl (hL.cellB 0 rfl rfl)) ?_))
                  refine OW.cons (OP.yes' rfl rfl hb173 (OP.val (v := (.bool (x127.Time != 0))) rfl (x_neq rfl rfl) ?_))
                  refine OW.cons (OP.yes' rfl rfl rfl (OP.val (v := (.bool (x127.Time != 0))) rfl (x_pickT' rfl hb173 rfl) ?_))
                  refine OW.cons (OP.val (v := (.bool (x127.Time != 0))) rfl (x_pickF' rfl rfl rfl) ?_)
                  refine OW.nil ?_
                  exact ⟨x127.Time != 0, hm, ⟨f145, f146, rfl, hL⟩⟩
                · refine OW.cons (OP.no' rfl rfl hb173 rfl ?_)
                  refine OW.cons (OP.no' rfl rfl hb173 rfl ?_)
                  refine OW.cons (OP.no' rfl rfl hb173 rfl ?_)
                  refine OW.cons (OP.yes' rfl rfl rfl (OP.val (v := (.bool false)) rfl (x_pickF' rfl hb173 rfl) ?_))
                  refine OW.cons (OP.val (v := (.bool false)) rfl (x_pickF' rfl rfl rfl) ?_)
                  refine OW.nil ?_
                  exact ⟨false, hm, ⟨f145, f146, rfl, hL⟩⟩
            · intro s_j2 F159 wd160 hJ hm
              unfold M.spec_l26Race_j2 at hm
              obtain ⟨f161, f162, f163, hL⟩ := hJ
              refine CW.condM (t := s_j2) f163 hm (fun hb164 hm => ?_) (fun hb164 hm => ?_)
              · refine CW.seq ?_
                refine CW.regionL ?_
                refine OW.cons (OP.val (v := (.bool false)) rfl (x_assign) ?_)
                refine OW.nil ?_
                refine CW.ret ?_
                obtain rfl := Option.some.inj hm
                have hm := hr115 _ rfl
                obtain rfl := Option.some.inj hm
                exact RR1 rfl rfl ⟨rfl, hL.fresh 2 rfl [] (by decide) (by decide) rfl⟩
              · refine CW.skip ?_
                refine CW.regionL ?_
                refine OW.cons (OP.val (v := (.int .i64 s_l1)) rfl (x_mv f162) ?_)
                refine OW.cons (OP.val (v := (.int .i64 (w64 (s_l1 + 1)))) rfl (x_add rfl rfl) ?_)
                refine OW.cons (OP.val (v := (.int .i64 (w64 (s_l1 + 1)))) rfl (x_assign) ?_)
                refine OW.nil ?_
                have hL := hL.sel [1, 2] (by decide) rfl
                obtain rfl := Option.some.inj hm
                exact ⟨_, rfl, ⟨f161, rfl, hL⟩⟩
      · refine CW.exit ?_
        refine XJ.hit ?_
        obtain rfl := Option.some.inj hm
        exact ⟨_, rfl, ⟨f124, f125, hL⟩⟩

theorem M.spec_IsSeries_ok (w0 : World) (a0 : Series) {v1 : Value} (h2 : rdL (· < w0.heap.size) w0 v1 a0.Races) {r : Bool} (hm : M.spec_IsSeries a0 = some r) :
    Calls Try.prog 34 #[(.agg #[(.int .i64 a0.Boats), (.int .i64 a0.Scheme), v1])] w0 fun e w' => e = .returned (.bool r) ∧ Fresh w0 w' [] := by
  unfold M.spec_IsSeries at hm
  refine calls_CW (args := [(.agg #[(.int .i64 a0.Boats), (.int .i64 a0.Scheme), v1])]) Try.func34 rfl rfl rfl ?_
  have hL := Hp.start w0
  refine CW.seq ?_
  refine CW.regionL ?_
  refine OW.cons (S_box (cs := #[(.int .i64 a0.Boats), (.int .i64 a0.Scheme), v1]) hL rfl rfl rfl ?_)
  intro wd3 b4 hL
  refine OW.cons (OP.val (v := (.bool false)) rfl (x_assign) ?_)
  refine OW.nil ?_
  refine CW.seq ?_
  refine CW.seqJ (fun (s_j1 : Bool) (F : Fr) (w : World) => F 1 = (.pointer (some ⟨b4, 0, none⟩)) ∧ F 19 = (.bool s_j1) ∧ Hp w0 [Ent.blk b4 31 #[(.int .i64 a0.Boats), (.int .i64 a0.Scheme), v1], Ent.snap w0 w0.heap.size] w) (fun s_j1 => M.spec_IsSeries_j1 a0 s_j1 = some r) ?_ ?_
  · refine CW.regionL ?_
    refine OW.cons (OP.val (v := (.pointer (some ⟨b4, 0, none⟩))) rfl (x_fieldAddr (fsz := 1) 0 0 0 Try.underlying31 rfl Try_T2 rfl rfl rfl) ?_)
    refine OW.cons (OP.val (v := (.int .i64 a0.Boats)) rfl (x_load1 Try.underlying2 rfl rfl (hL.cellB 0 rfl rfl)) ?_)
    obtain ⟨x82, hx83, hm⟩ := bndE hm
    refine OW.cons (OP.call rfl (x_call (vs := [(.int .i64 a0.Boats), (.int .i64 1), (.int .i64 16)]) Try_C61 ⟨rfl, rfl, rfl, trivial⟩) (M.spec_l01In_ok _ a0.Boats 1 16 hx83) ?_)
    rintro e84 wd85 ⟨rfl, hF86⟩
    refine ⟨_, rfl, ?_⟩
    have hL := hL.pushAll hF86
    simp only [lA, lB, lC, lD] at hL
    refine OW.cons (OP.val (v := (.bool (!x82))) rfl (x_not rfl) ?_)
    refine OW.cons (OP.val (v := (.bool (!x82))) rfl (x_move) ?_)
    refine ifB_elim hm (fun hb87 hm => ?_) (fun hb87 hm => ?_)
    · refine OW.cons (OP.no' rfl rfl hb87 rfl ?_)
      refine OW.cons (OP.no' rfl rfl hb87 rfl ?_)
      refine OW.cons (OP.no' rfl rfl hb87 rfl ?_)
      refine OW.cons (OP.no' rfl rfl hb87 rfl ?_)
      refine OW.cons (OP.val (v := (.bool true)) rfl (x_pickT' rfl hb87 rfl) ?_)
      refine OW.cons (OP.val (v := (.bool true)) rfl (x_move) ?_)
      refine OW.cons (OP.no' rfl rfl rfl rfl ?_)
      refine OW.cons (OP.no' rfl rfl rfl rfl ?_)
      refine OW.cons (OP.no' rfl rfl rfl rfl ?_)
      refine OW.cons (OP.no' rfl rfl rfl rfl ?_)
      refine OW.cons (OP.val (v := (.bool true)) rfl (x_pickT' rfl rfl rfl) ?_)
      refine OW.nil ?_
      exact ⟨true, hm, ⟨rfl, rfl, hL⟩⟩
    · refine OW.cons (OP.yes' rfl rfl hb87 (OP.val (v := (.pointer (some ⟨b4, 1, none⟩))) rfl (x_fieldAddr (fsz := 1) 0 1 1 Try.underlying31 rfl Try_T2 rfl rfl rfl) ?_))
      refine OW.cons (OP.yes' rfl rfl hb87 (OP.val (v := (.int .i64 a0.Scheme)) rfl (x_load1 Try.underlying2 rfl rfl (hL.cellB 0 rfl rfl)) ?_))
      obtain ⟨x88, hx89, hm⟩ := bndE hm
      refine OW.cons (OP.yes' rfl rfl hb87 (OP.call rfl (x_call (vs := [(.int .i64 a0.Scheme), (.int .i64 0), (.int .i64 1)]) Try_C61 ⟨rfl, rfl, rfl, trivial⟩) (M.spec_l01In_ok _ a0.Scheme 0 1 hx89) ?_))
      rintro e90 wd91 ⟨rfl, hF92⟩
      refine ⟨_, rfl, ?_⟩
      have hL := hL.pushAll hF92
      simp only [lA, lB, lC, lD] at hL
      refine OW.cons (OP.yes' rfl rfl hb87 (OP.val (v := (.bool (!x88))) rfl (x_not rfl) ?_))
      refine OW.cons (OP.val (v := (.bool (!x88))) rfl (x_pickF' rfl hb87 rfl) ?_)
      refine OW.cons (OP.val (v := (.bool (!x88))) rfl (x_move) ?_)
      refine ifB_elim hm (fun hb93 hm => ?_) (fun hb93 hm => ?_)
      · refine OW.cons (OP.no' rfl rfl hb93 rfl ?_)
        refine OW.cons (OP.no' rfl rfl hb93 rfl ?_)
        refine OW.cons (OP.no' rfl rfl hb93 rfl ?_)
        refine OW.cons (OP.no' rfl rfl hb93 rfl ?_)
        refine OW.cons (OP.val (v := (.bool true)) rfl (x_pickT' rfl hb93 rfl) ?_)
        refine OW.nil ?_
        exact ⟨true, hm, ⟨rfl, rfl, hL⟩⟩
      · refine OW.cons (OP.yes' rfl rfl hb93 (OP.val (v := (.pointer (some ⟨b4, 2, none⟩))) rfl (x_fieldAddr (fsz := 1) 0 2 2 Try.underlying31 rfl Try_T29 rfl rfl rfl) ?_))
        refine OW.cons (OP.yes' rfl rfl hb93 (OP.val (v := v1) rfl (x_load1 Try.underlying29 rfl rfl (hL.cellB 0 rfl rfl)) ?_))
        refine OW.cons (OP.yes' rfl rfl hb93 (OP.val (v := (.int .i64 (a0.Races.length : Int))) rfl (x_lenR Try.underlying29 rfl (hL.rdS 1 rfl h2)) ?_))
        refine OW.cons (OP.yes' rfl rfl hb93 (OP.val (v := (.bool (decide (12 < (a0.Races.length : Int))))) rfl (x_gtr rfl rfl) ?_))
        refine OW.cons (OP.val (v := (.bool (decide (12 < (a0.Races.length : Int))))) rfl (x_pickF' rfl hb93 rfl) ?_)
        refine OW.nil ?_
        exact ⟨decide (12 < (a0.Races.length : Int)), hm, ⟨rfl, rfl, hL⟩⟩
  · intro s_j1 F17 wd18 hJ hm
    unfold M.spec_IsSeries_j1 at hm
    obtain ⟨f19, f20, hL⟩ := hJ
    refine CW.condM (t := s_j1) f20 hm (fun hb21 hm => ?_) (fun hb21 hm => ?_)
    · refine CW.seq ?_
      refine CW.regionL ?_
      refine OW.cons (OP.val (v := (.bool false)) rfl (x_assign) ?_)
      refine OW.nil ?_
      refine CW.ret ?_
      obtain rfl := Option.some.inj hm
      exact RR1 rfl rfl ⟨rfl, hL.fresh 1 rfl [] (by decide) (by decide) rfl⟩
    · refine CW.skip ?_
      refine CW.seq ?_
      refine CW.seq ?_
      refine CW.regionL ?_
      refine OW.cons (OP.val (v := (.int .i64 0)) rfl (x_assign) ?_)
      refine OW.nil ?_
      obtain ⟨o56, ho57, hm⟩ := bndE hm
      refine CW.loopB (fun (s_l1 : Int) (F : Fr) (w : World) => F 1 = (.pointer (some ⟨b4, 0, none⟩)) ∧ F 3 = (.int .i64 s_l1) ∧ Hp w0 [Ent.blk b4 31 #[(.int .i64 a0.Boats), (.int .i64 a0.Scheme), v1], Ent.snap w0 w0.heap.size] w) (fun o => outc o (fun x => some x) (fun s => M.spec_IsSeries_a1 s) = some r) ho57 hm ⟨f19, rfl, hL⟩ ?_ ?_
      · intro s_l1 F58 wd59 hJ hm
        have hm := outcE hm
        have hm : M.spec_IsSeries_a1 s_l1 = some r := hm
        unfold M.spec_IsSeries_a1 at hm
        obtain ⟨f60, f61, hL⟩ := hJ
        refine CW.seq ?_
        refine CW.regionL ?_
        refine OW.cons (OP.val (v := (.bool true)) rfl (x_assign) ?_)
        refine OW.nil ?_
        refine CW.ret ?_
        obtain rfl := Option.some.inj hm
        exact RR1 rfl rfl ⟨rfl, hL.fresh 1 rfl [] (by decide) (by decide) rfl⟩
      · intro s_l1 F62 wd63 t54 hJ hm hr55
        unfold M.spec_IsSeries_l1 at hm
        obtain ⟨f64, f65, hL⟩ := hJ
        refine CW.seq ?_
        refine CW.seq ?_
        refine CW.regionL ?_
        refine OW.cons (OP.val (v := (.int .i64 s_l1)) rfl (x_mv f65) ?_)
        refine OW.cons (OP.val (v := (.pointer (some ⟨b4, 2, none⟩))) rfl (x_fieldAddr (fsz := 1) 0 2 2 Try.underlying31 rfl Try_T29 rfl f64 rfl) ?_)
        refine OW.cons (OP.val (v := v1) rfl (x_load1 Try.underlying29 rfl rfl (hL.cellB 0 rfl rfl)) ?_)
        refine OW.cons (OP.val (v := (.int .i64 (a0.Races.length : Int))) rfl (x_lenR Try.underlying29 rfl (hL.rdS 1 rfl h2)) ?_)
        refine OW.cons (OP.val (v := (.bool (decide (s_l1 < (a0.Races.length : Int))))) rfl (x_lss rfl rfl) ?_)
        refine OW.nil ?_
        refine CW.condM (t := decide (s_l1 < (a0.Races.length : Int))) rfl hm (fun hb66 hm => ?_) (fun hb66 hm => ?_)
        · refine CW.skip ?_
          refine CW.seq ?_
          refine CW.block ?_
          refine CW.seq ?_
          refine CW.draw Try_mixed ?_
          have hL := hL.call (Mod.drew _)
          refine DW.pre (fuel := 0) (fin := ((((((((((Array.replicate 9 false).setIfInBounds 0 true).setIfInBounds 1 true).setIfInBounds 2 true).setIfInBounds 3 true).setIfInBounds 4 true).setIfInBounds 5 true).setIfInBounds 6 true).setIfInBounds 7 true).setIfInBounds 8 true)) (C := fun w' => Mod None_ _ w') [0, 1, 2, 3, 4, 5, 6, 7, 8] (Mod.refl _ _) (by kernel_rfl) (by kernel_rfl) ?_
          refine QW.cons rfl (QP.val (v := (.pointer (some ⟨b4, 0, none⟩))) rfl (fun w' hm' => x_fieldAddr (fsz := 1) 0 0 0 Try.underlying31 rfl Try_T2 rfl f64 rfl) ?_)
          refine QW.cons rfl (QP.val (v := (.int .i64 a0.Boats)) rfl (fun w' hm' => x_load1 Try.underlying2 rfl rfl ((hL.call hm').cellB 0 rfl rfl)) ?_)
          refine QW.cons rfl (QP.val (v := (.pointer (some ⟨b4, 2, none⟩))) rfl (fun w' hm' => x_fieldAddr (fsz := 1) 0 2 2 Try.underlying31 rfl Try_T29 rfl f64 rfl) ?_)
          refine QW.cons rfl (QP.val (v := v1) rfl (fun w' hm' => x_load1 Try.underlying29 rfl rfl ((hL.call hm').cellB 0 rfl rfl)) ?_)
          refine QW.cons rfl (QP.val (v := (.int .i64 s_l1)) rfl (fun w' hm' => x_mv f65) ?_)
          obtain ⟨x67, ha68, hm⟩ := bndE hm
          obtain ⟨hz69, ha77⟩ := idxE ha68
          obtain ⟨b70, q71, v72, hix73, hs74, hc75, hr76⟩ := rdN_at h2 hz69 ha77
          refine QW.cons rfl (QP.val (v := (.pointer (some ⟨b70, q71, none⟩))) rfl (fun w' hm' => x_ix Try.underlying29 Try_T46 rfl rfl hix73) ?_)
          refine QW.cons rfl (QP.val (v := (.agg #[v72])) rfl (fun w' hm' => x_loadN (cs := [v72]) Try.underlying46 Try_T46 rfl rfl (by intro j u hj; match j, hj with | 0, hj => (simp at hj; subst hj; exact ((hL.call hm').cellS 1 rfl hs74 hc75)))) ?_)
          obtain ⟨x78, hx79, hm⟩ := bndE hm
          refine QW.cons rfl (QP.call (v := (.bool x78)) rfl (fun w' hm' => x_call (vs := [(.int .i64 a0.Boats), (.agg #[v72])]) Try_C62 ⟨rfl, rfl, trivial⟩) (fun w' hm' => (M.spec_l26Race_ok w' a0.Boats x67 ((hL.call hm').rdS 1 rfl hr76) hx79).mono (fun e w'' h => ⟨h.1, hm'.trans h.2.mod⟩)) ?_)
          refine QW.cons rfl (QP.val (v := (.bool (!x78))) rfl (fun w' hm' => x_not rfl) ?_)
          refine QW.nil ?_
          intro wd80 hmod
          have hL := hL.call hmod
          refine DW.done (by kernel_rfl) ?_
          refine CW.condM (t := !x78) rfl hm (fun hb81 hm => ?_) (fun hb81 hm => ?_)
          · refine CW.seq ?_
            refine CW.regionL ?_
            refine OW.cons (OP.val (v := (.bool false)) rfl (x_assign) ?_)
            refine OW.nil ?_
            refine CW.ret ?_
            obtain rfl := Option.some.inj hm
            have hm := hr55 _ rfl
            obtain rfl := Option.some.inj hm
            exact RR1 rfl rfl ⟨rfl, hL.fresh 1 rfl [] (by decide) (by decide) rfl⟩
          · refine CW.skip ?_
            refine CW.regionL ?_
            refine OW.cons (OP.val (v := (.int .i64 s_l1)) rfl (x_mv f65) ?_)
            refine OW.cons (OP.val (v := (.int .i64 (w64 (s_l1 + 1)))) rfl (x_add rfl rfl) ?_)
            refine OW.cons (OP.val (v := (.int .i64 (w64 (s_l1 + 1)))) rfl (x_assign) ?_)
            refine OW.nil ?_
            obtain rfl := Option.some.inj hm
            exact ⟨_, rfl, ⟨f64, rfl, hL⟩⟩
        · refine CW.exit ?_
          refine XJ.hit ?_
          obtain rfl := Option.some.inj hm
          exact ⟨_, rfl, ⟨f64, f65, hL⟩⟩

theorem M.spec_l21Code_ok (w0 : World) (a0 : Int) {r : Bool} (hm : M.spec_l21Code a0 = some r) :
    Calls Try.prog 86 #[(.int .i64 a0)] w0 fun e w' => e = .returned (.bool r) ∧ Fresh w0 w' [] := by
  unfold M.spec_l21Code at hm
  refine calls_CW (args := [(.int .i64 a0)]) Try.func86 rfl rfl rfl ?_
  have hL := Hp.start w0
  refine CW.seq ?_
  refine CW.regionL ?_
  refine OW.cons (OP.val (v := (.bool false)) rfl (x_assign) ?_)
  refine OW.nil ?_
  refine CW.seqJ (fun (s_j1 : Bool) (F : Fr) (w : World) => F 2 = (.bool s_j1) ∧ Hp w0 [Ent.snap w0 w0.heap.size] w) (fun s_j1 => M.spec_l21Code_j1 s_j1 = some r) ?_ ?_
  · refine CW.regionL ?_
    refine OW.cons (OP.val (v := (.int .i64 a0)) rfl (x_move) ?_)
    refine OW.cons (OP.val (v := (.bool (a0 == 6))) rfl (x_eql rfl rfl) ?_)
    refine OW.cons (OP.val (v := (.bool (a0 == 6))) rfl (x_move) ?_)
    refine ifB_elim hm (fun hb6 hm => ?_) (fun hb6 hm => ?_)
    · refine OW.cons (OP.no' rfl rfl hb6 rfl ?_)
      refine OW.cons (OP.no' rfl rfl hb6 rfl ?_)
      refine OW.cons (OP.val (v := (.bool true)) rfl (x_pickT' rfl hb6 rfl) ?_)
      refine OW.cons (OP.val (v := (.bool true)) rfl (x_move) ?_)
      refine OW.cons (OP.no' rfl rfl rfl rfl ?_)
      refine OW.cons (OP.no' rfl rfl rfl rfl ?_)
      refine OW.cons (OP.val (v := (.bool true)) rfl (x_pickT' rfl rfl rfl) ?_)
      refine OW.cons (OP.val (v := (.bool true)) rfl (x_assign) ?_)
      refine OW.nil ?_
      exact ⟨true, hm, ⟨rfl, hL⟩⟩
    · refine OW.cons (OP.yes' rfl rfl hb6 (OP.val (v := (.int .i64 a0)) rfl (x_move) ?_))
      refine OW.cons (OP.yes' rfl rfl hb6 (OP.val (v := (.bool (a0 == 7))) rfl (x_eql rfl rfl) ?_))
      refine OW.cons (OP.val (v := (.bool (a0 == 7))) rfl (x_pickF' rfl hb6 rfl) ?_)
      refine OW.cons (OP.val (v := (.bool (a0 == 7))) rfl (x_move) ?_)
      refine ifB_elim hm (fun hb7 hm => ?_) (fun hb7 hm => ?_)
      · refine OW.cons (OP.no' rfl rfl hb7 rfl ?_)
        refine OW.cons (OP.no' rfl rfl hb7 rfl ?_)
        refine OW.cons (OP.val (v := (.bool true)) rfl (x_pickT' rfl hb7 rfl) ?_)
        refine OW.cons (OP.val (v := (.bool true)) rfl (x_assign) ?_)
        refine OW.nil ?_
        exact ⟨true, hm, ⟨rfl, hL⟩⟩
      · refine OW.cons (OP.yes' rfl rfl hb7 (OP.val (v := (.int .i64 a0)) rfl (x_move) ?_))
        refine OW.cons (OP.yes' rfl rfl hb7 (OP.val (v := (.bool (a0 == 5))) rfl (x_eql rfl rfl) ?_))
        refine OW.cons (OP.val (v := (.bool (a0 == 5))) rfl (x_pickF' rfl hb7 rfl) ?_)
        refine OW.cons (OP.val (v := (.bool (a0 == 5))) rfl (x_assign) ?_)
        refine OW.nil ?_
        exact ⟨a0 == 5, hm, ⟨rfl, hL⟩⟩
  · intro s_j1 F3 wd4 hJ hm
    unfold M.spec_l21Code_j1 at hm
    obtain ⟨f5, hL⟩ := hJ
    refine CW.ret ?_
    obtain rfl := Option.some.inj hm
    exact RR1 rfl f5 ⟨rfl, hL.fresh 0 rfl [] (by decide) (by decide) rfl⟩

theorem M.spec_l21Value_ok (w0 : World) (a0 : Int) (a1 : Int) {r : Bool} (hm : M.spec_l21Value a0 a1 = some r) :
    Calls Try.prog 63 #[(.int .i64 a0), (.int .i64 a1)] w0 fun e w' => e = .returned (.bool r) ∧ Fresh w0 w' [] := by
  unfold M.spec_l21Value at hm
  refine calls_CW (args := [(.int .i64 a0), (.int .i64 a1)]) Try.func63 rfl rfl rfl ?_
  have hL := Hp.start w0
  refine CW.seq ?_
  refine CW.regionL ?_
  refine OW.cons (OP.val (v := (.bool false)) rfl (x_assign) ?_)
  refine OW.nil ?_
  refine CW.seq ?_
  refine CW.seq ?_
  refine CW.regionL ?_
  refine OW.cons (OP.val (v := (.int .i64 a0)) rfl (x_move) ?_)
  refine OW.nil ?_
  refine CW.block ?_
  refine CW.seq ?_
  refine CW.regionL ?_
  refine OW.cons (OP.val (v := (.bool (a0 == 1))) rfl (x_eql rfl rfl) ?_)
  refine OW.cons (OP.val (v := (.bool (a0 == 1))) rfl (x_assign) ?_)
  refine OW.nil ?_
  refine CW.condM (t := a0 == 1) rfl hm (fun hb1 hm => ?_) (fun hb1 hm => ?_)
  · refine CW.seq ?_
    refine CW.regionL ?_
    refine OW.cons (OP.val (v := (.int .i64 a1)) rfl (x_move) ?_)
    obtain ⟨x2, hx3, hm⟩ := bndE hm
    refine OW.cons (OP.call rfl (x_call (vs := [(.int .i64 a1)]) Try_C86 ⟨rfl, trivial⟩) (M.spec_l21Code_ok _ a1 hx3) ?_)
    rintro e4 wd5 ⟨rfl, hF6⟩
    refine ⟨_, rfl, ?_⟩
    have hL := hL.pushAll hF6
    simp only [lA, lB, lC, lD] at hL
    refine OW.cons (OP.val (v := (.bool x2)) rfl (x_assign) ?_)
    refine OW.nil ?_
    refine CW.ret ?_
    obtain rfl := Option.some.inj hm
    exact RR1 rfl rfl ⟨rfl, hL.fresh 0 rfl [] (by decide) (by decide) rfl⟩
  · refine CW.seq ?_
    refine CW.regionL ?_
    refine OW.cons (OP.val (v := (.bool (a0 == 2))) rfl (x_eql rfl rfl) ?_)
    refine OW.cons (OP.val (v := (.bool (a0 == 2))) rfl (x_assign) ?_)
    refine OW.nil ?_
    refine CW.condM (t := a0 == 2) rfl hm (fun hb7 hm => ?_) (fun hb7 hm => ?_)
    · refine CW.seq ?_
      refine CW.regionL ?_
      refine OW.cons (OP.val (v := (.int .i64 a1)) rfl (x_move) ?_)
      obtain ⟨x8, hx9, hm⟩ := bndE hm
      refine OW.cons (OP.call rfl (x_call (vs := [(.int .i64 a1), (.int .i64 1), (.int .i64 1000000000)]) Try_C61 ⟨rfl, rfl, rfl, trivial⟩) (M.spec_l01In_ok _ a1 1 1000000000 hx9) ?_)
      rintro e10 wd11 ⟨rfl, hF12⟩
      refine ⟨_, rfl, ?_⟩
      have hL := hL.pushAll hF12
      simp only [lA, lB, lC, lD] at hL
      refine OW.cons (OP.val (v := (.bool x8)) rfl (x_assign) ?_)
      refine OW.nil ?_
      refine CW.ret ?_
      obtain rfl := Option.some.inj hm
      exact RR1 rfl rfl ⟨rfl, hL.fresh 0 rfl [] (by decide) (by decide) rfl⟩
    · refine CW.seq ?_
      refine CW.regionL ?_
      refine OW.cons (OP.val (v := (.bool (a0 == 3))) rfl (x_eql rfl rfl) ?_)
      refine OW.cons (OP.val (v := (.bool (a0 == 3))) rfl (x_assign) ?_)
      refine OW.nil ?_
      refine CW.condM (t := a0 == 3) rfl hm (fun hb13 hm => ?_) (fun hb13 hm => ?_)
      · refine CW.seq ?_
        refine CW.regionL ?_
        refine OW.cons (OP.val (v := (.int .i64 a1)) rfl (x_move) ?_)
        obtain ⟨x14, hx15, hm⟩ := bndE hm
        refine OW.cons (OP.call rfl (x_call (vs := [(.int .i64 a1), (.int .i64 1), (.int .i64 100)]) Try_C61 ⟨rfl, rfl, rfl, trivial⟩) (M.spec_l01In_ok _ a1 1 100 hx15) ?_)
        rintro e16 wd17 ⟨rfl, hF18⟩
        refine ⟨_, rfl, ?_⟩
        have hL := hL.pushAll hF18
        simp only [lA, lB, lC, lD] at hL
        refine OW.cons (OP.val (v := (.bool x14)) rfl (x_assign) ?_)
        refine OW.nil ?_
        refine CW.ret ?_
        obtain rfl := Option.some.inj hm
        exact RR1 rfl rfl ⟨rfl, hL.fresh 0 rfl [] (by decide) (by decide) rfl⟩
      · refine CW.skip ?_
        refine CW.seq ?_
        refine CW.regionL ?_
        refine OW.cons (OP.val (v := (.bool false)) rfl (x_assign) ?_)
        refine OW.nil ?_
        refine CW.ret ?_
        obtain rfl := Option.some.inj hm
        exact RR1 rfl rfl ⟨rfl, hL.fresh 0 rfl [] (by decide) (by decide) rfl⟩

theorem M.spec_l21Valid_ok (w0 : World) (a0 : Series) {v1 : Value} (h2 : rdL (· < w0.heap.size) w0 v1 a0.Races) (a1 : List Penalty) {v3 : Value} (h4 : rdL (· < w0.heap.size) w0 v3 a1) {r : Bool} (hm : M.spec_l21Valid a0 a1 = some r) :
    Calls Try.prog 35 #[(.agg #[(.int .i64 a0.Boats), (.int .i64 a0.Scheme), v1]), v3] w0 fun e w' => e = .returned (.bool r) ∧ Fresh w0 w' [] := by
  unfold M.spec_l21Valid at hm
  refine calls_CW (args := [(.agg #[(.int .i64 a0.Boats), (.int .i64 a0.Scheme), v1]), v3]) Try.func35 rfl rfl rfl ?_
  have hL := Hp.start w0
  refine CW.seq ?_
  refine CW.regionL ?_
  refine OW.cons (S_box (cs := #[(.int .i64 a0.Boats), (.int .i64 a0.Scheme), v1]) hL rfl rfl rfl ?_)
  intro wd5 b6 hL
  refine OW.cons (OP.val (v := (.bool false)) rfl (x_assign) ?_)
  refine OW.nil ?_
  refine CW.seq ?_
  refine CW.seq ?_
  refine CW.regionL ?_
  refine OW.cons (OP.val (v := (.int .i64 0)) rfl (x_assign) ?_)
  refine OW.nil ?_
  obtain ⟨o113, ho114, hm⟩ := bndE hm
  refine CW.loopB (fun (s_l1 : Int) (F : Fr) (w : World) => F 1 = v3 ∧ F 2 = (.pointer (some ⟨b6, 0, none⟩)) ∧ F 5 = (.int .i64 s_l1) ∧ Hp w0 [Ent.blk b6 31 #[(.int .i64 a0.Boats), (.int .i64 a0.Scheme), v1], Ent.snap w0 w0.heap.size] w) (fun o => outc o (fun x => some x) (fun s => M.spec_l21Valid_a1 a1 s) = some r) ho114 hm ⟨rfl, rfl, rfl, hL⟩ ?_ ?_
  · intro s_l1 F115 wd116 hJ hm
    have hm := outcE hm
    have hm : M.spec_l21Valid_a1 a1 s_l1 = some r := hm
    unfold M.spec_l21Valid_a1 at hm
    obtain ⟨f117, f118, f119, hL⟩ := hJ
    refine CW.seq ?_
    refine CW.regionL ?_
    refine OW.cons (OP.val (v := v3) rfl (x_mv f117) ?_)
    refine OW.cons (OP.val (v := (.int .i64 (a1.length : Int))) rfl (x_lenR Try.underlying33 rfl (hL.rdS 1 rfl h4)) ?_)
    refine OW.cons (OP.val (v := (.bool (decide ((a1.length : Int) ≤ 60)))) rfl (x_leq rfl rfl) ?_)
    refine OW.cons (OP.val (v := (.bool (decide ((a1.length : Int) ≤ 60)))) rfl (x_assign) ?_)
    refine OW.nil ?_
    refine CW.ret ?_
    obtain rfl := Option.some.inj hm
    exact RR1 rfl rfl ⟨rfl, hL.fresh 1 rfl [] (by decide) (by decide) rfl⟩
  · intro s_l1 F120 wd121 t111 hJ hm hr112
    unfold M.spec_l21Valid_l1 at hm
    obtain ⟨f122, f123, f124, hL⟩ := hJ
    refine CW.seq ?_
    refine CW.seq ?_
    refine CW.regionL ?_
    refine OW.cons (OP.val (v := (.int .i64 s_l1)) rfl (x_mv f124) ?_)
    refine OW.cons (OP.val (v := v3) rfl (x_mv f122) ?_)
    refine OW.cons (OP.val (v := (.int .i64 (a1.length : Int))) rfl (x_lenR Try.underlying33 rfl (hL.rdS 1 rfl h4)) ?_)
    refine OW.cons (OP.val (v := (.bool (decide (s_l1 < (a1.length : Int))))) rfl (x_lss rfl rfl) ?_)
    refine OW.nil ?_
    refine CW.condM (t := decide (s_l1 < (a1.length : Int))) rfl hm (fun hb125 hm => ?_) (fun hb125 hm => ?_)
    · refine CW.skip ?_
      refine CW.seq ?_
      refine CW.block ?_
      refine CW.seq ?_
      refine CW.regionL ?_
      refine OW.cons (OP.val (v := v3) rfl (x_mv f122) ?_)
      refine OW.cons (OP.val (v := (.int .i64 s_l1)) rfl (x_mv f124) ?_)
      obtain ⟨x126, ha127, hm⟩ := bndE hm
      obtain ⟨hz128, ha132⟩ := idxE ha127
      obtain ⟨b129, q130, hix131⟩ := rdL_ix (hL.rdS 1 rfl h4) hz128 ha132
      refine OW.cons (OP.val (v := (.pointer (some ⟨b129, q130, none⟩))) rfl (x_ix Try.underlying33 Try_T48 rfl rfl hix131) ?_)
      refine OW.cons (OP.val (v := (.agg #[(.int .i64 x126.Race), (.int .i64 x126.Boat), (.int .i64 x126.Kind), (.int .i64 x126.Value)])) rfl (x_loadN (cs := [(.int .i64 x126.Race), (.int .i64 x126.Boat), (.int .i64 x126.Kind), (.int .i64 x126.Value)]) Try.underlying48 Try_T48 rfl rfl (rdF_cells (hL.rdS 1 rfl h4) hix131 ha132)) ?_)
      refine OW.cons (S_alloc (cs := #[(.int .i64 0), (.int .i64 0), (.int .i64 0), (.int .i64 0)]) hL Try_T48 rfl rfl ?_)
      intro wd133 b134 hL
      refine OW.cons (S_storeN (l := [(.int .i64 x126.Race), (.int .i64 x126.Boat), (.int .i64 x126.Kind), (.int .i64 x126.Value)]) (cs' := #[(.int .i64 x126.Race), (.int .i64 x126.Boat), (.int .i64 x126.Kind), (.int .i64 x126.Value)]) hL 0 rfl Try_T48 rfl rfl (List.forall_mem_cons.2 ⟨rfl, (List.forall_mem_cons.2 ⟨rfl, (List.forall_mem_cons.2 ⟨rfl, (List.forall_mem_cons.2 ⟨rfl, (fun _ h => by cases h)⟩)⟩)⟩)⟩) rfl (Nat.le_of_ble_eq_true rfl) rfl ?_)
      intro wd135 hL
      refine OW.nil ?_
      refine CW.seqJ (fun (s_j1 : Bool) (F : Fr) (w : World) => F 1 = v3 ∧ F 2 = (.pointer (some ⟨b6, 0, none⟩)) ∧ F 5 = (.int .i64 s_l1) ∧ F 41 = (.bool s_j1) ∧ Hp w0 [Ent.blk b134 48 #[(.int .i64 x126.Race), (.int .i64 x126.Boat), (.int .i64 x126.Kind), (.int .i64 x126.Value)], Ent.blk b6 31 #[(.int .i64 a0.Boats), (.int .i64 a0.Scheme), v1], Ent.snap w0 w0.heap.size] w) (fun s_j1 => M.spec_l21Valid_j1 s_l1 s_j1 = some t111) ?_ ?_
      · refine CW.regionL ?_
        refine OW.cons (OP.val (v := (.pointer (some ⟨b134, 0, none⟩))) rfl (x_fieldAddr (fsz := 1) 0 0 0 Try.underlying48 rfl Try_T2 rfl rfl rfl) ?_)
        refine OW.cons (OP.val (v := (.int .i64 x126.Race)) rfl (x_load1 Try.underlying2 rfl rfl (hL.cellB 0 rfl rfl)) ?_)
        refine OW.cons (OP.val (v := (.pointer (some ⟨b6, 2, none⟩))) rfl (x_fieldAddr (fsz := 1) 0 2 2 Try.underlying31 rfl Try_T29 rfl f123 rfl) ?_)
        refine OW.cons (OP.val (v := v1) rfl (x_load1 Try.underlying29 rfl rfl (hL.cellB 1 rfl rfl)) ?_)
        refine OW.cons (OP.val (v := (.int .i64 (a0.Races.length : Int))) rfl (x_lenR Try.underlying29 rfl (hL.rdS 2 rfl h2)) ?_)
        refine OW.cons (OP.val (v := (.int .i64 (w64 ((a0.Races.length : Int) - 1)))) rfl (x_sub rfl rfl) ?_)
        obtain ⟨x160, hx161, hm⟩ := bndE hm
        refine OW.cons (OP.call rfl (x_call (vs := [(.int .i64 x126.Race), (.int .i64 0), (.int .i64 (w64 ((a0.Races.length : Int) - 1)))]) Try_C61 ⟨rfl, rfl, rfl, trivial⟩) (M.spec_l01In_ok _ x126.Race 0 (w64 ((a0.Races.length : Int) - 1)) hx161) ?_)
        rintro e162 wd163 ⟨rfl, hF164⟩
        refine ⟨_, rfl, ?_⟩
        have hL := hL.pushAll hF164
        simp only [lA, lB, lC, lD] at hL
        refine OW.cons (OP.val (v := (.bool (!x160))) rfl (x_not rfl) ?_)
        refine OW.cons (OP.val (v := (.bool (!x160))) rfl (x_move) ?_)
        refine ifB_elim hm (fun hb165 hm => ?_) (fun hb165 hm => ?_)
        · refine OW.cons (OP.no' rfl rfl hb165 rfl ?_)
          refine OW.cons (OP.no' rfl rfl hb165 rfl ?_)
          refine OW.cons (OP.no' rfl rfl hb165 rfl ?_)
          refine OW.cons (OP.no' rfl rfl hb165 rfl ?_)
          refine OW.cons (OP.no' rfl rfl hb165 rfl ?_)
          refine OW.cons (OP.no' rfl rfl hb165 rfl ?_)
          refine OW.cons (OP.no' rfl rfl hb165 rfl ?_)
          refine OW.cons (OP.val (v := (.bool true)) rfl (x_pickT' rfl hb165 rfl) ?_)
          refine OW.cons (OP.val (v := (.bool true)) rfl (x_move) ?_)
          refine OW.cons (OP.no' rfl rfl rfl rfl ?_)
          refine OW.cons (OP.no' rfl rfl rfl rfl ?_)
          refine OW.cons (OP.no' rfl rfl rfl rfl ?_)
          refine OW.cons (OP.no' rfl rfl rfl rfl ?_)
          refine OW.cons (OP.no' rfl rfl rfl rfl ?_)
          refine OW.cons (OP.no' rfl rfl rfl rfl ?_)
          refine OW.cons (OP.val (v := (.bool true)) rfl (x_pickT' rfl rfl rfl) ?_)
          refine OW.nil ?_
          exact ⟨true, hm, ⟨f122, f123, f124, rfl, hL⟩⟩
        · refine OW.cons (OP.yes' rfl rfl hb165 (OP.val (v := (.pointer (some ⟨b134, 1, none⟩))) rfl (x_fieldAddr (fsz := 1) 0 1 1 Try.underlying48 rfl Try_T2 rfl rfl rfl) ?_))
          refine OW.cons (OP.yes' rfl rfl hb165 (OP.val (v := (.int .i64 x126.Boat)) rfl (x_load1 Try.underlying2 rfl rfl (hL.cellB 0 rfl rfl)) ?_))
          refine OW.cons (OP.yes' rfl rfl hb165 (OP.val (v := (.pointer (some ⟨b6, 0, none⟩))) rfl (x_fieldAddr (fsz := 1) 0 0 0 Try.underlying31 rfl Try_T2 rfl f123 rfl) ?_))
          refine OW.cons (OP.yes' rfl rfl hb165 (OP.val (v := (.int .i64 a0.Boats)) rfl (x_load1 Try.underlying2 rfl rfl (hL.cellB 1 rfl rfl)) ?_))
          refine OW.cons (OP.yes' rfl rfl hb165 (OP.val (v := (.int .i64 (w64 (a0.Boats - 1)))) rfl (x_sub rfl rfl) ?_))
          obtain ⟨x166, hx167, hm⟩ := bndE hm
          refine OW.cons (OP.yes' rfl rfl hb165 (OP.call rfl (x_call (vs := [(.int .i64 x126.Boat), (.int .i64 0), (.int .i64 (w64 (a0.Boats - 1)))]) Try_C61 ⟨rfl, rfl, rfl, trivial⟩) (M.spec_l01In_ok _ x126.Boat 0 (w64 (a0.Boats - 1)) hx167) ?_))
          rintro e168 wd169 ⟨rfl, hF170⟩
          refine ⟨_, rfl, ?_⟩
          have hL := hL.pushAll hF170
          simp only [lA, lB, lC, lD] at hL
          refine OW.cons (OP.yes' rfl rfl hb165 (OP.val (v := (.bool (!x166))) rfl (x_not rfl) ?_))
          refine OW.cons (OP.val (v := (.bool (!x166))) rfl (x_pickF' rfl hb165 rfl) ?_)
          refine OW.cons (OP.val (v := (.bool (!x166))) rfl (x_move) ?_)
          refine ifB_elim hm (fun hb171 hm => ?_) (fun hb171 hm => ?_)
          · refine OW.cons (OP.no' rfl rfl hb171 rfl ?_)
            refine OW.cons (OP.no' rfl rfl hb171 rfl ?_)
            refine OW.cons (OP.no' rfl rfl hb171 rfl ?_)
            refine OW.cons (OP.no' rfl rfl hb171 rfl ?_)
            refine OW.cons (OP.no' rfl rfl hb171 rfl ?_)
            refine OW.cons (OP.no' rfl rfl hb171 rfl ?_)
            refine OW.cons (OP.val (v := (.bool true)) rfl (x_pickT' rfl hb171 rfl) ?_)
            refine OW.nil ?_
            exact ⟨true, hm, ⟨f122, f123, f124, rfl, hL⟩⟩
          · refine OW.cons (OP.yes' rfl rfl hb171 (OP.val (v := (.pointer (some ⟨b134, 2, none⟩))) rfl (x_fieldAddr (fsz := 1) 0 2 2 Try.underlying48 rfl Try_T2 rfl rfl rfl) ?_))
            refine OW.cons (OP.yes' rfl rfl hb171 (OP.val (v := (.int .i64 x126.Kind)) rfl (x_load1 Try.underlying2 rfl rfl (hL.cellB 0 rfl rfl)) ?_))
            refine OW.cons (OP.yes' rfl rfl hb171 (OP.val (v := (.pointer (some ⟨b134, 3, none⟩))) rfl (x_fieldAddr (fsz := 1) 0 3 3 Try.underlying48 rfl Try_T2 rfl rfl rfl) ?_))
            refine OW.cons (OP.yes' rfl rfl hb171 (OP.val (v := (.int .i64 x126.Value)) rfl (x_load1 Try.underlying2 rfl rfl (hL.cellB 0 rfl rfl)) ?_))
            obtain ⟨x172, hx173, hm⟩ := bndE hm
            refine OW.cons (OP.yes' rfl rfl hb171 (OP.call rfl (x_call (vs := [(.int .i64 x126.Kind), (.int .i64 x126.Value)]) Try_C63 ⟨rfl, rfl, trivial⟩) (M.spec_l21Value_ok _ x126.Kind x126.Value hx173) ?_))
            rintro e174 wd175 ⟨rfl, hF176⟩
            refine ⟨_, rfl, ?_⟩
            have hL := hL.pushAll hF176
            simp only [lA, lB, lC, lD] at hL
            refine OW.cons (OP.yes' rfl rfl hb171 (OP.val (v := (.bool (!x172))) rfl (x_not rfl) ?_))
            refine OW.cons (OP.val (v := (.bool (!x172))) rfl (x_pickF' rfl hb171 rfl) ?_)
            refine OW.nil ?_
            exact ⟨!x172, hm, ⟨f122, f123, f124, rfl, hL⟩⟩
      · intro s_j1 F153 wd154 hJ hm
        unfold M.spec_l21Valid_j1 at hm
        obtain ⟨f155, f156, f157, f158, hL⟩ := hJ
        refine CW.condM (t := s_j1) f158 hm (fun hb159 hm => ?_) (fun hb159 hm => ?_)
        · refine CW.seq ?_
          refine CW.regionL ?_
          refine OW.cons (OP.val (v := (.bool false)) rfl (x_assign) ?_)
          refine OW.nil ?_
          refine CW.ret ?_
          obtain rfl := Option.some.inj hm
          have hm := hr112 _ rfl
          obtain rfl := Option.some.inj hm
          exact RR1 rfl rfl ⟨rfl, hL.fresh 2 rfl [] (by decide) (by decide) rfl⟩
        · refine CW.skip ?_
          refine CW.regionL ?_
          refine OW.cons (OP.val (v := (.int .i64 s_l1)) rfl (x_mv f157) ?_)
          refine OW.cons (OP.val (v := (.int .i64 (w64 (s_l1 + 1)))) rfl (x_add rfl rfl) ?_)
          refine OW.cons (OP.val (v := (.int .i64 (w64 (s_l1 + 1)))) rfl (x_assign) ?_)
          refine OW.nil ?_
          have hL := hL.sel [1, 2] (by decide) rfl
          obtain rfl := Option.some.inj hm
          exact ⟨_, rfl, ⟨f155, f156, rfl, hL⟩⟩
    · refine CW.exit ?_
      refine XJ.hit ?_
      obtain rfl := Option.some.inj hm
      exact ⟨_, rfl, ⟨f122, f123, f124, hL⟩⟩

theorem M.impl_within_ok (w0 : World) (a0 : Int) (a1 : Int) (a2 : Int) {r : Bool} (hm : M.impl_within a0 a1 a2 = some r) :
    Calls Try.prog 49 #[(.int .i64 a0), (.int .i64 a1), (.int .i64 a2)] w0 fun e w' => e = .returned (.bool r) ∧ Fresh w0 w' [] := by
  unfold M.impl_within at hm
  refine calls_CW (args := [(.int .i64 a0), (.int .i64 a1), (.int .i64 a2)]) Try.func49 rfl rfl rfl ?_
  have hL := Hp.start w0
  refine CW.seq ?_
  refine CW.regionL ?_
  refine OW.cons (OP.val (v := (.bool false)) rfl (x_assign) ?_)
  refine OW.nil ?_
  refine CW.seqJ (fun (s_j1 : Bool) (F : Fr) (w : World) => F 6 = (.bool s_j1) ∧ Hp w0 [Ent.snap w0 w0.heap.size] w) (fun s_j1 => M.impl_within_j1 s_j1 = some r) ?_ ?_
  · refine CW.regionL ?_
    refine OW.cons (OP.val (v := (.int .i64 a0)) rfl (x_move) ?_)
    refine OW.cons (OP.val (v := (.int .i64 a1)) rfl (x_move) ?_)
    refine OW.cons (OP.val (v := (.bool (decide (a1 ≤ a0)))) rfl (x_geq rfl rfl) ?_)
    refine OW.cons (OP.val (v := (.bool (decide (a1 ≤ a0)))) rfl (x_move) ?_)
    refine ifB_elim hm (fun hb5 hm => ?_) (fun hb5 hm => ?_)
    · refine OW.cons (OP.yes' rfl rfl hb5 (OP.val (v := (.int .i64 a0)) rfl (x_move) ?_))
      refine OW.cons (OP.yes' rfl rfl hb5 (OP.val (v := (.int .i64 a2)) rfl (x_move) ?_))
      refine OW.cons (OP.yes' rfl rfl hb5 (OP.val (v := (.bool (decide (a0 ≤ a2)))) rfl (x_leq rfl rfl) ?_))
      refine OW.cons (OP.val (v := (.bool (decide (a0 ≤ a2)))) rfl (x_pickT' rfl hb5 rfl) ?_)
      refine OW.cons (OP.val (v := (.bool (decide (a0 ≤ a2)))) rfl (x_assign) ?_)
      refine OW.nil ?_
      exact ⟨decide (a0 ≤ a2), hm, ⟨rfl, hL⟩⟩
    · refine OW.cons (OP.no' rfl rfl hb5 rfl ?_)
      refine OW.cons (OP.no' rfl rfl hb5 rfl ?_)
      refine OW.cons (OP.no' rfl rfl hb5 rfl ?_)
      refine OW.cons (OP.val (v := (.bool false)) rfl (x_pickF' rfl hb5 rfl) ?_)
      refine OW.cons (OP.val (v := (.bool false)) rfl (x_assign) ?_)
      refine OW.nil ?_
      exact ⟨false, hm, ⟨rfl, hL⟩⟩
  · intro s_j1 F2 wd3 hJ hm
    unfold M.impl_within_j1 at hm
    obtain ⟨f4, hL⟩ := hJ
    refine CW.ret ?_
    obtain rfl := Option.some.inj hm
    exact RR1 rfl f4 ⟨rfl, hL.fresh 0 rfl [] (by decide) (by decide) rfl⟩

theorem M.impl_isBoat_ok (w0 : World) (a0 : Int) {r : Bool} (hm : M.impl_isBoat a0 = some r) :
    Calls Try.prog 98 #[(.int .i64 a0)] w0 fun e w' => e = .returned (.bool r) ∧ Fresh w0 w' [] := by
  unfold M.impl_isBoat at hm
  refine calls_CW (args := [(.int .i64 a0)]) Try.func98 rfl rfl rfl ?_
  have hL := Hp.start w0
  refine CW.seq ?_
  refine CW.regionL ?_
  refine OW.cons (OP.val (v := (.bool false)) rfl (x_assign) ?_)
  refine OW.nil ?_
  refine CW.seq ?_
  refine CW.regionL ?_
  refine OW.cons (OP.val (v := (.int .i64 a0)) rfl (x_move) ?_)
  obtain ⟨x1, hx2, hm⟩ := bndE hm
  refine OW.cons (OP.call rfl (x_call (vs := [(.int .i64 a0), (.int .i64 0), (.int .i64 15)]) Try_C49 ⟨rfl, rfl, rfl, trivial⟩) (M.impl_within_ok _ a0 0 15 hx2) ?_)
  rintro e3 wd4 ⟨rfl, hF5⟩
  refine ⟨_, rfl, ?_⟩
  have hL := hL.pushAll hF5
  simp only [lA, lB, lC, lD] at hL
  refine OW.cons (OP.val (v := (.bool x1)) rfl (x_assign) ?_)
  refine OW.nil ?_
  refine CW.ret ?_
  obtain rfl := Option.some.inj hm
  exact RR1 rfl rfl ⟨rfl, hL.fresh 0 rfl [] (by decide) (by decide) rfl⟩

theorem M.impl_IsFinish_ok (w0 : World) (a0 : Finish) {r : Bool} (hm : M.impl_IsFinish a0 = some r) :
    Calls Try.prog 93 #[(.agg #[(.int .i64 a0.Boat), (.int .i64 a0.Code), (.int .i64 a0.Time)])] w0 fun e w' => e = .returned (.bool r) ∧ Fresh w0 w' [] := by
  unfold M.impl_IsFinish at hm
  refine calls_CW (args := [(.agg #[(.int .i64 a0.Boat), (.int .i64 a0.Code), (.int .i64 a0.Time)])]) Try.func93 rfl rfl rfl ?_
  have hL := Hp.start w0
  refine CW.seq ?_
  refine CW.regionL ?_
  refine OW.cons (S_box (cs := #[(.int .i64 a0.Boat), (.int .i64 a0.Code), (.int .i64 a0.Time)]) hL rfl rfl rfl ?_)
  intro wd1 b2 hL
  refine OW.cons (OP.val (v := (.bool false)) rfl (x_assign) ?_)
  refine OW.nil ?_
  refine CW.seq ?_
  refine CW.seq ?_
  refine CW.regionL ?_
  refine OW.cons (OP.val (v := (.pointer (some ⟨b2, 1, none⟩))) rfl (x_fieldAddr (fsz := 1) 0 1 1 Try.underlying50 rfl Try_T2 rfl rfl rfl) ?_)
  refine OW.cons (OP.val (v := (.int .i64 a0.Code)) rfl (x_load1 Try.underlying2 rfl rfl (hL.cellB 0 rfl rfl)) ?_)
  refine OW.cons (OP.val (v := (.bool (a0.Code == 0))) rfl (x_eql rfl rfl) ?_)
  refine OW.nil ?_
  refine CW.condM (t := a0.Code == 0) rfl hm (fun hb3 hm => ?_) (fun hb3 hm => ?_)
  · refine CW.seqJ (fun (s_j1 : Bool) (F : Fr) (w : World) => F 2 = (.bool s_j1) ∧ Hp w0 [Ent.blk b2 50 #[(.int .i64 a0.Boat), (.int .i64 a0.Code), (.int .i64 a0.Time)], Ent.snap w0 w0.heap.size] w) (fun s_j1 => M.impl_IsFinish_j1 s_j1 = some r) ?_ ?_
    · refine CW.regionL ?_
      refine OW.cons (OP.val (v := (.pointer (some ⟨b2, 0, none⟩))) rfl (x_fieldAddr (fsz := 1) 0 0 0 Try.underlying50 rfl Try_T2 rfl rfl rfl) ?_)
      refine OW.cons (OP.val (v := (.int .i64 a0.Boat)) rfl (x_load1 Try.underlying2 rfl rfl (hL.cellB 0 rfl rfl)) ?_)
      obtain ⟨x18, hx19, hm⟩ := bndE hm
      refine OW.cons (OP.call rfl (x_call (vs := [(.int .i64 a0.Boat)]) Try_C98 ⟨rfl, trivial⟩) (M.impl_isBoat_ok _ a0.Boat hx19) ?_)
      rintro e20 wd21 ⟨rfl, hF22⟩
      refine ⟨_, rfl, ?_⟩
      have hL := hL.pushAll hF22
      simp only [lA, lB, lC, lD] at hL
      refine OW.cons (OP.val (v := (.bool x18)) rfl (x_move) ?_)
      refine ifB_elim hm (fun hb23 hm => ?_) (fun hb23 hm => ?_)
      · refine OW.cons (OP.yes' rfl rfl hb23 (OP.val (v := (.pointer (some ⟨b2, 2, none⟩))) rfl (x_fieldAddr (fsz := 1) 0 2 2 Try.underlying50 rfl Try_T2 rfl rfl rfl) ?_))
        refine OW.cons (OP.yes' rfl rfl hb23 (OP.val (v := (.int .i64 a0.Time)) rfl (x_load1 Try.underlying2 rfl rfl (hL.cellB 0 rfl rfl)) ?_))
        obtain ⟨x24, hx25, hm⟩ := bndE hm
        refine OW.cons (OP.yes' rfl rfl hb23 (OP.call rfl (x_call (vs := [(.int .i64 a0.Time), (.int .i64 1), (.int .i64 1000000000)]) Try_C49 ⟨rfl, rfl, rfl, trivial⟩) (M.impl_within_ok _ a0.Time 1 1000000000 hx25) ?_))
        rintro e26 wd27 ⟨rfl, hF28⟩
        refine ⟨_, rfl, ?_⟩
        have hL := hL.pushAll hF28
        simp only [lA, lB, lC, lD] at hL
        refine OW.cons (OP.val (v := (.bool x24)) rfl (x_pickT' rfl hb23 rfl) ?_)
        refine OW.cons (OP.val (v := (.bool x24)) rfl (x_assign) ?_)
        refine OW.nil ?_
        exact ⟨x24, hm, ⟨rfl, hL⟩⟩
      · refine OW.cons (OP.no' rfl rfl hb23 rfl ?_)
        refine OW.cons (OP.no' rfl rfl hb23 rfl ?_)
        refine OW.cons (OP.no' rfl rfl hb23 rfl ?_)
        refine OW.cons (OP.val (v := (.bool false)) rfl (x_pickF' rfl hb23 rfl) ?_)
        refine OW.cons (OP.val (v := (.bool false)) rfl (x_assign) ?_)
        refine OW.nil ?_
        exact ⟨false, hm, ⟨rfl, hL⟩⟩
    · intro s_j1 F15 wd16 hJ hm
      unfold M.impl_IsFinish_j1 at hm
      obtain ⟨f17, hL⟩ := hJ
      refine CW.ret ?_
      obtain rfl := Option.some.inj hm
      exact RR1 rfl f17 ⟨rfl, hL.fresh 1 rfl [] (by decide) (by decide) rfl⟩
  · refine CW.skip ?_
    refine CW.seqJ (fun (s_j2 : Bool) (F : Fr) (w : World) => F 2 = (.bool s_j2) ∧ Hp w0 [Ent.blk b2 50 #[(.int .i64 a0.Boat), (.int .i64 a0.Code), (.int .i64 a0.Time)], Ent.snap w0 w0.heap.size] w) (fun s_j2 => M.impl_IsFinish_j2 s_j2 = some r) ?_ ?_
    · refine CW.regionL ?_
      refine OW.cons (OP.val (v := (.pointer (some ⟨b2, 0, none⟩))) rfl (x_fieldAddr (fsz := 1) 0 0 0 Try.underlying50 rfl Try_T2 rfl rfl rfl) ?_)
      refine OW.cons (OP.val (v := (.int .i64 a0.Boat)) rfl (x_load1 Try.underlying2 rfl rfl (hL.cellB 0 rfl rfl)) ?_)
      obtain ⟨x44, hx45, hm⟩ := bndE hm
      refine OW.cons (OP.call rfl (x_call (vs := [(.int .i64 a0.Boat)]) Try_C98 ⟨rfl, trivial⟩) (M.impl_isBoat_ok _ a0.Boat hx45) ?_)
      rintro e46 wd47 ⟨rfl, hF48⟩
      refine ⟨_, rfl, ?_⟩
      have hL := hL.pushAll hF48
      simp only [lA, lB, lC, lD] at hL
      refine OW.cons (OP.val (v := (.bool x44)) rfl (x_move) ?_)
      refine ifB_elim hm (fun hb49 hm => ?_) (fun hb49 hm => ?_)
      · refine OW.cons (OP.yes' rfl rfl hb49 (OP.val (v := (.pointer (some ⟨b2, 1, none⟩))) rfl (x_fieldAddr (fsz := 1) 0 1 1 Try.underlying50 rfl Try_T2 rfl rfl rfl) ?_))
        refine OW.cons (OP.yes' rfl rfl hb49 (OP.val (v := (.int .i64 a0.Code)) rfl (x_load1 Try.underlying2 rfl rfl (hL.cellB 0 rfl rfl)) ?_))
        obtain ⟨x50, hx51, hm⟩ := bndE hm
        refine OW.cons (OP.yes' rfl rfl hb49 (OP.call rfl (x_call (vs := [(.int .i64 a0.Code), (.int .i64 1), (.int .i64 9)]) Try_C49 ⟨rfl, rfl, rfl, trivial⟩) (M.impl_within_ok _ a0.Code 1 9 hx51) ?_))
        rintro e52 wd53 ⟨rfl, hF54⟩
        refine ⟨_, rfl, ?_⟩
        have hL := hL.pushAll hF54
        simp only [lA, lB, lC, lD] at hL
        refine OW.cons (OP.val (v := (.bool x50)) rfl (x_pickT' rfl hb49 rfl) ?_)
        refine OW.cons (OP.val (v := (.bool x50)) rfl (x_move) ?_)
        refine ifB_elim hm (fun hb55 hm => ?_) (fun hb55 hm => ?_)
        · refine OW.cons (OP.yes' rfl rfl hb55 (OP.val (v := (.pointer (some ⟨b2, 2, none⟩))) rfl (x_fieldAddr (fsz := 1) 0 2 2 Try.underlying50 rfl Try_T2 rfl rfl rfl) ?_))
          refine OW.cons (OP.yes' rfl rfl hb55 (OP.val (v := (.int .i64 a0.Time)) rfl (x_load1 Try.underlying2 rfl rfl (hL.cellB 0 rfl rfl)) ?_))
          refine OW.cons (OP.yes' rfl rfl hb55 (OP.val (v := (.bool (a0.Time == 0))) rfl (x_eql rfl rfl) ?_))
          refine OW.cons (OP.val (v := (.bool (a0.Time == 0))) rfl (x_pickT' rfl hb55 rfl) ?_)
          refine OW.cons (OP.val (v := (.bool (a0.Time == 0))) rfl (x_assign) ?_)
          refine OW.nil ?_
          exact ⟨a0.Time == 0, hm, ⟨rfl, hL⟩⟩
        · refine OW.cons (OP.no' rfl rfl hb55 rfl ?_)
          refine OW.cons (OP.no' rfl rfl hb55 rfl ?_)
          refine OW.cons (OP.no' rfl rfl hb55 rfl ?_)
          refine OW.cons (OP.val (v := (.bool false)) rfl (x_pickF' rfl hb55 rfl) ?_)
          refine OW.cons (OP.val (v := (.bool false)) rfl (x_assign) ?_)
          refine OW.nil ?_
          exact ⟨false, hm, ⟨rfl, hL⟩⟩
      · refine OW.cons (OP.no' rfl rfl hb49 rfl ?_)
        refine OW.cons (OP.no' rfl rfl hb49 rfl ?_)
        refine OW.cons (OP.no' rfl rfl hb49 rfl ?_)
        refine OW.cons (OP.val (v := (.bool false)) rfl (x_pickF' rfl hb49 rfl) ?_)
        refine OW.cons (OP.val (v := (.bool false)) rfl (x_move) ?_)
        refine OW.cons (OP.no' rfl rfl rfl rfl ?_)
        refine OW.cons (OP.no' rfl rfl rfl rfl ?_)
        refine OW.cons (OP.no' rfl rfl rfl rfl ?_)
        refine OW.cons (OP.val (v := (.bool false)) rfl (x_pickF' rfl rfl rfl) ?_)
        refine OW.cons (OP.val (v := (.bool false)) rfl (x_assign) ?_)
        refine OW.nil ?_
        exact ⟨false, hm, ⟨rfl, hL⟩⟩
    · intro s_j2 F41 wd42 hJ hm
      unfold M.impl_IsFinish_j2 at hm
      obtain ⟨f43, hL⟩ := hJ
      refine CW.ret ?_
      obtain rfl := Option.some.inj hm
      exact RR1 rfl f43 ⟨rfl, hL.fresh 1 rfl [] (by decide) (by decide) rfl⟩

theorem M.impl_areFinishes_ok (w0 : World) (a0 : Int) (a1 : List Finish) {v1 : Value} (h2 : rdL (· < w0.heap.size) w0 v1 a1) {r : Bool} (hm : M.impl_areFinishes a0 a1 = some r) :
    Calls Try.prog 71 #[(.int .i64 a0), v1] w0 fun e w' => e = .returned (.bool r) ∧ Fresh w0 w' [] := by
  unfold M.impl_areFinishes at hm
  refine calls_CW (args := [(.int .i64 a0), v1]) Try.func71 rfl rfl rfl ?_
  have hL := Hp.start w0
  refine CW.seq ?_
  refine CW.regionL ?_
  refine OW.cons (OP.val (v := (.bool false)) rfl (x_assign) ?_)
  refine OW.nil ?_
  refine CW.seq ?_
  refine CW.seqJ (fun (s_j1 : Bool) (F : Fr) (w : World) => F 1 = v1 ∧ F 15 = (.bool s_j1) ∧ Hp w0 [Ent.snap w0 w0.heap.size] w) (fun s_j1 => M.impl_areFinishes_j1 a1 s_j1 = some r) ?_ ?_
  · refine CW.regionL ?_
    refine OW.cons (OP.val (v := (.int .i64 a0)) rfl (x_move) ?_)
    obtain ⟨x118, hx119, hm⟩ := bndE hm
    refine OW.cons (OP.call rfl (x_call (vs := [(.int .i64 a0), (.int .i64 1), (.int .i64 16)]) Try_C49 ⟨rfl, rfl, rfl, trivial⟩) (M.impl_within_ok _ a0 1 16 hx119) ?_)
    rintro e120 wd121 ⟨rfl, hF122⟩
    refine ⟨_, rfl, ?_⟩
    have hL := hL.pushAll hF122
    simp only [lA, lB, lC, lD] at hL
    refine OW.cons (OP.val (v := (.bool (!x118))) rfl (x_not rfl) ?_)
    refine OW.cons (OP.val (v := (.bool (!x118))) rfl (x_move) ?_)
    refine ifB_elim hm (fun hb123 hm => ?_) (fun hb123 hm => ?_)
    · refine OW.cons (OP.no' rfl rfl hb123 rfl ?_)
      refine OW.cons (OP.no' rfl rfl hb123 rfl ?_)
      refine OW.cons (OP.no' rfl rfl hb123 rfl ?_)
      refine OW.cons (OP.no' rfl rfl hb123 rfl ?_)
      refine OW.cons (OP.val (v := (.bool true)) rfl (x_pickT' rfl hb123 rfl) ?_)
      refine OW.nil ?_
      exact ⟨true, hm, ⟨rfl, rfl, hL⟩⟩
    · refine OW.cons (OP.yes' rfl rfl hb123 (OP.val (v := v1) rfl (x_move) ?_))
      refine OW.cons (OP.yes' rfl rfl hb123 (OP.val (v := (.int .i64 (a1.length : Int))) rfl (x_lenR Try.underlying44 rfl (hL.rdS 0 rfl h2)) ?_))
      refine OW.cons (OP.yes' rfl rfl hb123 (OP.val (v := (.int .i64 a0)) rfl (x_move) ?_))
      refine OW.cons (OP.yes' rfl rfl hb123 (OP.val (v := (.bool ((a1.length : Int) != a0))) rfl (x_neq rfl rfl) ?_))
      refine OW.cons (OP.val (v := (.bool ((a1.length : Int) != a0))) rfl (x_pickF' rfl hb123 rfl) ?_)
      refine OW.nil ?_
      exact ⟨(a1.length : Int) != a0, hm, ⟨rfl, rfl, hL⟩⟩
  · intro s_j1 F9 wd10 hJ hm
    unfold M.impl_areFinishes_j1 at hm
    obtain ⟨f11, f12, hL⟩ := hJ
    refine CW.condM (t := s_j1) f12 hm (fun hb13 hm => ?_) (fun hb13 hm => ?_)
    · refine CW.seq ?_
      refine CW.regionL ?_
      refine OW.cons (OP.val (v := (.bool false)) rfl (x_assign) ?_)
      refine OW.nil ?_
      refine CW.ret ?_
      obtain rfl := Option.some.inj hm
      exact RR1 rfl rfl ⟨rfl, hL.fresh 0 rfl [] (by decide) (by decide) rfl⟩
    · refine CW.skip ?_
      refine CW.seq ?_
      refine CW.seq ?_
      refine CW.regionL ?_
      refine OW.cons (OP.val (v := v1) rfl (x_mv f11) ?_)
      refine OW.cons (OP.val (v := (.int .i64 (a1.length : Int))) rfl (x_lenR Try.underlying44 rfl (hL.rdS 0 rfl h2)) ?_)
      refine OW.cons (OP.val (v := (.int .i64 0)) rfl (x_move) ?_)
      refine OW.nil ?_
      obtain ⟨o76, ho77, hm⟩ := bndE hm
      refine CW.loopB (fun (s_l1 : Int) (F : Fr) (w : World) => F 16 = v1 ∧ F 17 = (.int .i64 (a1.length : Int)) ∧ F 18 = (.int .i64 s_l1) ∧ Hp w0 [Ent.snap w0 w0.heap.size] w) (fun o => outc o (fun x => some x) (fun s => M.impl_areFinishes_a1 s) = some r) ho77 hm ⟨rfl, rfl, rfl, hL⟩ ?_ ?_
      · intro s_l1 F78 wd79 hJ hm
        have hm := outcE hm
        have hm : M.impl_areFinishes_a1 s_l1 = some r := hm
        unfold M.impl_areFinishes_a1 at hm
        obtain ⟨f80, f81, f82, hL⟩ := hJ
        refine CW.seq ?_
        refine CW.regionL ?_
        refine OW.cons (OP.val (v := (.bool true)) rfl (x_assign) ?_)
        refine OW.nil ?_
        refine CW.ret ?_
        obtain rfl := Option.some.inj hm
        exact RR1 rfl rfl ⟨rfl, hL.fresh 0 rfl [] (by decide) (by decide) rfl⟩
      · intro s_l1 F83 wd84 t74 hJ hm hr75
        unfold M.impl_areFinishes_l1 at hm
        obtain ⟨f85, f86, f87, hL⟩ := hJ
        refine CW.seq ?_
        refine CW.regionL ?_
        refine OW.cons (OP.val (v := (.bool (decide (s_l1 < (a1.length : Int))))) rfl (x_lss f87 f86) ?_)
        refine OW.nil ?_
        refine CW.seq ?_
        refine CW.condM (t := decide (s_l1 < (a1.length : Int))) rfl hm (fun hb88 hm => ?_) (fun hb88 hm => ?_)
        · refine CW.skip ?_
          refine CW.seq ?_
          refine CW.block ?_
          refine CW.seq ?_
          refine CW.regionL ?_
          refine OW.cons (OP.val (v := (.int .i64 s_l1)) rfl (x_mv f87) ?_)
          obtain ⟨x89, ha90, hm⟩ := bndE hm
          obtain ⟨hz91, ha95⟩ := idxE ha90
          obtain ⟨b92, q93, hix94⟩ := rdL_ix (hL.rdS 0 rfl h2) hz91 ha95
          refine OW.cons (OP.val (v := (.pointer (some ⟨b92, q93, none⟩))) rfl (x_ix Try.underlying44 Try_T50 f85 f87 hix94) ?_)
          refine OW.cons (OP.val (v := (.agg #[(.int .i64 x89.Boat), (.int .i64 x89.Code), (.int .i64 x89.Time)])) rfl (x_loadN (cs := [(.int .i64 x89.Boat), (.int .i64 x89.Code), (.int .i64 x89.Time)]) Try.underlying50 Try_T50 rfl rfl (rdF_cells (hL.rdS 0 rfl h2) hix94 ha95)) ?_)
          refine OW.cons (S_alloc (cs := #[(.int .i64 0), (.int .i64 0), (.int .i64 0)]) hL Try_T50 rfl rfl ?_)
          intro wd96 b97 hL
          refine OW.cons (OP.val (v := (.int .i64 s_l1)) rfl (x_assign) ?_)
          refine OW.cons (S_storeN (l := [(.int .i64 x89.Boat), (.int .i64 x89.Code), (.int .i64 x89.Time)]) (cs' := #[(.int .i64 x89.Boat), (.int .i64 x89.Code), (.int .i64 x89.Time)]) hL 0 rfl Try_T50 rfl rfl (List.forall_mem_cons.2 ⟨rfl, (List.forall_mem_cons.2 ⟨rfl, (List.forall_mem_cons.2 ⟨rfl, (fun _ h => by cases h)⟩)⟩)⟩) rfl (Nat.le_of_ble_eq_true rfl) rfl ?_)
          intro wd98 hL
          refine OW.nil ?_
          refine CW.seqJ (fun (s_j2 : Bool) (F : Fr) (w : World) => F 16 = v1 ∧ F 17 = (.int .i64 (a1.length : Int)) ∧ F 18 = (.int .i64 s_l1) ∧ F 31 = (.bool s_j2) ∧ Hp w0 [Ent.blk b97 50 #[(.int .i64 x89.Boat), (.int .i64 x89.Code), (.int .i64 x89.Time)], Ent.snap w0 w0.heap.size] w) (fun s_j2 => M.impl_areFinishes_j2 s_l1 s_j2 = some t74) ?_ ?_
          · refine CW.regionL ?_
            refine OW.cons (OP.val (v := (.pointer (some ⟨b97, 0, none⟩))) rfl (x_fieldAddr (fsz := 1) 0 0 0 Try.underlying50 rfl Try_T2 rfl rfl rfl) ?_)
            refine OW.cons (OP.val (v := (.int .i64 x89.Boat)) rfl (x_load1 Try.underlying2 rfl rfl (hL.cellB 0 rfl rfl)) ?_)
            refine OW.cons (OP.val (v := (.int .i64 s_l1)) rfl (x_move) ?_)
            refine OW.cons (OP.val (v := (.bool (x89.Boat != s_l1))) rfl (x_neq rfl rfl) ?_)
            refine OW.cons (OP.val (v := (.bool (x89.Boat != s_l1))) rfl (x_move) ?_)
            refine ifB_elim hm (fun hb112 hm => ?_) (fun hb112 hm => ?_)
            · refine OW.cons (OP.no' rfl rfl hb112 rfl ?_)
              refine OW.cons (OP.no' rfl rfl hb112 rfl ?_)
              refine OW.cons (OP.no' rfl rfl hb112 rfl ?_)
              refine OW.cons (OP.val (v := (.bool true)) rfl (x_pickT' rfl hb112 rfl) ?_)
              refine OW.nil ?_
              exact ⟨true, hm, ⟨f85, f86, f87, rfl, hL⟩⟩
            · refine OW.cons (OP.yes' rfl rfl hb112 (OP.val (v := (.agg #[(.int .i64 x89.Boat), (.int .i64 x89.Code), (.int .i64 x89.Time)])) rfl (x_loadN (cs := [(.int .i64 x89.Boat), (.int .i64 x89.Code), (.int .i64 x89.Time)]) Try.underlying50 Try_T50 rfl rfl (hL.cellsB 0 rfl (o := 0) (l := [(.int .i64 x89.Boat), (.int .i64 x89.Code), (.int .i64 x89.Time)]) (by intro j u hj; exact (by simpa using hj)))) ?_))
              obtain ⟨x113, hx114, hm⟩ := bndE hm
              refine OW.cons (OP.yes' rfl rfl hb112 (OP.call rfl (x_call (vs := [(.agg #[(.int .i64 x89.Boat), (.int .i64 x89.Code), (.int .i64 x89.Time)])]) Try_C93 ⟨rfl, trivial⟩) (M.impl_IsFinish_ok _ x89 hx114) ?_))
              rintro e115 wd116 ⟨rfl, hF117⟩
              refine ⟨_, rfl, ?_⟩
              have hL := hL.pushAll hF117
              simp only [lA, lB, lC, lD] at hL
              refine OW.cons (OP.yes' rfl rfl hb112 (OP.val (v := (.bool (!x113))) rfl (x_not rfl) ?_))
              refine OW.cons (OP.val (v := (.bool (!x113))) rfl (x_pickF' rfl hb112 rfl) ?_)
              refine OW.nil ?_
              exact ⟨!x113, hm, ⟨f85, f86, f87, rfl, hL⟩⟩
          · intro s_j2 F105 wd106 hJ hm
            unfold M.impl_areFinishes_j2 at hm
            obtain ⟨f107, f108, f109, f110, hL⟩ := hJ
            refine CW.condM (t := s_j2) f110 hm (fun hb111 hm => ?_) (fun hb111 hm => ?_)
            · refine CW.seq ?_
              refine CW.regionL ?_
              refine OW.cons (OP.val (v := (.bool false)) rfl (x_assign) ?_)
              refine OW.nil ?_
              refine CW.ret ?_
              obtain rfl := Option.some.inj hm
              have hm := hr75 _ rfl
              obtain rfl := Option.some.inj hm
              exact RR1 rfl rfl ⟨rfl, hL.fresh 1 rfl [] (by decide) (by decide) rfl⟩
            · refine CW.skip ?_
              refine CW.regionL ?_
              refine OW.cons (OP.val (v := (.int .i64 (w64 (s_l1 + 1)))) rfl (x_add f109 rfl) ?_)
              refine OW.cons (OP.val (v := (.int .i64 (w64 (s_l1 + 1)))) rfl (x_move) ?_)
              refine OW.nil ?_
              have hL := hL.sel [1] (by decide) rfl
              obtain rfl := Option.some.inj hm
              exact ⟨_, rfl, ⟨f107, f108, rfl, hL⟩⟩
        · refine CW.exit ?_
          refine XJ.hit ?_
          obtain rfl := Option.some.inj hm
          exact ⟨_, rfl, ⟨f85, f86, f87, hL⟩⟩

theorem M.impl_IsRace_ok (w0 : World) (a0 : Int) (a1 : Race) {v1 : Value} (h2 : rdL (· < w0.heap.size) w0 v1 a1.Finishes) {r : Bool} (hm : M.impl_IsRace a0 a1 = some r) :
    Calls Try.prog 48 #[(.int .i64 a0), (.agg #[v1])] w0 fun e w' => e = .returned (.bool r) ∧ Fresh w0 w' [] := by
  unfold M.impl_IsRace at hm
  refine calls_CW (args := [(.int .i64 a0), (.agg #[v1])]) Try.func48 rfl rfl rfl ?_
  have hL := Hp.start w0
  refine CW.seq ?_
  refine CW.regionL ?_
  refine OW.cons (S_box (cs := #[v1]) hL rfl rfl rfl ?_)
  intro wd3 b4 hL
  refine OW.cons (OP.val (v := (.bool false)) rfl (x_assign) ?_)
  refine OW.nil ?_
  refine CW.seq ?_
  refine CW.regionL ?_
  refine OW.cons (OP.val (v := (.int .i64 a0)) rfl (x_move) ?_)
  refine OW.cons (OP.val (v := (.pointer (some ⟨b4, 0, none⟩))) rfl (x_fieldAddr (fsz := 1) 0 0 0 Try.underlying46 rfl Try_T44 rfl rfl rfl) ?_)
  refine OW.cons (OP.val (v := v1) rfl (x_load1 Try.underlying44 rfl rfl (hL.cellB 0 rfl rfl)) ?_)
  obtain ⟨x5, hx6, hm⟩ := bndE hm
  refine OW.cons (OP.call rfl (x_call (vs := [(.int .i64 a0), v1]) Try_C71 ⟨rfl, rfl, trivial⟩) (M.impl_areFinishes_ok _ a0 a1.Finishes (hL.rdS 1 rfl h2) hx6) ?_)
  rintro e7 wd8 ⟨rfl, hF9⟩
  refine ⟨_, rfl, ?_⟩
  have hL := hL.pushAll hF9
  simp only [lA, lB, lC, lD] at hL
  refine OW.cons (OP.val (v := (.bool x5)) rfl (x_assign) ?_)
  refine OW.nil ?_
  refine CW.ret ?_
  obtain rfl := Option.some.inj hm
  exact RR1 rfl rfl ⟨rfl, hL.fresh 1 rfl [] (by decide) (by decide) rfl⟩

theorem M.impl_isScheme_ok (w0 : World) (a0 : Int) {r : Bool} (hm : M.impl_isScheme a0 = some r) :
    Calls Try.prog 50 #[(.int .i64 a0)] w0 fun e w' => e = .returned (.bool r) ∧ Fresh w0 w' [] := by
  unfold M.impl_isScheme at hm
  refine calls_CW (args := [(.int .i64 a0)]) Try.func50 rfl rfl rfl ?_
  have hL := Hp.start w0
  refine CW.seq ?_
  refine CW.regionL ?_
  refine OW.cons (OP.val (v := (.bool false)) rfl (x_assign) ?_)
  refine OW.nil ?_
  refine CW.seq ?_
  refine CW.regionL ?_
  refine OW.cons (OP.val (v := (.int .i64 a0)) rfl (x_move) ?_)
  obtain ⟨x1, hx2, hm⟩ := bndE hm
  refine OW.cons (OP.call rfl (x_call (vs := [(.int .i64 a0), (.int .i64 0), (.int .i64 1)]) Try_C49 ⟨rfl, rfl, rfl, trivial⟩) (M.impl_within_ok _ a0 0 1 hx2) ?_)
  rintro e3 wd4 ⟨rfl, hF5⟩
  refine ⟨_, rfl, ?_⟩
  have hL := hL.pushAll hF5
  simp only [lA, lB, lC, lD] at hL
  refine OW.cons (OP.val (v := (.bool x1)) rfl (x_assign) ?_)
  refine OW.nil ?_
  refine CW.ret ?_
  obtain rfl := Option.some.inj hm
  exact RR1 rfl rfl ⟨rfl, hL.fresh 0 rfl [] (by decide) (by decide) rfl⟩

theorem M.impl_IsSeries_ok (w0 : World) (a0 : Series) {v1 : Value} (h2 : rdL (· < w0.heap.size) w0 v1 a0.Races) {r : Bool} (hm : M.impl_IsSeries a0 = some r) :
    Calls Try.prog 21 #[(.agg #[(.int .i64 a0.Boats), (.int .i64 a0.Scheme), v1])] w0 fun e w' => e = .returned (.bool r) ∧ Fresh w0 w' [] := by
  unfold M.impl_IsSeries at hm
  refine calls_CW (args := [(.agg #[(.int .i64 a0.Boats), (.int .i64 a0.Scheme), v1])]) Try.func21 rfl rfl rfl ?_
  have hL := Hp.start w0
  refine CW.seq ?_
  refine CW.regionL ?_
  refine OW.cons (S_box (cs := #[(.int .i64 a0.Boats), (.int .i64 a0.Scheme), v1]) hL rfl rfl rfl ?_)
  intro wd3 b4 hL
  refine OW.cons (OP.val (v := (.bool false)) rfl (x_assign) ?_)
  refine OW.nil ?_
  refine CW.seq ?_
  refine CW.seq ?_
  refine CW.regionL ?_
  refine OW.cons (OP.val (v := (.pointer (some ⟨b4, 2, none⟩))) rfl (x_fieldAddr (fsz := 1) 0 2 2 Try.underlying31 rfl Try_T29 rfl rfl rfl) ?_)
  refine OW.cons (OP.val (v := v1) rfl (x_load1 Try.underlying29 rfl rfl (hL.cellB 0 rfl rfl)) ?_)
  refine OW.cons (OP.val (v := (.int .i64 (a0.Races.length : Int))) rfl (x_lenR Try.underlying29 rfl (hL.rdS 1 rfl h2)) ?_)
  refine OW.cons (OP.val (v := (.int .i64 0)) rfl (x_move) ?_)
  refine OW.nil ?_
  obtain ⟨o49, ho50, hm⟩ := bndE hm
  refine CW.loopB (fun (s_l1 : Int) (F : Fr) (w : World) => F 1 = (.pointer (some ⟨b4, 0, none⟩)) ∧ F 6 = v1 ∧ F 7 = (.int .i64 (a0.Races.length : Int)) ∧ F 8 = (.int .i64 s_l1) ∧ Hp w0 [Ent.blk b4 31 #[(.int .i64 a0.Boats), (.int .i64 a0.Scheme), v1], Ent.snap w0 w0.heap.size] w) (fun o => outc o (fun x => some x) (fun s => M.impl_IsSeries_a1 a0 s) = some r) ho50 hm ⟨rfl, rfl, rfl, rfl, hL⟩ ?_ ?_
  · intro s_l1 F51 wd52 hJ hm
    have hm := outcE hm
    have hm : M.impl_IsSeries_a1 a0 s_l1 = some r := hm
    unfold M.impl_IsSeries_a1 at hm
    obtain ⟨f53, f54, f55, f56, hL⟩ := hJ
    refine CW.seqJ (fun (s_j1 : Bool) (F : Fr) (w : World) => F 2 = (.bool s_j1) ∧ Hp w0 [Ent.blk b4 31 #[(.int .i64 a0.Boats), (.int .i64 a0.Scheme), v1], Ent.snap w0 w0.heap.size] w) (fun s_j1 => M.impl_IsSeries_j1 s_j1 = some r) ?_ ?_
    · refine CW.regionL ?_
      refine OW.cons (OP.val (v := (.pointer (some ⟨b4, 0, none⟩))) rfl (x_fieldAddr (fsz := 1) 0 0 0 Try.underlying31 rfl Try_T2 rfl f53 rfl) ?_)
      refine OW.cons (OP.val (v := (.int .i64 a0.Boats)) rfl (x_load1 Try.underlying2 rfl rfl (hL.cellB 0 rfl rfl)) ?_)
      obtain ⟨x72, hx73, hm⟩ := bndE hm
      refine OW.cons (OP.call rfl (x_call (vs := [(.int .i64 a0.Boats), (.int .i64 1), (.int .i64 16)]) Try_C49 ⟨rfl, rfl, rfl, trivial⟩) (M.impl_within_ok _ a0.Boats 1 16 hx73) ?_)
      rintro e74 wd75 ⟨rfl, hF76⟩
      refine ⟨_, rfl, ?_⟩
      have hL := hL.pushAll hF76
      simp only [lA, lB, lC, lD] at hL
      refine OW.cons (OP.val (v := (.bool x72)) rfl (x_move) ?_)
      refine ifB_elim hm (fun hb77 hm => ?_) (fun hb77 hm => ?_)
      · refine OW.cons (OP.yes' rfl rfl hb77 (OP.val (v := (.pointer (some ⟨b4, 1, none⟩))) rfl (x_fieldAddr (fsz := 1) 0 1 1 Try.underlying31 rfl Try_T2 rfl f53 rfl) ?_))
        refine OW.cons (OP.yes' rfl rfl hb77 (OP.val (v := (.int .i64 a0.Scheme)) rfl (x_load1 Try.underlying2 rfl rfl (hL.cellB 0 rfl rfl)) ?_))
        obtain ⟨x78, hx79, hm⟩ := bndE hm
        refine OW.cons (OP.yes' rfl rfl hb77 (OP.call rfl (x_call (vs := [(.int .i64 a0.Scheme)]) Try_C50 ⟨rfl, trivial⟩) (M.impl_isScheme_ok _ a0.Scheme hx79) ?_))
        rintro e80 wd81 ⟨rfl, hF82⟩
        refine ⟨_, rfl, ?_⟩
        have hL := hL.pushAll hF82
        simp only [lA, lB, lC, lD] at hL
        refine OW.cons (OP.val (v := (.bool x78)) rfl (x_pickT' rfl hb77 rfl) ?_)
        refine OW.cons (OP.val (v := (.bool x78)) rfl (x_move) ?_)
        refine ifB_elim hm (fun hb83 hm => ?_) (fun hb83 hm => ?_)
        · refine OW.cons (OP.yes' rfl rfl hb83 (OP.val (v := (.pointer (some ⟨b4, 2, none⟩))) rfl (x_fieldAddr (fsz := 1) 0 2 2 Try.underlying31 rfl Try_T29 rfl f53 rfl) ?_))
          refine OW.cons (OP.yes' rfl rfl hb83 (OP.val (v := v1) rfl (x_load1 Try.underlying29 rfl rfl (hL.cellB 0 rfl rfl)) ?_))
          refine OW.cons (OP.yes' rfl rfl hb83 (OP.val (v := (.int .i64 (a0.Races.length : Int))) rfl (x_lenR Try.underlying29 rfl (hL.rdS 1 rfl h2)) ?_))
          refine OW.cons (OP.yes' rfl rfl hb83 (OP.val (v := (.bool (decide ((a0.Races.length : Int) ≤ 12)))) rfl (x_leq rfl rfl) ?_))
          refine OW.cons (OP.val (v := (.bool (decide ((a0.Races.length : Int) ≤ 12)))) rfl (x_pickT' rfl hb83 rfl) ?_)
          refine OW.cons (OP.val (v := (.bool (decide ((a0.Races.length : Int) ≤ 12)))) rfl (x_assign) ?_)
          refine OW.nil ?_
          exact ⟨decide ((a0.Races.length : Int) ≤ 12), hm, ⟨rfl, hL⟩⟩
        · refine OW.cons (OP.no' rfl rfl hb83 rfl ?_)
          refine OW.cons (OP.no' rfl rfl hb83 rfl ?_)
          refine OW.cons (OP.no' rfl rfl hb83 rfl ?_)
          refine OW.cons (OP.no' rfl rfl hb83 rfl ?_)
          refine OW.cons (OP.val (v := (.bool false)) rfl (x_pickF' rfl hb83 rfl) ?_)
          refine OW.cons (OP.val (v := (.bool false)) rfl (x_assign) ?_)
          refine OW.nil ?_
          exact ⟨false, hm, ⟨rfl, hL⟩⟩
      · refine OW.cons (OP.no' rfl rfl hb77 rfl ?_)
        refine OW.cons (OP.no' rfl rfl hb77 rfl ?_)
        refine OW.cons (OP.no' rfl rfl hb77 rfl ?_)
        refine OW.cons (OP.val (v := (.bool false)) rfl (x_pickF' rfl hb77 rfl) ?_)
        refine OW.cons (OP.val (v := (.bool false)) rfl (x_move) ?_)
        refine OW.cons (OP.no' rfl rfl rfl rfl ?_)
        refine OW.cons (OP.no' rfl rfl rfl rfl ?_)
        refine OW.cons (OP.no' rfl rfl rfl rfl ?_)
        refine OW.cons (OP.no' rfl rfl rfl rfl ?_)
        refine OW.cons (OP.val (v := (.bool false)) rfl (x_pickF' rfl rfl rfl) ?_)
        refine OW.cons (OP.val (v := (.bool false)) rfl (x_assign) ?_)
        refine OW.nil ?_
        exact ⟨false, hm, ⟨rfl, hL⟩⟩
    · intro s_j1 F69 wd70 hJ hm
      unfold M.impl_IsSeries_j1 at hm
      obtain ⟨f71, hL⟩ := hJ
      refine CW.ret ?_
      obtain rfl := Option.some.inj hm
      exact RR1 rfl f71 ⟨rfl, hL.fresh 1 rfl [] (by decide) (by decide) rfl⟩
  · intro s_l1 F84 wd85 t47 hJ hm hr48
    unfold M.impl_IsSeries_l1 at hm
    obtain ⟨f86, f87, f88, f89, hL⟩ := hJ
    refine CW.seq ?_
    refine CW.regionL ?_
    refine OW.cons (OP.val (v := (.bool (decide (s_l1 < (a0.Races.length : Int))))) rfl (x_lss f89 f88) ?_)
    refine OW.nil ?_
    refine CW.seq ?_
    refine CW.condM (t := decide (s_l1 < (a0.Races.length : Int))) rfl hm (fun hb90 hm => ?_) (fun hb90 hm => ?_)
    · refine CW.skip ?_
      refine CW.seq ?_
      refine CW.block ?_
      refine CW.seq ?_
      refine CW.regionL ?_
      obtain ⟨x91, ha92, hm⟩ := bndE hm
      obtain ⟨hz93, ha101⟩ := idxE ha92
      obtain ⟨b94, q95, v96, hix97, hs98, hc99, hr100⟩ := rdN_at h2 hz93 ha101
      refine OW.cons (OP.val (v := (.pointer (some ⟨b94, q95, none⟩))) rfl (x_ix Try.underlying29 Try_T46 f87 f89 hix97) ?_)
      refine OW.cons (OP.val (v := (.agg #[v96])) rfl (x_loadN (cs := [v96]) Try.underlying46 Try_T46 rfl rfl (by intro j u hj; match j, hj with | 0, hj => (simp at hj; subst hj; exact (hL.cellS 1 rfl hs98 hc99)))) ?_)
      refine OW.cons (S_alloc (cs := #[(.slice none 0 0)]) hL Try_T46 rfl rfl ?_)
      intro wd102 b103 hL
      refine OW.cons (S_storeN (l := [v96]) (cs' := #[v96]) hL 0 rfl Try_T46 rfl rfl (List.forall_mem_cons.2 ⟨rdL_one (hL.rdS 2 rfl hr100), (fun _ h => by cases h)⟩) rfl (Nat.le_of_ble_eq_true rfl) rfl ?_)
      intro wd104 hL
      refine OW.nil ?_
      refine CW.seq ?_
      refine CW.regionL ?_
      refine OW.cons (OP.val (v := (.pointer (some ⟨b4, 0, none⟩))) rfl (x_fieldAddr (fsz := 1) 0 0 0 Try.underlying31 rfl Try_T2 rfl f86 rfl) ?_)
      refine OW.cons (OP.val (v := (.int .i64 a0.Boats)) rfl (x_load1 Try.underlying2 rfl rfl (hL.cellB 1 rfl rfl)) ?_)
      refine OW.cons (OP.val (v := (.agg #[v96])) rfl (x_loadN (cs := [v96]) Try.underlying46 Try_T46 rfl rfl (hL.cellsB 0 rfl (o := 0) (l := [v96]) (by intro j u hj; exact (by simpa using hj)))) ?_)
      obtain ⟨x105, hx106, hm⟩ := bndE hm
      refine OW.cons (OP.call rfl (x_call (vs := [(.int .i64 a0.Boats), (.agg #[v96])]) Try_C48 ⟨rfl, rfl, trivial⟩) (M.impl_IsRace_ok _ a0.Boats x91 (hL.rdS 2 rfl hr100) hx106) ?_)
      rintro e107 wd108 ⟨rfl, hF109⟩
      refine ⟨_, rfl, ?_⟩
      have hL := hL.pushAll hF109
      simp only [lA, lB, lC, lD] at hL
      refine OW.cons (OP.val (v := (.bool (!x105))) rfl (x_not rfl) ?_)
      refine OW.nil ?_
      refine CW.condM (t := !x105) rfl hm (fun hb110 hm => ?_) (fun hb110 hm => ?_)
      · refine CW.seq ?_
        refine CW.regionL ?_
        refine OW.cons (OP.val (v := (.bool false)) rfl (x_assign) ?_)
        refine OW.nil ?_
        refine CW.ret ?_
        obtain rfl := Option.some.inj hm
        have hm := hr48 _ rfl
        obtain rfl := Option.some.inj hm
        exact RR1 rfl rfl ⟨rfl, hL.fresh 2 rfl [] (by decide) (by decide) rfl⟩
      · refine CW.skip ?_
        refine CW.regionL ?_
        refine OW.cons (OP.val (v := (.int .i64 (w64 (s_l1 + 1)))) rfl (x_add f89 rfl) ?_)
        refine OW.cons (OP.val (v := (.int .i64 (w64 (s_l1 + 1)))) rfl (x_move) ?_)
        refine OW.nil ?_
        have hL := hL.sel [1, 2] (by decide) rfl
        obtain rfl := Option.some.inj hm
        exact ⟨_, rfl, ⟨f86, f87, f88, rfl, hL⟩⟩
    · refine CW.exit ?_
      refine XJ.hit ?_
      obtain rfl := Option.some.inj hm
      exact ⟨_, rfl, ⟨f86, f87, f88, f89, hL⟩⟩

theorem M.impl_isPenaltyCode_ok (w0 : World) (a0 : Int) {r : Bool} (hm : M.impl_isPenaltyCode a0 = some r) :
    Calls Try.prog 88 #[(.int .i64 a0)] w0 fun e w' => e = .returned (.bool r) ∧ Fresh w0 w' [] := by
  unfold M.impl_isPenaltyCode at hm
  refine calls_CW (args := [(.int .i64 a0)]) Try.func88 rfl rfl rfl ?_
  have hL := Hp.start w0
  refine CW.seq ?_
  refine CW.regionL ?_
  refine OW.cons (OP.val (v := (.bool false)) rfl (x_assign) ?_)
  refine OW.nil ?_
  refine CW.seqJ (fun (s_j1 : Bool) (F : Fr) (w : World) => F 2 = (.bool s_j1) ∧ Hp w0 [Ent.snap w0 w0.heap.size] w) (fun s_j1 => M.impl_isPenaltyCode_j1 s_j1 = some r) ?_ ?_
  · refine CW.regionL ?_
    refine OW.cons (OP.val (v := (.int .i64 a0)) rfl (x_move) ?_)
    refine OW.cons (OP.val (v := (.bool (a0 == 6))) rfl (x_eql rfl rfl) ?_)
    refine OW.cons (OP.val (v := (.bool (a0 == 6))) rfl (x_move) ?_)
    refine ifB_elim hm (fun hb6 hm => ?_) (fun hb6 hm => ?_)
    · refine OW.cons (OP.no' rfl rfl hb6 rfl ?_)
      refine OW.cons (OP.no' rfl rfl hb6 rfl ?_)
      refine OW.cons (OP.val (v := (.bool true)) rfl (x_pickT' rfl hb6 rfl) ?_)
      refine OW.cons (OP.val (v := (.bool true)) rfl (x_move) ?_)
      refine OW.cons (OP.no' rfl rfl rfl rfl ?_)
      refine OW.cons (OP.no' rfl rfl rfl rfl ?_)
      refine OW.cons (OP.val (v := (.bool true)) rfl (x_pickT' rfl rfl rfl) ?_)
      refine OW.cons (OP.val (v := (.bool true)) rfl (x_assign) ?_)
      refine OW.nil ?_
      exact ⟨true, hm, ⟨rfl, hL⟩⟩
    · refine OW.cons (OP.yes' rfl rfl hb6 (OP.val (v := (.int .i64 a0)) rfl (x_move) ?_))
      refine OW.cons (OP.yes' rfl rfl hb6 (OP.val (v := (.bool (a0 == 7))) rfl (x_eql rfl rfl) ?_))
      refine OW.cons (OP.val (v := (.bool (a0 == 7))) rfl (x_pickF' rfl hb6 rfl) ?_)
      refine OW.cons (OP.val (v := (.bool (a0 == 7))) rfl (x_move) ?_)
      refine ifB_elim hm (fun hb7 hm => ?_) (fun hb7 hm => ?_)
      · refine OW.cons (OP.no' rfl rfl hb7 rfl ?_)
        refine OW.cons (OP.no' rfl rfl hb7 rfl ?_)
        refine OW.cons (OP.val (v := (.bool true)) rfl (x_pickT' rfl hb7 rfl) ?_)
        refine OW.cons (OP.val (v := (.bool true)) rfl (x_assign) ?_)
        refine OW.nil ?_
        exact ⟨true, hm, ⟨rfl, hL⟩⟩
      · refine OW.cons (OP.yes' rfl rfl hb7 (OP.val (v := (.int .i64 a0)) rfl (x_move) ?_))
        refine OW.cons (OP.yes' rfl rfl hb7 (OP.val (v := (.bool (a0 == 5))) rfl (x_eql rfl rfl) ?_))
        refine OW.cons (OP.val (v := (.bool (a0 == 5))) rfl (x_pickF' rfl hb7 rfl) ?_)
        refine OW.cons (OP.val (v := (.bool (a0 == 5))) rfl (x_assign) ?_)
        refine OW.nil ?_
        exact ⟨a0 == 5, hm, ⟨rfl, hL⟩⟩
  · intro s_j1 F3 wd4 hJ hm
    unfold M.impl_isPenaltyCode_j1 at hm
    obtain ⟨f5, hL⟩ := hJ
    refine CW.ret ?_
    obtain rfl := Option.some.inj hm
    exact RR1 rfl f5 ⟨rfl, hL.fresh 0 rfl [] (by decide) (by decide) rfl⟩

theorem M.impl_isElapsed_ok (w0 : World) (a0 : Int) {r : Bool} (hm : M.impl_isElapsed a0 = some r) :
    Calls Try.prog 89 #[(.int .i64 a0)] w0 fun e w' => e = .returned (.bool r) ∧ Fresh w0 w' [] := by
  unfold M.impl_isElapsed at hm
  refine calls_CW (args := [(.int .i64 a0)]) Try.func89 rfl rfl rfl ?_
  have hL := Hp.start w0
  refine CW.seq ?_
  refine CW.regionL ?_
  refine OW.cons (OP.val (v := (.bool false)) rfl (x_assign) ?_)
  refine OW.nil ?_
  refine CW.seq ?_
  refine CW.regionL ?_
  refine OW.cons (OP.val (v := (.int .i64 a0)) rfl (x_move) ?_)
  obtain ⟨x1, hx2, hm⟩ := bndE hm
  refine OW.cons (OP.call rfl (x_call (vs := [(.int .i64 a0), (.int .i64 1), (.int .i64 1000000000)]) Try_C49 ⟨rfl, rfl, rfl, trivial⟩) (M.impl_within_ok _ a0 1 1000000000 hx2) ?_)
  rintro e3 wd4 ⟨rfl, hF5⟩
  refine ⟨_, rfl, ?_⟩
  have hL := hL.pushAll hF5
  simp only [lA, lB, lC, lD] at hL
  refine OW.cons (OP.val (v := (.bool x1)) rfl (x_assign) ?_)
  refine OW.nil ?_
  refine CW.ret ?_
  obtain rfl := Option.some.inj hm
  exact RR1 rfl rfl ⟨rfl, hL.fresh 0 rfl [] (by decide) (by decide) rfl⟩

theorem M.impl_isPenalty_ok (w0 : World) (a0 : Penalty) {r : Bool} (hm : M.impl_isPenalty a0 = some r) :
    Calls Try.prog 65 #[(.agg #[(.int .i64 a0.Race), (.int .i64 a0.Boat), (.int .i64 a0.Kind), (.int .i64 a0.Value)])] w0 fun e w' => e = .returned (.bool r) ∧ Fresh w0 w' [] := by
  unfold M.impl_isPenalty at hm
  refine calls_CW (args := [(.agg #[(.int .i64 a0.Race), (.int .i64 a0.Boat), (.int .i64 a0.Kind), (.int .i64 a0.Value)])]) Try.func65 rfl rfl rfl ?_
  have hL := Hp.start w0
  refine CW.seq ?_
  refine CW.regionL ?_
  refine OW.cons (S_box (cs := #[(.int .i64 a0.Race), (.int .i64 a0.Boat), (.int .i64 a0.Kind), (.int .i64 a0.Value)]) hL rfl rfl rfl ?_)
  intro wd1 b2 hL
  refine OW.cons (OP.val (v := (.bool false)) rfl (x_assign) ?_)
  refine OW.nil ?_
  refine CW.seq ?_
  refine CW.seq ?_
  refine CW.regionL ?_
  refine OW.cons (OP.val (v := (.pointer (some ⟨b2, 2, none⟩))) rfl (x_fieldAddr (fsz := 1) 0 2 2 Try.underlying48 rfl Try_T2 rfl rfl rfl) ?_)
  refine OW.cons (OP.val (v := (.int .i64 a0.Kind)) rfl (x_load1 Try.underlying2 rfl rfl (hL.cellB 0 rfl rfl)) ?_)
  refine OW.nil ?_
  refine CW.block ?_
  refine CW.seq ?_
  refine CW.regionL ?_
  refine OW.cons (OP.val (v := (.bool (a0.Kind == 1))) rfl (x_eql rfl rfl) ?_)
  refine OW.cons (OP.val (v := (.bool (a0.Kind == 1))) rfl (x_assign) ?_)
  refine OW.nil ?_
  refine CW.condM (t := a0.Kind == 1) rfl hm (fun hb3 hm => ?_) (fun hb3 hm => ?_)
  · refine CW.seq ?_
    refine CW.regionL ?_
    refine OW.cons (OP.val (v := (.pointer (some ⟨b2, 3, none⟩))) rfl (x_fieldAddr (fsz := 1) 0 3 3 Try.underlying48 rfl Try_T2 rfl rfl rfl) ?_)
    refine OW.cons (OP.val (v := (.int .i64 a0.Value)) rfl (x_load1 Try.underlying2 rfl rfl (hL.cellB 0 rfl rfl)) ?_)
    obtain ⟨x4, hx5, hm⟩ := bndE hm
    refine OW.cons (OP.call rfl (x_call (vs := [(.int .i64 a0.Value)]) Try_C88 ⟨rfl, trivial⟩) (M.impl_isPenaltyCode_ok _ a0.Value hx5) ?_)
    rintro e6 wd7 ⟨rfl, hF8⟩
    refine ⟨_, rfl, ?_⟩
    have hL := hL.pushAll hF8
    simp only [lA, lB, lC, lD] at hL
    refine OW.cons (OP.val (v := (.bool x4)) rfl (x_assign) ?_)
    refine OW.nil ?_
    refine CW.ret ?_
    obtain rfl := Option.some.inj hm
    exact RR1 rfl rfl ⟨rfl, hL.fresh 1 rfl [] (by decide) (by decide) rfl⟩
  · refine CW.seq ?_
    refine CW.regionL ?_
    refine OW.cons (OP.val (v := (.bool (a0.Kind == 2))) rfl (x_eql rfl rfl) ?_)
    refine OW.cons (OP.val (v := (.bool (a0.Kind == 2))) rfl (x_assign) ?_)
    refine OW.nil ?_
    refine CW.condM (t := a0.Kind == 2) rfl hm (fun hb9 hm => ?_) (fun hb9 hm => ?_)
    · refine CW.seq ?_
      refine CW.regionL ?_
      refine OW.cons (OP.val (v := (.pointer (some ⟨b2, 3, none⟩))) rfl (x_fieldAddr (fsz := 1) 0 3 3 Try.underlying48 rfl Try_T2 rfl rfl rfl) ?_)
      refine OW.cons (OP.val (v := (.int .i64 a0.Value)) rfl (x_load1 Try.underlying2 rfl rfl (hL.cellB 0 rfl rfl)) ?_)
      obtain ⟨x10, hx11, hm⟩ := bndE hm
      refine OW.cons (OP.call rfl (x_call (vs := [(.int .i64 a0.Value)]) Try_C89 ⟨rfl, trivial⟩) (M.impl_isElapsed_ok _ a0.Value hx11) ?_)
      rintro e12 wd13 ⟨rfl, hF14⟩
      refine ⟨_, rfl, ?_⟩
      have hL := hL.pushAll hF14
      simp only [lA, lB, lC, lD] at hL
      refine OW.cons (OP.val (v := (.bool x10)) rfl (x_assign) ?_)
      refine OW.nil ?_
      refine CW.ret ?_
      obtain rfl := Option.some.inj hm
      exact RR1 rfl rfl ⟨rfl, hL.fresh 1 rfl [] (by decide) (by decide) rfl⟩
    · refine CW.skip ?_
      refine CW.seqJ (fun (s_j1 : Bool) (F : Fr) (w : World) => F 2 = (.bool s_j1) ∧ Hp w0 [Ent.blk b2 48 #[(.int .i64 a0.Race), (.int .i64 a0.Boat), (.int .i64 a0.Kind), (.int .i64 a0.Value)], Ent.snap w0 w0.heap.size] w) (fun s_j1 => M.impl_isPenalty_j1 s_j1 = some r) ?_ ?_
      · refine CW.regionL ?_
        refine OW.cons (OP.val (v := (.pointer (some ⟨b2, 2, none⟩))) rfl (x_fieldAddr (fsz := 1) 0 2 2 Try.underlying48 rfl Try_T2 rfl rfl rfl) ?_)
        refine OW.cons (OP.val (v := (.int .i64 a0.Kind)) rfl (x_load1 Try.underlying2 rfl rfl (hL.cellB 0 rfl rfl)) ?_)
        refine OW.cons (OP.val (v := (.bool (a0.Kind == 3))) rfl (x_eql rfl rfl) ?_)
        refine OW.cons (OP.val (v := (.bool (a0.Kind == 3))) rfl (x_move) ?_)
        refine ifB_elim hm (fun hb24 hm => ?_) (fun hb24 hm => ?_)
        · refine OW.cons (OP.yes' rfl rfl hb24 (OP.val (v := (.pointer (some ⟨b2, 3, none⟩))) rfl (x_fieldAddr (fsz := 1) 0 3 3 Try.underlying48 rfl Try_T2 rfl rfl rfl) ?_))
          refine OW.cons (OP.yes' rfl rfl hb24 (OP.val (v := (.int .i64 a0.Value)) rfl (x_load1 Try.underlying2 rfl rfl (hL.cellB 0 rfl rfl)) ?_))
          obtain ⟨x25, hx26, hm⟩ := bndE hm
          refine OW.cons (OP.yes' rfl rfl hb24 (OP.call rfl (x_call (vs := [(.int .i64 a0.Value), (.int .i64 1), (.int .i64 100)]) Try_C49 ⟨rfl, rfl, rfl, trivial⟩) (M.impl_within_ok _ a0.Value 1 100 hx26) ?_))
          rintro e27 wd28 ⟨rfl, hF29⟩
          refine ⟨_, rfl, ?_⟩
          have hL := hL.pushAll hF29
          simp only [lA, lB, lC, lD] at hL
          refine OW.cons (OP.val (v := (.bool x25)) rfl (x_pickT' rfl hb24 rfl) ?_)
          refine OW.cons (OP.val (v := (.bool x25)) rfl (x_assign) ?_)
          refine OW.nil ?_
          exact ⟨x25, hm, ⟨rfl, hL⟩⟩
        · refine OW.cons (OP.no' rfl rfl hb24 rfl ?_)
          refine OW.cons (OP.no' rfl rfl hb24 rfl ?_)
          refine OW.cons (OP.no' rfl rfl hb24 rfl ?_)
          refine OW.cons (OP.val (v := (.bool false)) rfl (x_pickF' rfl hb24 rfl) ?_)
          refine OW.cons (OP.val (v := (.bool false)) rfl (x_assign) ?_)
          refine OW.nil ?_
          exact ⟨false, hm, ⟨rfl, hL⟩⟩
      · intro s_j1 F21 wd22 hJ hm
        unfold M.impl_isPenalty_j1 at hm
        obtain ⟨f23, hL⟩ := hJ
        refine CW.ret ?_
        obtain rfl := Option.some.inj hm
        exact RR1 rfl f23 ⟨rfl, hL.fresh 1 rfl [] (by decide) (by decide) rfl⟩

theorem M.impl_arePenalties_ok (w0 : World) (a0 : Series) {v1 : Value} (h2 : rdL (· < w0.heap.size) w0 v1 a0.Races) (a1 : List Penalty) {v3 : Value} (h4 : rdL (· < w0.heap.size) w0 v3 a1) {r : Bool} (hm : M.impl_arePenalties a0 a1 = some r) :
    Calls Try.prog 38 #[(.agg #[(.int .i64 a0.Boats), (.int .i64 a0.Scheme), v1]), v3] w0 fun e w' => e = .returned (.bool r) ∧ Fresh w0 w' [] := by
  unfold M.impl_arePenalties at hm
  refine calls_CW (args := [(.agg #[(.int .i64 a0.Boats), (.int .i64 a0.Scheme), v1]), v3]) Try.func38 rfl rfl rfl ?_
  have hL := Hp.start w0
  refine CW.seq ?_
  refine CW.regionL ?_
  refine OW.cons (S_box (cs := #[(.int .i64 a0.Boats), (.int .i64 a0.Scheme), v1]) hL rfl rfl rfl ?_)
  intro wd5 b6 hL
  refine OW.cons (OP.val (v := (.bool false)) rfl (x_assign) ?_)
  refine OW.nil ?_
  refine CW.seq ?_
  refine CW.seq ?_
  refine CW.regionL ?_
  refine OW.cons (OP.val (v := v3) rfl (x_move) ?_)
  refine OW.cons (OP.val (v := (.int .i64 (a1.length : Int))) rfl (x_lenR Try.underlying33 rfl (hL.rdS 1 rfl h4)) ?_)
  refine OW.cons (OP.val (v := (.int .i64 0)) rfl (x_move) ?_)
  refine OW.nil ?_
  obtain ⟨o117, ho118, hm⟩ := bndE hm
  refine CW.loopB (fun (s_l1 : Int) (F : Fr) (w : World) => F 1 = v3 ∧ F 2 = (.pointer (some ⟨b6, 0, none⟩)) ∧ F 7 = v3 ∧ F 8 = (.int .i64 (a1.length : Int)) ∧ F 9 = (.int .i64 s_l1) ∧ Hp w0 [Ent.blk b6 31 #[(.int .i64 a0.Boats), (.int .i64 a0.Scheme), v1], Ent.snap w0 w0.heap.size] w) (fun o => outc o (fun x => some x) (fun s => M.impl_arePenalties_a1 a1 s) = some r) ho118 hm ⟨rfl, rfl, rfl, rfl, rfl, hL⟩ ?_ ?_
  · intro s_l1 F119 wd120 hJ hm
    have hm := outcE hm
    have hm : M.impl_arePenalties_a1 a1 s_l1 = some r := hm
    unfold M.impl_arePenalties_a1 at hm
    obtain ⟨f121, f122, f123, f124, f125, hL⟩ := hJ
    refine CW.seq ?_
    refine CW.regionL ?_
    refine OW.cons (OP.val (v := v3) rfl (x_mv f121) ?_)
    refine OW.cons (OP.val (v := (.int .i64 (a1.length : Int))) rfl (x_lenR Try.underlying33 rfl (hL.rdS 1 rfl h4)) ?_)
    refine OW.cons (OP.val (v := (.bool (decide ((a1.length : Int) ≤ 60)))) rfl (x_leq rfl rfl) ?_)
    refine OW.cons (OP.val (v := (.bool (decide ((a1.length : Int) ≤ 60)))) rfl (x_assign) ?_)
    refine OW.nil ?_
    refine CW.ret ?_
    obtain rfl := Option.some.inj hm
    exact RR1 rfl rfl ⟨rfl, hL.fresh 1 rfl [] (by decide) (by decide) rfl⟩
  · intro s_l1 F126 wd127 t115 hJ hm hr116
    unfold M.impl_arePenalties_l1 at hm
    obtain ⟨f128, f129, f130, f131, f132, hL⟩ := hJ
    refine CW.seq ?_
    refine CW.regionL ?_
    refine OW.cons (OP.val (v := (.bool (decide (s_l1 < (a1.length : Int))))) rfl (x_lss f132 f131) ?_)
    refine OW.nil ?_
    refine CW.seq ?_
    refine CW.condM (t := decide (s_l1 < (a1.length : Int))) rfl hm (fun hb133 hm => ?_) (fun hb133 hm => ?_)
    · refine CW.skip ?_
      refine CW.seq ?_
      refine CW.block ?_
      refine CW.seq ?_
      refine CW.regionL ?_
      obtain ⟨x134, ha135, hm⟩ := bndE hm
      obtain ⟨hz136, ha140⟩ := idxE ha135
      obtain ⟨b137, q138, hix139⟩ := rdL_ix (hL.rdS 1 rfl h4) hz136 ha140
      refine OW.cons (OP.val (v := (.pointer (some ⟨b137, q138, none⟩))) rfl (x_ix Try.underlying33 Try_T48 f130 f132 hix139) ?_)
      refine OW.cons (OP.val (v := (.agg #[(.int .i64 x134.Race), (.int .i64 x134.Boat), (.int .i64 x134.Kind), (.int .i64 x134.Value)])) rfl (x_loadN (cs := [(.int .i64 x134.Race), (.int .i64 x134.Boat), (.int .i64 x134.Kind), (.int .i64 x134.Value)]) Try.underlying48 Try_T48 rfl rfl (rdF_cells (hL.rdS 1 rfl h4) hix139 ha140)) ?_)
      refine OW.cons (S_alloc (cs := #[(.int .i64 0), (.int .i64 0), (.int .i64 0), (.int .i64 0)]) hL Try_T48 rfl rfl ?_)
      intro wd141 b142 hL
      refine OW.cons (S_storeN (l := [(.int .i64 x134.Race), (.int .i64 x134.Boat), (.int .i64 x134.Kind), (.int .i64 x134.Value)]) (cs' := #[(.int .i64 x134.Race), (.int .i64 x134.Boat), (.int .i64 x134.Kind), (.int .i64 x134.Value)]) hL 0 rfl Try_T48 rfl rfl (List.forall_mem_cons.2 ⟨rfl, (List.forall_mem_cons.2 ⟨rfl, (List.forall_mem_cons.2 ⟨rfl, (List.forall_mem_cons.2 ⟨rfl, (fun _ h => by cases h)⟩)⟩)⟩)⟩) rfl (Nat.le_of_ble_eq_true rfl) rfl ?_)
      intro wd143 hL
      refine OW.nil ?_
      refine CW.seqJ (fun (s_j1 : Bool) (F : Fr) (w : World) => F 1 = v3 ∧ F 2 = (.pointer (some ⟨b6, 0, none⟩)) ∧ F 7 = v3 ∧ F 8 = (.int .i64 (a1.length : Int)) ∧ F 9 = (.int .i64 s_l1) ∧ F 34 = (.bool s_j1) ∧ Hp w0 [Ent.blk b142 48 #[(.int .i64 x134.Race), (.int .i64 x134.Boat), (.int .i64 x134.Kind), (.int .i64 x134.Value)], Ent.blk b6 31 #[(.int .i64 a0.Boats), (.int .i64 a0.Scheme), v1], Ent.snap w0 w0.heap.size] w) (fun s_j1 => M.impl_arePenalties_j1 s_l1 s_j1 = some t115) ?_ ?_
      · refine CW.regionL ?_
        refine OW.cons (OP.val (v := (.pointer (some ⟨b142, 0, none⟩))) rfl (x_fieldAddr (fsz := 1) 0 0 0 Try.underlying48 rfl Try_T2 rfl rfl rfl) ?_)
        refine OW.cons (OP.val (v := (.int .i64 x134.Race)) rfl (x_load1 Try.underlying2 rfl rfl (hL.cellB 0 rfl rfl)) ?_)
        refine OW.cons (OP.val (v := (.pointer (some ⟨b6, 2, none⟩))) rfl (x_fieldAddr (fsz := 1) 0 2 2 Try.underlying31 rfl Try_T29 rfl f129 rfl) ?_)
        refine OW.cons (OP.val (v := v1) rfl (x_load1 Try.underlying29 rfl rfl (hL.cellB 1 rfl rfl)) ?_)
        refine OW.cons (OP.val (v := (.int .i64 (a0.Races.length : Int))) rfl (x_lenR Try.underlying29 rfl (hL.rdS 2 rfl h2)) ?_)
        refine OW.cons (OP.val (v := (.int .i64 (w64 ((a0.Races.length : Int) - 1)))) rfl (x_sub rfl rfl) ?_)
        obtain ⟨x170, hx171, hm⟩ := bndE hm
        refine OW.cons (OP.call rfl (x_call (vs := [(.int .i64 x134.Race), (.int .i64 0), (.int .i64 (w64 ((a0.Races.length : Int) - 1)))]) Try_C49 ⟨rfl, rfl, rfl, trivial⟩) (M.impl_within_ok _ x134.Race 0 (w64 ((a0.Races.length : Int) - 1)) hx171) ?_)
        rintro e172 wd173 ⟨rfl, hF174⟩
        refine ⟨_, rfl, ?_⟩
        have hL := hL.pushAll hF174
        simp only [lA, lB, lC, lD] at hL
        refine OW.cons (OP.val (v := (.bool (!x170))) rfl (x_not rfl) ?_)
        refine OW.cons (OP.val (v := (.bool (!x170))) rfl (x_move) ?_)
        refine ifB_elim hm (fun hb175 hm => ?_) (fun hb175 hm => ?_)
        · refine OW.cons (OP.no' rfl rfl hb175 rfl ?_)
          refine OW.cons (OP.no' rfl rfl hb175 rfl ?_)
          refine OW.cons (OP.no' rfl rfl hb175 rfl ?_)
          refine OW.cons (OP.no' rfl rfl hb175 rfl ?_)
          refine OW.cons (OP.no' rfl rfl hb175 rfl ?_)
          refine OW.cons (OP.no' rfl rfl hb175 rfl ?_)
          refine OW.cons (OP.no' rfl rfl hb175 rfl ?_)
          refine OW.cons (OP.val (v := (.bool true)) rfl (x_pickT' rfl hb175 rfl) ?_)
          refine OW.cons (OP.val (v := (.bool true)) rfl (x_move) ?_)
          refine OW.cons (OP.no' rfl rfl rfl rfl ?_)
          refine OW.cons (OP.no' rfl rfl rfl rfl ?_)
          refine OW.cons (OP.no' rfl rfl rfl rfl ?_)
          refine OW.cons (OP.val (v := (.bool true)) rfl (x_pickT' rfl rfl rfl) ?_)
          refine OW.nil ?_
          exact ⟨true, hm, ⟨f128, f129, f130, f131, f132, rfl, hL⟩⟩
        · refine OW.cons (OP.yes' rfl rfl hb175 (OP.val (v := (.pointer (some ⟨b142, 1, none⟩))) rfl (x_fieldAddr (fsz := 1) 0 1 1 Try.underlying48 rfl Try_T2 rfl rfl rfl) ?_))
          refine OW.cons (OP.yes' rfl rfl hb175 (OP.val (v := (.int .i64 x134.Boat)) rfl (x_load1 Try.underlying2 rfl rfl (hL.cellB 0 rfl rfl)) ?_))
          refine OW.cons (OP.yes' rfl rfl hb175 (OP.val (v := (.pointer (some ⟨b6, 0, none⟩))) rfl (x_fieldAddr (fsz := 1) 0 0 0 Try.underlying31 rfl Try_T2 rfl f129 rfl) ?_))
          refine OW.cons (OP.yes' rfl rfl hb175 (OP.val (v := (.int .i64 a0.Boats)) rfl (x_load1 Try.underlying2 rfl rfl (hL.cellB 1 rfl rfl)) ?_))
          refine OW.cons (OP.yes' rfl rfl hb175 (OP.val (v := (.int .i64 (w64 (a0.Boats - 1)))) rfl (x_sub rfl rfl) ?_))
          obtain ⟨x176, hx177, hm⟩ := bndE hm
          refine OW.cons (OP.yes' rfl rfl hb175 (OP.call rfl (x_call (vs := [(.int .i64 x134.Boat), (.int .i64 0), (.int .i64 (w64 (a0.Boats - 1)))]) Try_C49 ⟨rfl, rfl, rfl, trivial⟩) (M.impl_within_ok _ x134.Boat 0 (w64 (a0.Boats - 1)) hx177) ?_))
          rintro e178 wd179 ⟨rfl, hF180⟩
          refine ⟨_, rfl, ?_⟩
          have hL := hL.pushAll hF180
          simp only [lA, lB, lC, lD] at hL
          refine OW.cons (OP.yes' rfl rfl hb175 (OP.val (v := (.bool (!x176))) rfl (x_not rfl) ?_))
          refine OW.cons (OP.val (v := (.bool (!x176))) rfl (x_pickF' rfl hb175 rfl) ?_)
          refine OW.cons (OP.val (v := (.bool (!x176))) rfl (x_move) ?_)
          refine ifB_elim hm (fun hb181 hm => ?_) (fun hb181 hm => ?_)
          · refine OW.cons (OP.no' rfl rfl hb181 rfl ?_)
            refine OW.cons (OP.no' rfl rfl hb181 rfl ?_)
            refine OW.cons (OP.no' rfl rfl hb181 rfl ?_)
            refine OW.cons (OP.val (v := (.bool true)) rfl (x_pickT' rfl hb181 rfl) ?_)
            refine OW.nil ?_
            exact ⟨true, hm, ⟨f128, f129, f130, f131, f132, rfl, hL⟩⟩
          · refine OW.cons (OP.yes' rfl rfl hb181 (OP.val (v := (.agg #[(.int .i64 x134.Race), (.int .i64 x134.Boat), (.int .i64 x134.Kind), (.int .i64 x134.Value)])) rfl (x_loadN (cs := [(.int .i64 x134.Race), (.int .i64 x134.Boat), (.int .i64 x134.Kind), (.int .i64 x134.Value)]) Try.underlying48 Try_T48 rfl rfl (hL.cellsB 0 rfl (o := 0) (l := [(.int .i64 x134.Race), (.int .i64 x134.Boat), (.int .i64 x134.Kind), (.int .i64 x134.Value)]) (by intro j u hj; exact (by simpa using hj)))) ?_))
            obtain ⟨x182, hx183, hm⟩ := bndE hm
            refine OW.cons (OP.yes' rfl rfl hb181 (OP.call rfl (x_call (vs := [(.agg #[(.int .i64 x134.Race), (.int .i64 x134.Boat), (.int .i64 x134.Kind), (.int .i64 x134.Value)])]) Try_C65 ⟨rfl, trivial⟩) (M.impl_isPenalty_ok _ x134 hx183) ?_))
            rintro e184 wd185 ⟨rfl, hF186⟩
            refine ⟨_, rfl, ?_⟩
            have hL := hL.pushAll hF186
            simp only [lA, lB, lC, lD] at hL
            refine OW.cons (OP.yes' rfl rfl hb181 (OP.val (v := (.bool (!x182))) rfl (x_not rfl) ?_))
            refine OW.cons (OP.val (v := (.bool (!x182))) rfl (x_pickF' rfl hb181 rfl) ?_)
            refine OW.nil ?_
            exact ⟨!x182, hm, ⟨f128, f129, f130, f131, f132, rfl, hL⟩⟩
      · intro s_j1 F161 wd162 hJ hm
        unfold M.impl_arePenalties_j1 at hm
        obtain ⟨f163, f164, f165, f166, f167, f168, hL⟩ := hJ
        refine CW.condM (t := s_j1) f168 hm (fun hb169 hm => ?_) (fun hb169 hm => ?_)
        · refine CW.seq ?_
          refine CW.regionL ?_
          refine OW.cons (OP.val (v := (.bool false)) rfl (x_assign) ?_)
          refine OW.nil ?_
          refine CW.ret ?_
          obtain rfl := Option.some.inj hm
          have hm := hr116 _ rfl
          obtain rfl := Option.some.inj hm
          exact RR1 rfl rfl ⟨rfl, hL.fresh 2 rfl [] (by decide) (by decide) rfl⟩
        · refine CW.skip ?_
          refine CW.regionL ?_
          refine OW.cons (OP.val (v := (.int .i64 (w64 (s_l1 + 1)))) rfl (x_add f167 rfl) ?_)
          refine OW.cons (OP.val (v := (.int .i64 (w64 (s_l1 + 1)))) rfl (x_move) ?_)
          refine OW.nil ?_
          have hL := hL.sel [1, 2] (by decide) rfl
          obtain rfl := Option.some.inj hm
          exact ⟨_, rfl, ⟨f163, f164, f165, f166, rfl, hL⟩⟩
    · refine CW.exit ?_
      refine XJ.hit ?_
      obtain rfl := Option.some.inj hm
      exact ⟨_, rfl, ⟨f128, f129, f130, f131, f132, hL⟩⟩

theorem M.laws_big_ok (w0 : World) (a0 : List UInt8) {v1 : Value} (h2 : rdL (· < w0.heap.size) w0 v1 a0) {r : Bool} (hm : M.laws_big a0 = some r) :
    Calls Try.prog 16 #[v1] w0 fun e w' => e = .returned (.bool r) ∧ Fresh w0 w' [] := by
  unfold M.laws_big at hm
  refine calls_CW (args := [v1]) Try.func16 rfl rfl rfl ?_
  have hL := Hp.start w0
  refine CW.seq ?_
  refine CW.regionL ?_
  refine OW.cons (OP.val (v := (.bool false)) rfl (x_assign) ?_)
  refine OW.nil ?_
  refine CW.seq ?_
  refine CW.regionL ?_
  refine OW.cons (OP.val (v := v1) rfl (x_move) ?_)
  refine OW.cons (OP.val (v := (.int .i64 (a0.length : Int))) rfl (x_lenR Try.underlying38 rfl (hL.rdS 0 rfl h2)) ?_)
  refine OW.cons (OP.val (v := (.bool (decide (4096 < (a0.length : Int))))) rfl (x_gtr rfl rfl) ?_)
  refine OW.cons (OP.val (v := (.bool (decide (4096 < (a0.length : Int))))) rfl (x_assign) ?_)
  refine OW.nil ?_
  refine CW.ret ?_
  obtain rfl := Option.some.inj hm
  exact RR1 rfl rfl ⟨rfl, hL.fresh 0 rfl [] (by decide) (by decide) rfl⟩

theorem M.spec_l01From_ok (w0 : World) (a0 : List UInt8) {v1 : Value} (h2 : rdL (· < w0.heap.size) w0 v1 a0) {r : (Int × Int)} (hm : M.spec_l01From a0 = some r) :
    Calls Try.prog 42 #[v1] w0 fun e w' => ∃ rb : Nat, e = .returned (.pointer (some ⟨rb, 0, none⟩)) ∧ Fresh w0 w' [Ent.blk rb 94 #[v1, .int .i64 r.1, .int .i64 r.2]] := by
  unfold M.spec_l01From at hm
  refine calls_CW (args := [v1]) Try.func42 rfl rfl rfl ?_
  have hL := Hp.start w0
  refine CW.seq ?_
  refine CW.regionL ?_
  refine OW.cons (OP.val (v := (.pointer none)) rfl (x_assign) ?_)
  refine OW.nil ?_
  refine CW.seq ?_
  refine CW.regionL ?_
  refine OW.cons (OP.val (v := v1) rfl (x_move) ?_)
  refine OW.cons (OP.val (v := (.agg #[v1, (.int .i64 0), (.int .i64 61657)])) rfl (x_build Try_B94 (ps := [(0, v1), (2, (.int .i64 61657))]) ⟨⟨rfl, rfl⟩, ⟨rfl, rfl⟩, trivial⟩ (by simp [Instr.fill, cells_int, cells_bool, cells_string, cells_agg, cells_slice, cells_pointer, (rdL_cells (hL.rdS 0 rfl h2))])) ?_)
  refine OW.cons (S_box (cs := #[v1, (.int .i64 0), (.int .i64 61657)]) hL rfl rfl rfl ?_)
  intro wd3 b4 hL
  refine OW.cons (OP.val (v := (.pointer (some ⟨b4, 0, none⟩))) rfl (x_assign) ?_)
  refine OW.nil ?_
  refine CW.seq ?_
  refine CW.seq ?_
  refine CW.regionL ?_
  refine OW.cons (OP.val (v := (.int .i64 0)) rfl (x_assign) ?_)
  refine OW.nil ?_
  obtain ⟨o57, ho58, hm⟩ := bndE hm
  refine CW.loopB (fun (s_l1 : Int × Int) (F : Fr) (w : World) => F 0 = v1 ∧ F 3 = (.pointer (some ⟨b4, 0, none⟩)) ∧ F 4 = (.int .i64 s_l1.2) ∧ Hp w0 [Ent.blk b4 94 #[v1, (.int .i64 0), (.int .i64 s_l1.1)], Ent.snap w0 w0.heap.size] w) (fun o => outc o (fun x => some x) (fun s => M.spec_l01From_a1 s) = some r) ho58 hm ⟨rfl, rfl, rfl, hL⟩ ?_ ?_
  · intro s_l1 F59 wd60 hJ hm
    have hm := outcE hm
    have hm : M.spec_l01From_a1 s_l1 = some r := hm
    unfold M.spec_l01From_a1 at hm
    obtain ⟨f61, f62, f63, hL⟩ := hJ
    refine CW.seq ?_
    refine CW.regionL ?_
    refine OW.cons (OP.val (v := (.pointer (some ⟨b4, 0, none⟩))) rfl (x_mv f62) ?_)
    refine OW.cons (OP.val (v := (.pointer (some ⟨b4, 0, none⟩))) rfl (x_assign) ?_)
    refine OW.nil ?_
    refine CW.ret ?_
    obtain rfl := Option.some.inj hm
    exact RR1 rfl rfl ⟨b4, rfl, hL.fresh 1 rfl [0] (by decide) (by decide) rfl⟩
  · intro s_l1 F64 wd65 t55 hJ hm hr56
    unfold M.spec_l01From_l1 at hm
    obtain ⟨f66, f67, f68, hL⟩ := hJ
    refine CW.seq ?_
    refine CW.seqJ (fun (s_j1 : Bool) (F : Fr) (w : World) => F 0 = v1 ∧ F 3 = (.pointer (some ⟨b4, 0, none⟩)) ∧ F 4 = (.int .i64 s_l1.2) ∧ F 15 = (.bool s_j1) ∧ Hp w0 [Ent.blk b4 94 #[v1, (.int .i64 0), (.int .i64 s_l1.1)], Ent.snap w0 w0.heap.size] w) (fun s_j1 => M.spec_l01From_j1 a0 s_l1 s_j1 = some t55) ?_ ?_
    · refine CW.regionL ?_
      refine OW.cons (OP.val (v := (.int .i64 s_l1.2)) rfl (x_mv f68) ?_)
      refine OW.cons (OP.val (v := v1) rfl (x_mv f66) ?_)
      refine OW.cons (OP.val (v := (.int .i64 (a0.length : Int))) rfl (x_lenR Try.underlying38 rfl (hL.rdS 1 rfl h2)) ?_)
      refine OW.cons (OP.val (v := (.bool (decide (s_l1.2 < (a0.length : Int))))) rfl (x_lss rfl rfl) ?_)
      refine OW.cons (OP.val (v := (.bool (decide (s_l1.2 < (a0.length : Int))))) rfl (x_move) ?_)
      refine ifB_elim hm (fun hb93 hm => ?_) (fun hb93 hm => ?_)
      · refine OW.cons (OP.yes' rfl rfl hb93 (OP.val (v := (.int .i64 s_l1.2)) rfl (x_mv f68) ?_))
        refine OW.cons (OP.yes' rfl rfl hb93 (OP.val (v := (.bool (decide (s_l1.2 < 64)))) rfl (x_lss rfl rfl) ?_))
        refine OW.cons (OP.val (v := (.bool (decide (s_l1.2 < 64)))) rfl (x_pickT' rfl hb93 rfl) ?_)
        refine OW.nil ?_
        exact ⟨decide (s_l1.2 < 64), hm, ⟨f66, f67, f68, rfl, hL⟩⟩
      · refine OW.cons (OP.no' rfl rfl hb93 rfl ?_)
        refine OW.cons (OP.no' rfl rfl hb93 rfl ?_)
        refine OW.cons (OP.val (v := (.bool false)) rfl (x_pickF' rfl hb93 rfl) ?_)
        refine OW.nil ?_
        exact ⟨false, hm, ⟨f66, f67, f68, rfl, hL⟩⟩
    · intro s_j1 F70 wd71 hJ hm
      unfold M.spec_l01From_j1 at hm
      obtain ⟨f72, f73, f74, f75, hL⟩ := hJ
      refine CW.condM (t := s_j1) f75 hm (fun hb76 hm => ?_) (fun hb76 hm => ?_)
      · refine CW.skip ?_
        refine CW.seq ?_
        refine CW.block ?_
        refine CW.drawH (fun w' => Hp w0 [Ent.snap w0 w0.heap.size] w') Try_mixed ?_
        have hL := hL.call (Mod.drew _)
        have hS := (hL.sel [1] (by decide) rfl)
        refine DH.take 0 rfl (by kernel_rfl) (by kernel_rfl) (by kernel_rfl) rfl rfl hS (YH.val (v := (.pointer (some ⟨b4, 0, none⟩))) (fun w' hS' => x_mv f73)) ?_
        have hS := (hL.sel [1] (by decide) rfl)
        refine DH.take 1 rfl (by kernel_rfl) (by kernel_rfl) (by kernel_rfl) rfl rfl hS (YH.val (v := (.pointer (some ⟨b4, 0, none⟩))) (fun w' hS' => x_mv f73)) ?_
        have hS := (hL.sel [1] (by decide) rfl)
        refine DH.take 2 rfl (by kernel_rfl) (by kernel_rfl) (by kernel_rfl) rfl rfl hS (YH.val (v := (.pointer (some ⟨b4, 0, none⟩))) (fun w' hS' => x_nilCheck rfl)) ?_
        have hS := (hL.sel [1] (by decide) rfl)
        refine DH.take 3 rfl (by kernel_rfl) (by kernel_rfl) (by kernel_rfl) rfl rfl hS (YH.val (v := (.pointer (some ⟨b4, 2, none⟩))) (fun w' hS' => x_fieldAddr (fsz := 1) 0 2 2 Try.underlying94 rfl Try_T2 rfl rfl rfl)) ?_
        have hS := (hL.sel [1] (by decide) rfl)
        refine DH.take 6 rfl (by kernel_rfl) (by kernel_rfl) (by kernel_rfl) rfl rfl hS (YH.val (v := v1) (fun w' hS' => x_mv f72)) ?_
        have hS := (hL.sel [1] (by decide) rfl)
        refine DH.take 7 rfl (by kernel_rfl) (by kernel_rfl) (by kernel_rfl) rfl rfl hS (YH.val (v := (.int .i64 s_l1.2)) (fun w' hS' => x_mv f74)) ?_
        have hS := (hL.sel [1] (by decide) rfl)
        obtain ⟨x85, ha86, hm⟩ := bndE hm
        obtain ⟨hz87, ha91⟩ := idxE ha86
        obtain ⟨b88, q89, hix90⟩ := rdL_ix (hL.rdS 1 rfl h2) hz87 ha91
        refine DH.take 8 rfl (by kernel_rfl) (by kernel_rfl) (by kernel_rfl) rfl rfl hS (YH.val (v := (.pointer (some ⟨b88, q89, none⟩))) (fun w' hS' => x_ix Try.underlying38 Try_T5 rfl rfl hix90)) ?_
        have hS := (hL.sel [1] (by decide) rfl)
        refine DH.take 9 rfl (by kernel_rfl) (by kernel_rfl) (by kernel_rfl) rfl rfl hS (YH.val (v := (.int .u8 (x85.toNat : Int))) (fun w' hS' => x_load1 Try.underlying5 rfl rfl (rdF_cells (hS'.rdS 0 rfl h2) hix90 ha91 0 _ rfl))) ?_
        have hS := (hL.sel [1] (by decide) rfl)
        refine DH.take 10 rfl (by kernel_rfl) (by kernel_rfl) (by kernel_rfl) rfl rfl hS (YH.val (v := (.int .i64 (IntKind.i64.wrap (x85.toNat : Int)))) (fun w' hS' => x_conv Try.underlying5 Try.underlying2 rfl)) ?_
        refine DH.only 4 rfl (by kernel_rfl) (OP.val (v := (.int .i64 s_l1.1)) rfl (x_load1 Try.underlying2 rfl rfl (hL.cellB 0 rfl rfl)) ?_)
        refine ⟨(hL.sel [1] (by decide) rfl), ?_⟩
        have hS := (hL.sel [1] (by decide) rfl)
        refine DH.take 5 rfl (by kernel_rfl) (by kernel_rfl) (by kernel_rfl) rfl rfl hS (YH.val (v := (.int .i64 (w64 (s_l1.1 * 53)))) (fun w' hS' => x_mul rfl rfl)) ?_
        have hS := (hL.sel [1] (by decide) rfl)
        refine DH.take 11 rfl (by kernel_rfl) (by kernel_rfl) (by kernel_rfl) rfl rfl hS (YH.val (v := (.int .i64 (w64 ((w64 (s_l1.1 * 53)) + (IntKind.i64.wrap (x85.toNat : Int)))))) (fun w' hS' => x_add rfl rfl)) ?_
        have hS := (hL.sel [1] (by decide) rfl)
        refine DH.take 12 rfl (by kernel_rfl) (by kernel_rfl) (by kernel_rfl) rfl rfl hS (YH.val (v := (.int .i64 ((w64 ((w64 (s_l1.1 * 53)) + (IntKind.i64.wrap (x85.toNat : Int)))).tmod 2147483647))) (fun w' hS' => x_rem rfl rfl (by decide))) ?_
        have hS := (hL.sel [1] (by decide) rfl)
        refine DH.take 13 rfl (by kernel_rfl) (by kernel_rfl) (by kernel_rfl) rfl rfl hS (YH.val (v := (.pointer (some ⟨b4, 0, none⟩))) (fun w' hS' => x_nilCheck rfl)) ?_
        have hS := (hL.sel [1] (by decide) rfl)
        refine DH.take 14 rfl (by kernel_rfl) (by kernel_rfl) (by kernel_rfl) rfl rfl hS (YH.val (v := (.pointer (some ⟨b4, 2, none⟩))) (fun w' hS' => x_fieldAddr (fsz := 1) 0 2 2 Try.underlying94 rfl Try_T2 rfl rfl rfl)) ?_
        refine DH.only 15 rfl (by kernel_rfl) (S_store (cs' := #[v1, (.int .i64 0), (.int .i64 ((w64 ((w64 (s_l1.1 * 53)) + (IntKind.i64.wrap (x85.toNat : Int)))).tmod 2147483647))]) hL 0 rfl Try_T2 rfl rfl rfl rfl rfl ?_)
        intro wd92 hL
        refine ⟨(hL.sel [1] (by decide) rfl), ?_⟩
        refine DH.done (by kernel_rfl) ?_
        refine CW.regionL ?_
        refine OW.cons (OP.val (v := (.int .i64 s_l1.2)) rfl (x_mv f74) ?_)
        refine OW.cons (OP.val (v := (.int .i64 (w64 (s_l1.2 + 1)))) rfl (x_add rfl rfl) ?_)
        refine OW.cons (OP.val (v := (.int .i64 (w64 (s_l1.2 + 1)))) rfl (x_assign) ?_)
        refine OW.nil ?_
        obtain rfl := Option.some.inj hm
        exact ⟨_, rfl, ⟨f72, f73, rfl, hL⟩⟩
      · refine CW.exit ?_
        refine XJ.hit ?_
        obtain rfl := Option.some.inj hm
        exact ⟨_, rfl, ⟨f72, f73, f74, hL⟩⟩

theorem M.spec_l01Next_ok (w0 : World) {b1 : Nat} {v2 : Value} (a0 : Src) (h3 : rdL (fun k => k < w0.heap.size ∧ ¬ (Ent.blk b1 94 #[v2, .int .i64 a0.at_, .int .i64 a0.seed]).S k) w0 v2 a0.code) (he4 : (Ent.blk b1 94 #[v2, .int .i64 a0.at_, .int .i64 a0.seed]).H w0) (a1 : Int) {r : (Int) × (Int × Int)} (hm : M.spec_l01Next a0 a1 = some r) :
    Calls Try.prog 68 #[(.pointer (some ⟨b1, 0, none⟩)), (.int .i64 a1)] w0 fun e w' => e = .returned (.int .i64 r.1) ∧ Mut w0 w' (Ent.blk b1 94 #[v2, .int .i64 a0.at_, .int .i64 a0.seed]).S [Ent.blk b1 94 #[v2, .int .i64 r.2.1, .int .i64 r.2.2]] := by
  unfold M.spec_l01Next at hm
  refine calls_CW (args := [(.pointer (some ⟨b1, 0, none⟩)), (.int .i64 a1)]) Try.func68 rfl rfl rfl ?_
  have hL := Hp.startIO he4
  refine CW.seq ?_
  refine CW.regionL ?_
  refine OW.cons (OP.val (v := (.int .i64 0)) rfl (x_assign) ?_)
  refine OW.nil ?_
  refine CW.seq ?_
  refine CW.seq ?_
  refine CW.regionL ?_
  refine OW.cons (OP.val (v := (.int .i64 a1)) rfl (x_move) ?_)
  refine OW.cons (OP.val (v := (.bool (decide (a1 ≤ 1)))) rfl (x_leq rfl rfl) ?_)
  refine OW.nil ?_
  refine CW.condM (t := decide (a1 ≤ 1)) rfl hm (fun hb5 hm => ?_) (fun hb5 hm => ?_)
  · refine CW.seq ?_
    refine CW.regionL ?_
    refine OW.cons (OP.val (v := (.int .i64 0)) rfl (x_assign) ?_)
    refine OW.nil ?_
    refine CW.ret ?_
    obtain rfl := Option.some.inj hm
    exact RR1 rfl rfl ⟨rfl, hL.mutOut 1 rfl [0] (by decide) (by decide) rfl⟩
  · refine CW.skip ?_
    refine CW.seq ?_
    refine CW.regionL ?_
    refine OW.cons (OP.val (v := (.pointer (some ⟨b1, 0, none⟩))) rfl (x_move) ?_)
    refine OW.cons (OP.val (v := (.pointer (some ⟨b1, 0, none⟩))) rfl (x_move) ?_)
    refine OW.cons (OP.val (v := (.pointer (some ⟨b1, 0, none⟩))) rfl (x_nilCheck rfl) ?_)
    refine OW.cons (OP.val (v := (.pointer (some ⟨b1, 2, none⟩))) rfl (x_fieldAddr (fsz := 1) 0 2 2 Try.underlying94 rfl Try_T2 rfl rfl rfl) ?_)
    refine OW.cons (OP.val (v := (.int .i64 a0.seed)) rfl (x_load1 Try.underlying2 rfl rfl (hL.cellB 0 rfl rfl)) ?_)
    refine OW.cons (OP.val (v := (.int .i64 (w64 (a0.seed * 48271)))) rfl (x_mul rfl rfl) ?_)
    refine OW.cons (OP.val (v := (.int .i64 (w64 ((w64 (a0.seed * 48271)) + 23)))) rfl (x_add rfl rfl) ?_)
    refine OW.cons (OP.val (v := (.int .i64 ((w64 ((w64 (a0.seed * 48271)) + 23)).tmod 2147483647))) rfl (x_rem rfl rfl (by decide)) ?_)
    refine OW.cons (OP.val (v := (.pointer (some ⟨b1, 0, none⟩))) rfl (x_nilCheck rfl) ?_)
    refine OW.cons (OP.val (v := (.pointer (some ⟨b1, 2, none⟩))) rfl (x_fieldAddr (fsz := 1) 0 2 2 Try.underlying94 rfl Try_T2 rfl rfl rfl) ?_)
    refine OW.cons (S_store (cs' := #[v2, (.int .i64 a0.at_), (.int .i64 ((w64 ((w64 (a0.seed * 48271)) + 23)).tmod 2147483647))]) hL 0 rfl Try_T2 rfl rfl rfl rfl rfl ?_)
    intro wd6 hL
    refine OW.nil ?_
    refine CW.seq ?_
    refine CW.regionL ?_
    refine OW.cons (OP.val (v := (.pointer (some ⟨b1, 0, none⟩))) rfl (x_move) ?_)
    refine OW.cons (OP.val (v := (.pointer (some ⟨b1, 0, none⟩))) rfl (x_nilCheck rfl) ?_)
    refine OW.cons (OP.val (v := (.pointer (some ⟨b1, 2, none⟩))) rfl (x_fieldAddr (fsz := 1) 0 2 2 Try.underlying94 rfl Try_T2 rfl rfl rfl) ?_)
    refine OW.cons (OP.val (v := (.int .i64 ((w64 ((w64 (a0.seed * 48271)) + 23)).tmod 2147483647))) rfl (x_load1 Try.underlying2 rfl rfl (hL.cellB 0 rfl rfl)) ?_)
    refine OW.cons (OP.val (v := (.int .i64 (w64 (((w64 ((w64 (a0.seed * 48271)) + 23)).tmod 2147483647).tdiv 17)))) rfl (x_quo rfl rfl (by decide)) ?_)
    refine OW.cons (OP.val (v := (.int .i64 (w64 (((w64 ((w64 (a0.seed * 48271)) + 23)).tmod 2147483647).tdiv 17)))) rfl (x_assign) ?_)
    refine OW.nil ?_
    refine CW.seqJ (fun (s_j1 : Int × Int) (F : Fr) (w : World) => F 1 = (.int .i64 a1) ∧ F 5 = (.int .i64 s_j1.2) ∧ Hp w0 [Ent.blk b1 94 #[v2, (.int .i64 s_j1.1), (.int .i64 ((w64 ((w64 (a0.seed * 48271)) + 23)).tmod 2147483647))], Ent.frz w0 (Ent.blk b1 94 #[v2, .int .i64 a0.at_, .int .i64 a0.seed]).S] w) (fun s_j1 => M.spec_l01Next_j1 a0 a1 s_j1 = some r) ?_ ?_
    · refine CW.seq ?_
      refine CW.draw Try_mixed ?_
      have hL := hL.call (Mod.drew _)
      refine DW.pre (fuel := 0) (fin := (((((((((((Array.replicate 10 false).setIfInBounds 0 true).setIfInBounds 1 true).setIfInBounds 2 true).setIfInBounds 3 true).setIfInBounds 4 true).setIfInBounds 5 true).setIfInBounds 6 true).setIfInBounds 7 true).setIfInBounds 8 true).setIfInBounds 9 true)) (C := fun w' => Mod None_ _ w') [0, 1, 2, 3, 4, 5, 6, 7, 8, 9] (Mod.refl _ _) (by kernel_rfl) (by kernel_rfl) ?_
      refine QW.cons rfl (QP.val (v := (.pointer (some ⟨b1, 0, none⟩))) rfl (fun w' hm' => x_move) ?_)
      refine QW.cons rfl (QP.val (v := (.pointer (some ⟨b1, 0, none⟩))) rfl (fun w' hm' => x_nilCheck rfl) ?_)
      refine QW.cons rfl (QP.val (v := (.pointer (some ⟨b1, 1, none⟩))) rfl (fun w' hm' => x_fieldAddr (fsz := 1) 0 1 1 Try.underlying94 rfl Try_T3 rfl rfl rfl) ?_)
      refine QW.cons rfl (QP.val (v := (.int .i64 a0.at_)) rfl (fun w' hm' => x_load1 Try.underlying3 rfl rfl ((hL.call hm').cellB 0 rfl rfl)) ?_)
      refine QW.cons rfl (QP.val (v := (.pointer (some ⟨b1, 0, none⟩))) rfl (fun w' hm' => x_move) ?_)
      refine QW.cons rfl (QP.val (v := (.pointer (some ⟨b1, 0, none⟩))) rfl (fun w' hm' => x_nilCheck rfl) ?_)
      refine QW.cons rfl (QP.val (v := (.pointer (some ⟨b1, 0, none⟩))) rfl (fun w' hm' => x_fieldAddr (fsz := 1) 0 0 0 Try.underlying94 rfl Try_T38 rfl rfl rfl) ?_)
      refine QW.cons rfl (QP.val (v := v2) rfl (fun w' hm' => x_load1 Try.underlying38 rfl rfl ((hL.call hm').cellB 0 rfl rfl)) ?_)
      refine QW.cons rfl (QP.val (v := (.int .i64 (a0.code.length : Int))) rfl (fun w' hm' => x_lenR Try.underlying38 rfl ((hL.call hm').rdZ 1 rfl h3)) ?_)
      refine QW.cons rfl (QP.val (v := (.bool (decide (a0.at_ < (a0.code.length : Int))))) rfl (fun w' hm' => x_lss rfl rfl) ?_)
      refine QW.nil ?_
      intro wd40 hmod
      have hL := hL.call hmod
      refine DW.done (by kernel_rfl) ?_
      refine CW.condM (t := decide (a0.at_ < (a0.code.length : Int))) rfl hm (fun hb41 hm => ?_) (fun hb41 hm => ?_)
      · refine CW.seq ?_
        refine CW.draw Try_mixed ?_
        have hL := hL.call (Mod.drew _)
        refine DW.pre (fuel := 0) (fin := (((((((((((((((Array.replicate 14 false).setIfInBounds 0 true).setIfInBounds 1 true).setIfInBounds 2 true).setIfInBounds 3 true).setIfInBounds 4 true).setIfInBounds 5 true).setIfInBounds 6 true).setIfInBounds 7 true).setIfInBounds 8 true).setIfInBounds 9 true).setIfInBounds 10 true).setIfInBounds 11 true).setIfInBounds 12 true).setIfInBounds 13 true)) (C := fun w' => Mod None_ _ w') [0, 1, 2, 3, 4, 5, 6, 7, 8, 9, 10, 11, 12, 13] (Mod.refl _ _) (by kernel_rfl) (by kernel_rfl) ?_
        refine QW.cons rfl (QP.val (v := (.int .i64 (w64 (((w64 ((w64 (a0.seed * 48271)) + 23)).tmod 2147483647).tdiv 17)))) rfl (fun w' hm' => x_move) ?_)
        refine QW.cons rfl (QP.val (v := (.pointer (some ⟨b1, 0, none⟩))) rfl (fun w' hm' => x_move) ?_)
        refine QW.cons rfl (QP.val (v := (.pointer (some ⟨b1, 0, none⟩))) rfl (fun w' hm' => x_nilCheck rfl) ?_)
        refine QW.cons rfl (QP.val (v := (.pointer (some ⟨b1, 0, none⟩))) rfl (fun w' hm' => x_fieldAddr (fsz := 1) 0 0 0 Try.underlying94 rfl Try_T38 rfl rfl rfl) ?_)
        refine QW.cons rfl (QP.val (v := v2) rfl (fun w' hm' => x_load1 Try.underlying38 rfl rfl ((hL.call hm').cellB 0 rfl rfl)) ?_)
        refine QW.cons rfl (QP.val (v := (.pointer (some ⟨b1, 0, none⟩))) rfl (fun w' hm' => x_move) ?_)
        refine QW.cons rfl (QP.val (v := (.pointer (some ⟨b1, 0, none⟩))) rfl (fun w' hm' => x_nilCheck rfl) ?_)
        refine QW.cons rfl (QP.val (v := (.pointer (some ⟨b1, 1, none⟩))) rfl (fun w' hm' => x_fieldAddr (fsz := 1) 0 1 1 Try.underlying94 rfl Try_T3 rfl rfl rfl) ?_)
        refine QW.cons rfl (QP.val (v := (.int .i64 a0.at_)) rfl (fun w' hm' => x_load1 Try.underlying3 rfl rfl ((hL.call hm').cellB 0 rfl rfl)) ?_)
        obtain ⟨x42, ha43, hm⟩ := bndE hm
        obtain ⟨hz44, ha48⟩ := idxE ha43
        obtain ⟨b45, q46, hix47⟩ := rdL_ix (hL.rdZ 1 rfl h3) hz44 ha48
        refine QW.cons rfl (QP.val (v := (.pointer (some ⟨b45, q46, none⟩))) rfl (fun w' hm' => x_ix Try.underlying38 Try_T5 rfl rfl hix47) ?_)
        refine QW.cons rfl (QP.val (v := (.int .u8 (x42.toNat : Int))) rfl (fun w' hm' => x_load1 Try.underlying5 rfl rfl (rdF_cells ((hL.call hm').rdZ 1 rfl h3) hix47 ha48 0 _ rfl)) ?_)
        refine QW.cons rfl (QP.val (v := (.int .i64 (IntKind.i64.wrap (x42.toNat : Int)))) rfl (fun w' hm' => x_conv Try.underlying5 Try.underlying2 rfl) ?_)
        refine QW.cons rfl (QP.val (v := (.int .i64 (w64 ((w64 (((w64 ((w64 (a0.seed * 48271)) + 23)).tmod 2147483647).tdiv 17)) + (IntKind.i64.wrap (x42.toNat : Int)))))) rfl (fun w' hm' => x_add rfl rfl) ?_)
        refine QW.cons rfl (QP.val (v := (.int .i64 (w64 ((w64 (((w64 ((w64 (a0.seed * 48271)) + 23)).tmod 2147483647).tdiv 17)) + (IntKind.i64.wrap (x42.toNat : Int)))))) rfl (fun w' hm' => x_assign) ?_)
        refine QW.nil ?_
        intro wd49 hmod
        have hL := hL.call hmod
        refine DW.done (by kernel_rfl) ?_
        refine CW.seq ?_
        refine CW.regionL ?_
        refine OW.cons (OP.val (v := (.pointer (some ⟨b1, 0, none⟩))) rfl (x_move) ?_)
        refine OW.cons (OP.val (v := (.pointer (some ⟨b1, 0, none⟩))) rfl (x_nilCheck rfl) ?_)
        refine OW.cons (OP.val (v := (.pointer (some ⟨b1, 1, none⟩))) rfl (x_fieldAddr (fsz := 1) 0 1 1 Try.underlying94 rfl Try_T3 rfl rfl rfl) ?_)
        refine OW.cons (OP.val (v := (.int .i64 a0.at_)) rfl (x_load1 Try.underlying3 rfl rfl (hL.cellB 0 rfl rfl)) ?_)
        refine OW.cons (OP.val (v := (.int .i64 (w64 (a0.at_ + 1)))) rfl (x_add rfl rfl) ?_)
        refine OW.cons (OP.val (v := (.pointer (some ⟨b1, 0, none⟩))) rfl (x_nilCheck rfl) ?_)
        refine OW.cons (OP.val (v := (.pointer (some ⟨b1, 1, none⟩))) rfl (x_fieldAddr (fsz := 1) 0 1 1 Try.underlying94 rfl Try_T3 rfl rfl rfl) ?_)
        refine OW.cons (S_store (cs' := #[v2, (.int .i64 (w64 (a0.at_ + 1))), (.int .i64 ((w64 ((w64 (a0.seed * 48271)) + 23)).tmod 2147483647))]) hL 0 rfl Try_T3 rfl rfl rfl rfl rfl ?_)
        intro wd50 hL
        refine OW.nil ?_
        refine CW.seqJ (fun (s_j2 : Bool) (F : Fr) (w : World) => F 0 = (.pointer (some ⟨b1, 0, none⟩)) ∧ F 1 = (.int .i64 a1) ∧ F 5 = (.int .i64 (w64 ((w64 (((w64 ((w64 (a0.seed * 48271)) + 23)).tmod 2147483647).tdiv 17)) + (IntKind.i64.wrap (x42.toNat : Int))))) ∧ F 62 = (.bool s_j2) ∧ Hp w0 [Ent.blk b1 94 #[v2, (.int .i64 (w64 (a0.at_ + 1))), (.int .i64 ((w64 ((w64 (a0.seed * 48271)) + 23)).tmod 2147483647))], Ent.frz w0 (Ent.blk b1 94 #[v2, .int .i64 a0.at_, .int .i64 a0.seed]).S] w) (fun s_j2 => M.spec_l01Next_j2 a0 a1 x42 s_j2 = some r) ?_ ?_
        · refine CW.regionL ?_
          refine OW.cons (OP.val (v := (.int .i64 a1)) rfl (x_move) ?_)
          refine OW.cons (OP.val (v := (.bool (decide (a1 ≤ 256)))) rfl (x_leq rfl rfl) ?_)
          refine OW.cons (OP.val (v := (.bool (decide (a1 ≤ 256)))) rfl (x_move) ?_)
          refine ifB_elim hm (fun hb67 hm => ?_) (fun hb67 hm => ?_)
          · refine OW.cons (OP.yes' rfl rfl hb67 (OP.val (v := (.pointer (some ⟨b1, 0, none⟩))) rfl (x_move) ?_))
            refine OW.cons (OP.yes' rfl rfl hb67 (OP.val (v := (.pointer (some ⟨b1, 0, none⟩))) rfl (x_nilCheck rfl) ?_))
            refine OW.cons (OP.yes' rfl rfl hb67 (OP.val (v := (.pointer (some ⟨b1, 1, none⟩))) rfl (x_fieldAddr (fsz := 1) 0 1 1 Try.underlying94 rfl Try_T3 rfl rfl rfl) ?_))
            refine OW.cons (OP.yes' rfl rfl hb67 (OP.val (v := (.int .i64 (w64 (a0.at_ + 1)))) rfl (x_load1 Try.underlying3 rfl rfl (hL.cellB 0 rfl rfl)) ?_))
            refine OW.cons (OP.yes' rfl rfl hb67 (OP.val (v := (.int .i64 ((w64 (a0.at_ + 1)).tmod 2))) rfl (x_rem rfl rfl (by decide)) ?_))
            refine OW.cons (OP.yes' rfl rfl hb67 (OP.val (v := (.bool (((w64 (a0.at_ + 1)).tmod 2) == 0))) rfl (x_eql rfl rfl) ?_))
            refine OW.cons (OP.val (v := (.bool (((w64 (a0.at_ + 1)).tmod 2) == 0))) rfl (x_pickT' rfl hb67 rfl) ?_)
            refine OW.nil ?_
            exact ⟨((w64 (a0.at_ + 1)).tmod 2) == 0, hm, ⟨rfl, rfl, rfl, rfl, hL⟩⟩
          · refine OW.cons (OP.no' rfl rfl hb67 rfl ?_)
            refine OW.cons (OP.no' rfl rfl hb67 rfl ?_)
            refine OW.cons (OP.no' rfl rfl hb67 rfl ?_)
            refine OW.cons (OP.no' rfl rfl hb67 rfl ?_)
            refine OW.cons (OP.no' rfl rfl hb67 rfl ?_)
            refine OW.cons (OP.no' rfl rfl hb67 rfl ?_)
            refine OW.cons (OP.val (v := (.bool false)) rfl (x_pickF' rfl hb67 rfl) ?_)
            refine OW.nil ?_
            exact ⟨false, hm, ⟨rfl, rfl, rfl, rfl, hL⟩⟩
        · intro s_j2 F52 wd53 hJ hm
          unfold M.spec_l01Next_j2 at hm
          obtain ⟨f54, f55, f56, f57, hL⟩ := hJ
          refine CW.condM (t := s_j2) f57 hm (fun hb58 hm => ?_) (fun hb58 hm => ?_)
          · refine CW.draw Try_mixed ?_
            have hL := hL.call (Mod.drew _)
            refine DW.pre (fuel := 0) (fin := ((((((((((((((Array.replicate 13 false).setIfInBounds 0 true).setIfInBounds 1 true).setIfInBounds 2 true).setIfInBounds 3 true).setIfInBounds 4 true).setIfInBounds 5 true).setIfInBounds 6 true).setIfInBounds 7 true).setIfInBounds 8 true).setIfInBounds 9 true).setIfInBounds 10 true).setIfInBounds 11 true).setIfInBounds 12 true)) (C := fun w' => Mod None_ _ w') [0, 1, 2, 3, 4, 5, 6, 7, 8, 9, 10, 11, 12] (Mod.refl _ _) (by kernel_rfl) (by kernel_rfl) ?_
            refine QW.cons rfl (QP.val (v := (.pointer (some ⟨b1, 0, none⟩))) rfl (fun w' hm' => x_mv f54) ?_)
            refine QW.cons rfl (QP.val (v := (.pointer (some ⟨b1, 0, none⟩))) rfl (fun w' hm' => x_nilCheck rfl) ?_)
            refine QW.cons rfl (QP.val (v := (.pointer (some ⟨b1, 0, none⟩))) rfl (fun w' hm' => x_fieldAddr (fsz := 1) 0 0 0 Try.underlying94 rfl Try_T38 rfl rfl rfl) ?_)
            refine QW.cons rfl (QP.val (v := v2) rfl (fun w' hm' => x_load1 Try.underlying38 rfl rfl ((hL.call hm').cellB 0 rfl rfl)) ?_)
            refine QW.cons rfl (QP.val (v := (.pointer (some ⟨b1, 0, none⟩))) rfl (fun w' hm' => x_mv f54) ?_)
            refine QW.cons rfl (QP.val (v := (.pointer (some ⟨b1, 0, none⟩))) rfl (fun w' hm' => x_nilCheck rfl) ?_)
            refine QW.cons rfl (QP.val (v := (.pointer (some ⟨b1, 1, none⟩))) rfl (fun w' hm' => x_fieldAddr (fsz := 1) 0 1 1 Try.underlying94 rfl Try_T3 rfl rfl rfl) ?_)
            refine QW.cons rfl (QP.val (v := (.int .i64 (w64 (a0.at_ + 1)))) rfl (fun w' hm' => x_load1 Try.underlying3 rfl rfl ((hL.call hm').cellB 0 rfl rfl)) ?_)
            refine QW.cons rfl (QP.val (v := (.int .i64 (w64 ((w64 (a0.at_ + 1)) - 1)))) rfl (fun w' hm' => x_sub rfl rfl) ?_)
            obtain ⟨x59, ha60, hm⟩ := bndE hm
            obtain ⟨hz61, ha65⟩ := idxE ha60
            obtain ⟨b62, q63, hix64⟩ := rdL_ix (hL.rdZ 1 rfl h3) hz61 ha65
            refine QW.cons rfl (QP.val (v := (.pointer (some ⟨b62, q63, none⟩))) rfl (fun w' hm' => x_ix Try.underlying38 Try_T5 rfl rfl hix64) ?_)
            refine QW.cons rfl (QP.val (v := (.int .u8 (x59.toNat : Int))) rfl (fun w' hm' => x_load1 Try.underlying5 rfl rfl (rdF_cells ((hL.call hm').rdZ 1 rfl h3) hix64 ha65 0 _ rfl)) ?_)
            refine QW.cons rfl (QP.val (v := (.int .i64 (IntKind.i64.wrap (x59.toNat : Int)))) rfl (fun w' hm' => x_conv Try.underlying5 Try.underlying2 rfl) ?_)
            refine QW.cons rfl (QP.val (v := (.int .i64 (IntKind.i64.wrap (x59.toNat : Int)))) rfl (fun w' hm' => x_assign) ?_)
            refine QW.nil ?_
            intro wd66 hmod
            have hL := hL.call hmod
            refine DW.done (by kernel_rfl) ?_
            exact ⟨(w64 (a0.at_ + 1), IntKind.i64.wrap (x59.toNat : Int)), hm, ⟨f55, rfl, hL⟩⟩
          · refine CW.skip ?_
            exact ⟨(w64 (a0.at_ + 1), w64 ((w64 (((w64 ((w64 (a0.seed * 48271)) + 23)).tmod 2147483647).tdiv 17)) + (IntKind.i64.wrap (x42.toNat : Int)))), hm, ⟨f55, f56, hL⟩⟩
      · refine CW.skip ?_
        exact ⟨(a0.at_, w64 (((w64 ((w64 (a0.seed * 48271)) + 23)).tmod 2147483647).tdiv 17)), hm, ⟨rfl, rfl, hL⟩⟩
    · intro s_j1 F35 wd36 hJ hm
      unfold M.spec_l01Next_j1 at hm
      obtain ⟨f37, f38, hL⟩ := hJ
      refine CW.seq ?_
      refine CW.regionL ?_
      refine OW.cons (OP.val (v := (.int .i64 s_j1.2)) rfl (x_mv f38) ?_)
      refine OW.cons (OP.val (v := (.int .i64 a1)) rfl (x_mv f37) ?_)
      obtain ⟨hc39, hm⟩ := chkE hm
      refine OW.cons (OP.val (v := (.int .i64 (s_j1.2.tmod a1))) rfl (x_rem rfl rfl hc39) ?_)
      refine OW.cons (OP.val (v := (.int .i64 (s_j1.2.tmod a1))) rfl (x_assign) ?_)
      refine OW.nil ?_
      refine CW.ret ?_
      obtain rfl := Option.some.inj hm
      exact RR1 rfl rfl ⟨rfl, hL.mutOut 1 rfl [0] (by decide) (by decide) rfl⟩

theorem M.spec_l26DrawBoats_ok (w0 : World) {b1 : Nat} {v2 : Value} (a0 : Src) (h3 : rdL (fun k => k < w0.heap.size ∧ ¬ (Ent.blk b1 94 #[v2, .int .i64 a0.at_, .int .i64 a0.seed]).S k) w0 v2 a0.code) (he4 : (Ent.blk b1 94 #[v2, .int .i64 a0.at_, .int .i64 a0.seed]).H w0) {r : (Int) × (Int × Int)} (hm : M.spec_l26DrawBoats a0 = some r) :
    Calls Try.prog 91 #[(.pointer (some ⟨b1, 0, none⟩))] w0 fun e w' => e = .returned (.int .i64 r.1) ∧ Mut w0 w' (Ent.blk b1 94 #[v2, .int .i64 a0.at_, .int .i64 a0.seed]).S [Ent.blk b1 94 #[v2, .int .i64 r.2.1, .int .i64 r.2.2]] := by
  unfold M.spec_l26DrawBoats at hm
  refine calls_CW (args := [(.pointer (some ⟨b1, 0, none⟩))]) Try.func91 rfl rfl rfl ?_
  have hL := Hp.startIO he4
  refine CW.seq ?_
  refine CW.regionL ?_
  refine OW.cons (OP.val (v := (.int .i64 0)) rfl (x_assign) ?_)
  refine OW.nil ?_
  refine CW.seq ?_
  refine CW.seq ?_
  refine CW.regionL ?_
  refine OW.cons (OP.val (v := (.pointer (some ⟨b1, 0, none⟩))) rfl (x_move) ?_)
  obtain ⟨x5, hx6, hm⟩ := bndE hm
  refine OW.cons (OP.call rfl (x_call (vs := [(.pointer (some ⟨b1, 0, none⟩)), (.int .i64 24)]) Try_C68 ⟨rfl, rfl, trivial⟩) (M.spec_l01Next_ok _ (Src.mk a0.code a0.at_ a0.seed) (hL.exZ 1 0 (by decide) rfl rfl h3) (hL.get 0 rfl) 24 hx6) ?_)
  rintro e7 wd8 ⟨rfl, hF9⟩
  refine ⟨_, rfl, ?_⟩
  have hL := hL.mut 0 rfl hF9
  simp only [lA, lB, lC, lD] at hL
  refine OW.cons (OP.val (v := (.bool (x5.1 == 0))) rfl (x_eql rfl rfl) ?_)
  refine OW.nil ?_
  refine CW.condM (t := x5.1 == 0) rfl hm (fun hb10 hm => ?_) (fun hb10 hm => ?_)
  · refine CW.seq ?_
    refine CW.regionL ?_
    refine OW.cons (OP.val (v := (.pointer (some ⟨b1, 0, none⟩))) rfl (x_move) ?_)
    obtain ⟨x11, hx12, hm⟩ := bndE hm
    refine OW.cons (OP.call rfl (x_call (vs := [(.pointer (some ⟨b1, 0, none⟩)), (.int .i64 2)]) Try_C68 ⟨rfl, rfl, trivial⟩) (M.spec_l01Next_ok _ (Src.mk a0.code x5.2.1 x5.2.2) (hL.exZ 1 0 (by decide) rfl rfl h3) (hL.get 0 rfl) 2 hx12) ?_)
    rintro e13 wd14 ⟨rfl, hF15⟩
    refine ⟨_, rfl, ?_⟩
    have hL := hL.mut 0 rfl hF15
    simp only [lA, lB, lC, lD] at hL
    refine OW.cons (OP.val (v := (.int .i64 (w64 (16 * x11.1)))) rfl (x_mul rfl rfl) ?_)
    refine OW.cons (OP.val (v := (.int .i64 (w64 (16 * x11.1)))) rfl (x_assign) ?_)
    refine OW.nil ?_
    refine CW.ret ?_
    obtain rfl := Option.some.inj hm
    exact RR1 rfl rfl ⟨rfl, hL.mutOut 1 rfl [0] (by decide) (by decide) rfl⟩
  · refine CW.skip ?_
    refine CW.seq ?_
    refine CW.regionL ?_
    refine OW.cons (OP.val (v := (.pointer (some ⟨b1, 0, none⟩))) rfl (x_move) ?_)
    obtain ⟨x16, hx17, hm⟩ := bndE hm
    refine OW.cons (OP.call rfl (x_call (vs := [(.pointer (some ⟨b1, 0, none⟩)), (.int .i64 6)]) Try_C68 ⟨rfl, rfl, trivial⟩) (M.spec_l01Next_ok _ (Src.mk a0.code x5.2.1 x5.2.2) (hL.exZ 1 0 (by decide) rfl rfl h3) (hL.get 0 rfl) 6 hx17) ?_)
    rintro e18 wd19 ⟨rfl, hF20⟩
    refine ⟨_, rfl, ?_⟩
    have hL := hL.mut 0 rfl hF20
    simp only [lA, lB, lC, lD] at hL
    refine OW.cons (OP.val (v := (.int .i64 (w64 (1 + x16.1)))) rfl (x_add rfl rfl) ?_)
    refine OW.cons (OP.val (v := (.int .i64 (w64 (1 + x16.1)))) rfl (x_assign) ?_)
    refine OW.nil ?_
    refine CW.ret ?_
    obtain rfl := Option.some.inj hm
    exact RR1 rfl rfl ⟨rfl, hL.mutOut 1 rfl [0] (by decide) (by decide) rfl⟩

theorem M.spec_l26DrawRace_ok (w0 : World) {b1 : Nat} {v2 : Value} (a0 : Src) (h3 : rdL (fun k => k < w0.heap.size ∧ ¬ (Ent.blk b1 94 #[v2, .int .i64 a0.at_, .int .i64 a0.seed]).S k) w0 v2 a0.code) (he4 : (Ent.blk b1 94 #[v2, .int .i64 a0.at_, .int .i64 a0.seed]).H w0) (a1 : Int) {r : (Race) × (Int × Int)} (hm : M.spec_l26DrawRace a0 a1 = some r) :
    Calls Try.prog 92 #[(.pointer (some ⟨b1, 0, none⟩)), (.int .i64 a1)] w0 fun e w' => ∃ (rv0 : Value) (rS0 : Nat → Prop), e = .returned (.agg #[rv0]) ∧ Mut w0 w' (Ent.blk b1 94 #[v2, .int .i64 a0.at_, .int .i64 a0.seed]).S [Ent.blk b1 94 #[v2, .int .i64 r.2.1, .int .i64 r.2.2], Ent.own 50 rS0 rv0 r.1.Finishes] := by
  unfold M.spec_l26DrawRace at hm
  refine calls_CW (args := [(.pointer (some ⟨b1, 0, none⟩)), (.int .i64 a1)]) Try.func92 rfl rfl rfl ?_
  have hL := Hp.startIO he4
  refine CW.seq ?_
  refine CW.regionL ?_
  refine OW.cons (S_alloc (cs := #[(.slice none 0 0)]) hL Try_T46 rfl rfl ?_)
  intro wd5 b6 hL
  refine OW.nil ?_
  refine CW.seq ?_
  refine CW.regionL ?_
  refine OW.cons (S_lit ([] : List Finish) hL Try.underlying44 Try_T50 rfl (by decide) (by first | (simp [Instr.fill, madeCells, Value.cells, ev, upd, Flat.enc, Flat.sz]; done) | rfl | kernel_rfl) rfl rfl ?_)
  intro wd7 v8 S9 hL
  refine OW.cons (OP.val (v := v8) rfl (x_assign) ?_)
  refine OW.nil ?_
  refine CW.seq ?_
  refine CW.seq ?_
  refine CW.regionL ?_
  refine OW.cons (OP.val (v := (.int .i64 0)) rfl (x_assign) ?_)
  refine OW.nil ?_
  obtain ⟨o112, ho113, hm⟩ := bndE hm
  refine CW.loopB (fun (s_l1 : Int × Int × (List Finish) × Int) (F : Fr) (w : World) => ∃ (v108 : Value) (S109 : Nat → Prop), F 0 = (.pointer (some ⟨b1, 0, none⟩)) ∧ F 1 = (.int .i64 a1) ∧ F 4 = (.pointer (some ⟨b6, 0, none⟩)) ∧ F 5 = v108 ∧ F 6 = (.int .i64 s_l1.2.2.2) ∧ Hp w0 [Ent.own 50 S109 v108 s_l1.2.2.1, Ent.blk b6 46 #[(.slice none 0 0)], Ent.blk b1 94 #[v2, (.int .i64 s_l1.1), (.int .i64 s_l1.2.1)], Ent.frz w0 (Ent.blk b1 94 #[v2, .int .i64 a0.at_, .int .i64 a0.seed]).S] w) (fun o => outc o (fun x => some x) (fun s => M.spec_l26DrawRace_a1 s) = some r) ho113 hm ⟨v8, S9, rfl, rfl, rfl, rfl, rfl, hL⟩ ?_ ?_
  · intro s_l1 F114 wd115 hJ hm
    have hm := outcE hm
    have hm : M.spec_l26DrawRace_a1 s_l1 = some r := hm
    unfold M.spec_l26DrawRace_a1 at hm
    obtain ⟨v108, S109, f116, f117, f118, f119, f120, hL⟩ := hJ
    refine CW.seq ?_
    refine CW.regionL ?_
    refine OW.cons (OP.val (v := v108) rfl (x_mv f119) ?_)
    refine OW.cons (OP.val (v := (.agg #[v108])) rfl (x_build Try_B46 (ps := [(0, v108)]) ⟨⟨rfl, rfl⟩, trivial⟩ (by simp [Instr.fill, cells_int, cells_bool, cells_string, cells_agg, cells_slice, cells_pointer, (rdL_cells (hL.rdO 0 rfl))])) ?_)
    refine OW.cons (S_storeN (l := [v108]) (cs' := #[v108]) hL 1 rfl Try_T46 f118 rfl (List.forall_mem_cons.2 ⟨rdL_one (hL.rdO 0 rfl), (fun _ h => by cases h)⟩) rfl (Nat.le_of_ble_eq_true rfl) rfl ?_)
    intro wd121 hL
    refine OW.nil ?_
    refine CW.ret ?_
    obtain rfl := Option.some.inj hm
    exact RRc rfl f118 (run_loadBlk Try.underlying46 Try_T46 (hL.get 1 rfl) rfl) ⟨v108, S109, rfl, hL.mutOut 3 rfl [2, 0] (by decide) (by decide) rfl⟩
  · intro s_l1 F122 wd123 t110 hJ hm hr111
    unfold M.spec_l26DrawRace_l1 at hm
    obtain ⟨v108, S109, f124, f125, f126, f127, f128, hL⟩ := hJ
    refine CW.seq ?_
    refine CW.seq ?_
    refine CW.regionL ?_
    refine OW.cons (OP.val (v := (.int .i64 s_l1.2.2.2)) rfl (x_mv f128) ?_)
    refine OW.cons (OP.val (v := (.int .i64 a1)) rfl (x_mv f125) ?_)
    refine OW.cons (OP.val (v := (.bool (decide (s_l1.2.2.2 < a1)))) rfl (x_lss rfl rfl) ?_)
    refine OW.nil ?_
    refine CW.condM (t := decide (s_l1.2.2.2 < a1)) rfl hm (fun hb129 hm => ?_) (fun hb129 hm => ?_)
    · refine CW.skip ?_
      refine CW.seq ?_
      refine CW.block ?_
      refine CW.seq ?_
      refine CW.regionL ?_
      refine OW.cons (OP.val (v := (.int .i64 s_l1.2.2.2)) rfl (x_mv f128) ?_)
      refine OW.cons (OP.val (v := (.pointer (some ⟨b1, 0, none⟩))) rfl (x_mv f124) ?_)
      refine OW.cons (OP.val (v := (.int .i64 a1)) rfl (x_mv f125) ?_)
      refine OW.cons (OP.val (v := (.int .i64 (w64 (2 * a1)))) rfl (x_mul rfl rfl) ?_)
      obtain ⟨x130, hx131, hm⟩ := bndE hm
      refine OW.cons (OP.call rfl (x_call (vs := [(.pointer (some ⟨b1, 0, none⟩)), (.int .i64 (w64 (2 * a1)))]) Try_C68 ⟨rfl, rfl, trivial⟩) (M.spec_l01Next_ok _ (Src.mk a0.code s_l1.1 s_l1.2.1) (hL.exZ 3 2 (by decide) rfl rfl h3) (hL.get 2 rfl) (w64 (2 * a1)) hx131) ?_)
      rintro e132 wd133 ⟨rfl, hF134⟩
      refine ⟨_, rfl, ?_⟩
      have hL := hL.mut 2 rfl hF134
      simp only [lA, lB, lC, lD] at hL
      refine OW.cons (OP.val (v := (.int .i64 (w64 (1 + x130.1)))) rfl (x_add rfl rfl) ?_)
      refine OW.cons (OP.val (v := (.agg #[(.int .i64 s_l1.2.2.2), (.int .i64 0), (.int .i64 (w64 (1 + x130.1)))])) rfl (x_build Try_B50 (ps := [(0, (.int .i64 s_l1.2.2.2)), (2, (.int .i64 (w64 (1 + x130.1))))]) ⟨⟨rfl, rfl⟩, ⟨rfl, rfl⟩, trivial⟩ (by simp [Instr.fill, cells_int, cells_bool, cells_string, cells_agg, cells_slice, cells_pointer])) ?_)
      refine OW.cons (S_alloc (cs := #[(.int .i64 0), (.int .i64 0), (.int .i64 0)]) hL Try_T50 rfl rfl ?_)
      intro wd135 b136 hL
      refine OW.cons (S_storeN (l := [(.int .i64 s_l1.2.2.2), (.int .i64 0), (.int .i64 (w64 (1 + x130.1)))]) (cs' := #[(.int .i64 s_l1.2.2.2), (.int .i64 0), (.int .i64 (w64 (1 + x130.1)))]) hL 0 rfl Try_T50 rfl rfl (List.forall_mem_cons.2 ⟨rfl, (List.forall_mem_cons.2 ⟨rfl, (List.forall_mem_cons.2 ⟨rfl, (fun _ h => by cases h)⟩)⟩)⟩) rfl (Nat.le_of_ble_eq_true rfl) rfl ?_)
      intro wd137 hL
      refine OW.nil ?_
      refine CW.seqJ (fun (s_j1 : Int × Int × Int × Int) (F : Fr) (w : World) => F 0 = (.pointer (some ⟨b1, 0, none⟩)) ∧ F 1 = (.int .i64 a1) ∧ F 4 = (.pointer (some ⟨b6, 0, none⟩)) ∧ F 5 = v108 ∧ F 6 = (.int .i64 s_l1.2.2.2) ∧ F 7 = (.pointer (some ⟨b136, 0, none⟩)) ∧ Hp w0 [Ent.blk b136 50 #[(.int .i64 s_l1.2.2.2), (.int .i64 s_j1.2.2.1), (.int .i64 s_j1.2.2.2)], Ent.own 50 S109 v108 s_l1.2.2.1, Ent.blk b6 46 #[(.slice none 0 0)], Ent.blk b1 94 #[v2, (.int .i64 s_j1.1), (.int .i64 s_j1.2.1)], Ent.frz w0 (Ent.blk b1 94 #[v2, .int .i64 a0.at_, .int .i64 a0.seed]).S] w) (fun s_j1 => M.spec_l26DrawRace_j1 s_l1 s_j1 = some t110) ?_ ?_
      · refine CW.seq ?_
        refine CW.regionL ?_
        refine OW.cons (OP.val (v := (.pointer (some ⟨b1, 0, none⟩))) rfl (x_mv f124) ?_)
        obtain ⟨x165, hx166, hm⟩ := bndE hm
        refine OW.cons (OP.call rfl (x_call (vs := [(.pointer (some ⟨b1, 0, none⟩)), (.int .i64 4)]) Try_C68 ⟨rfl, rfl, trivial⟩) (M.spec_l01Next_ok _ (Src.mk a0.code x130.2.1 x130.2.2) (hL.exZ 4 3 (by decide) rfl rfl h3) (hL.get 3 rfl) 4 hx166) ?_)
        rintro e167 wd168 ⟨rfl, hF169⟩
        refine ⟨_, rfl, ?_⟩
        have hL := hL.mut 3 rfl hF169
        simp only [lA, lB, lC, lD] at hL
        refine OW.cons (OP.val (v := (.bool (x165.1 == 0))) rfl (x_eql rfl rfl) ?_)
        refine OW.nil ?_
        refine CW.condM (t := x165.1 == 0) rfl hm (fun hb170 hm => ?_) (fun hb170 hm => ?_)
        · refine CW.regionL ?_
          refine OW.cons (OP.val (v := (.int .i64 s_l1.2.2.2)) rfl (x_mv f128) ?_)
          refine OW.cons (OP.val (v := (.pointer (some ⟨b1, 0, none⟩))) rfl (x_mv f124) ?_)
          obtain ⟨x171, hx172, hm⟩ := bndE hm
          refine OW.cons (OP.call rfl (x_call (vs := [(.pointer (some ⟨b1, 0, none⟩)), (.int .i64 9)]) Try_C68 ⟨rfl, rfl, trivial⟩) (M.spec_l01Next_ok _ (Src.mk a0.code x165.2.1 x165.2.2) (hL.exZ 4 3 (by decide) rfl rfl h3) (hL.get 3 rfl) 9 hx172) ?_)
          rintro e173 wd174 ⟨rfl, hF175⟩
          refine ⟨_, rfl, ?_⟩
          have hL := hL.mut 3 rfl hF175
          simp only [lA, lB, lC, lD] at hL
          refine OW.cons (OP.val (v := (.int .i64 (w64 (1 + x171.1)))) rfl (x_add rfl rfl) ?_)
          refine OW.cons (OP.val (v := (.agg #[(.int .i64 s_l1.2.2.2), (.int .i64 (w64 (1 + x171.1))), (.int .i64 0)])) rfl (x_build Try_B50 (ps := [(0, (.int .i64 s_l1.2.2.2)), (1, (.int .i64 (w64 (1 + x171.1))))]) ⟨⟨rfl, rfl⟩, ⟨rfl, rfl⟩, trivial⟩ (by simp [Instr.fill, cells_int, cells_bool, cells_string, cells_agg, cells_slice, cells_pointer])) ?_)
          refine OW.cons (S_storeN (l := [(.int .i64 s_l1.2.2.2), (.int .i64 (w64 (1 + x171.1))), (.int .i64 0)]) (cs' := #[(.int .i64 s_l1.2.2.2), (.int .i64 (w64 (1 + x171.1))), (.int .i64 0)]) hL 0 rfl Try_T50 rfl rfl (List.forall_mem_cons.2 ⟨rfl, (List.forall_mem_cons.2 ⟨rfl, (List.forall_mem_cons.2 ⟨rfl, (fun _ h => by cases h)⟩)⟩)⟩) rfl (Nat.le_of_ble_eq_true rfl) rfl ?_)
          intro wd176 hL
          refine OW.nil ?_
          exact ⟨(x171.2.1, x171.2.2, w64 (1 + x171.1), 0), hm, ⟨f124, f125, f126, f127, f128, rfl, hL⟩⟩
        · refine CW.skip ?_
          exact ⟨(x165.2.1, x165.2.2, 0, w64 (1 + x130.1)), hm, ⟨f124, f125, f126, f127, f128, rfl, hL⟩⟩
      · intro s_j1 F150 wd151 hJ hm
        unfold M.spec_l26DrawRace_j1 at hm
        obtain ⟨f152, f153, f154, f155, f156, f157, hL⟩ := hJ
        refine CW.regionL ?_
        refine OW.cons (OP.val (v := v108) rfl (x_mv f155) ?_)
        refine OW.cons (OP.val (v := (.agg #[(.int .i64 s_l1.2.2.2), (.int .i64 s_j1.2.2.1), (.int .i64 s_j1.2.2.2)])) rfl (x_loadN (cs := [(.int .i64 s_l1.2.2.2), (.int .i64 s_j1.2.2.1), (.int .i64 s_j1.2.2.2)]) Try.underlying50 Try_T50 rfl f157 (hL.cellsB 0 rfl (o := 0) (l := [(.int .i64 s_l1.2.2.2), (.int .i64 s_j1.2.2.1), (.int .i64 s_j1.2.2.2)]) (by intro j u hj; exact (by simpa using hj)))) ?_)
        refine OW.cons (S_lit ([(Finish.mk s_l1.2.2.2 s_j1.2.2.1 s_j1.2.2.2)] : List Finish) hL Try.underlying44 Try_T50 rfl (by decide) (by first | (simp [Instr.fill, madeCells, Value.cells, ev, upd, Flat.enc, Flat.sz]; done) | rfl | kernel_rfl) rfl rfl ?_)
        intro wd158 v159 S160 hL
        obtain ⟨hc164, hm⟩ := chkE hm
        refine OW.cons (S_append (ys := ([(Finish.mk s_l1.2.2.2 s_j1.2.2.1 s_j1.2.2.2)] : List Finish)) hL 2 rfl Try.underlying44 Try_T50 rfl rfl rfl (hL.rdO 0 rfl) hc164 (by decide) rfl ?_)
        intro wd161 v162 S163 hL
        refine OW.cons (OP.val (v := v162) rfl (x_assign) ?_)
        refine OW.nil ?_
        refine CW.regionL ?_
        refine OW.cons (OP.val (v := (.int .i64 s_l1.2.2.2)) rfl (x_mv f156) ?_)
        refine OW.cons (OP.val (v := (.int .i64 (w64 (s_l1.2.2.2 + 1)))) rfl (x_add rfl rfl) ?_)
        refine OW.cons (OP.val (v := (.int .i64 (w64 (s_l1.2.2.2 + 1)))) rfl (x_assign) ?_)
        refine OW.nil ?_
        have hL := hL.sel [2, 3, 4, 5] (by decide) rfl
        obtain rfl := Option.some.inj hm
        exact ⟨_, rfl, ⟨v162, S163, f152, f153, f154, rfl, rfl, hL⟩⟩
    · refine CW.exit ?_
      refine XJ.hit ?_
      obtain rfl := Option.some.inj hm
      exact ⟨_, rfl, ⟨v108, S109, f124, f125, f126, f127, f128, hL⟩⟩

theorem M.spec_l26DrawSeries_ok (w0 : World) {b1 : Nat} {v2 : Value} (a0 : Src) (h3 : rdL (fun k => k < w0.heap.size ∧ ¬ (Ent.blk b1 94 #[v2, .int .i64 a0.at_, .int .i64 a0.seed]).S k) w0 v2 a0.code) (he4 : (Ent.blk b1 94 #[v2, .int .i64 a0.at_, .int .i64 a0.seed]).H w0) {r : (Series) × (Int × Int)} (hm : M.spec_l26DrawSeries a0 = some r) :
    Calls Try.prog 67 #[(.pointer (some ⟨b1, 0, none⟩))] w0 fun e w' => ∃ (rv0 : Value) (rS0 : Nat → Prop), e = .returned (.agg #[(.int .i64 r.1.Boats), (.int .i64 r.1.Scheme), rv0]) ∧ Mut w0 w' (Ent.blk b1 94 #[v2, .int .i64 a0.at_, .int .i64 a0.seed]).S [Ent.blk b1 94 #[v2, .int .i64 r.2.1, .int .i64 r.2.2], Ent.own 46 rS0 rv0 r.1.Races] := by
  unfold M.spec_l26DrawSeries at hm
  refine calls_CW (args := [(.pointer (some ⟨b1, 0, none⟩))]) Try.func67 rfl rfl rfl ?_
  have hL := Hp.startIO he4
  refine CW.seq ?_
  refine CW.regionL ?_
  refine OW.cons (S_alloc (cs := #[(.int .i64 0), (.int .i64 0), (.slice none 0 0)]) hL Try_T31 rfl rfl ?_)
  intro wd5 b6 hL
  refine OW.nil ?_
  refine CW.seq ?_
  refine CW.regionL ?_
  refine OW.cons (OP.val (v := (.pointer (some ⟨b1, 0, none⟩))) rfl (x_move) ?_)
  obtain ⟨x7, hx8, hm⟩ := bndE hm
  refine OW.cons (OP.call rfl (x_call (vs := [(.pointer (some ⟨b1, 0, none⟩))]) Try_C91 ⟨rfl, trivial⟩) (M.spec_l26DrawBoats_ok _ (Src.mk a0.code a0.at_ a0.seed) (hL.exZ 2 1 (by decide) rfl rfl h3) (hL.get 1 rfl) hx8) ?_)
  rintro e9 wd10 ⟨rfl, hF11⟩
  refine ⟨_, rfl, ?_⟩
  have hL := hL.mut 1 rfl hF11
  simp only [lA, lB, lC, lD] at hL
  refine OW.cons (OP.val (v := (.int .i64 x7.1)) rfl (x_assign) ?_)
  refine OW.nil ?_
  refine CW.seq ?_
  refine CW.regionL ?_
  refine OW.cons (OP.val (v := (.int .i64 x7.1)) rfl (x_move) ?_)
  refine OW.cons (OP.val (v := (.pointer (some ⟨b1, 0, none⟩))) rfl (x_move) ?_)
  obtain ⟨x12, hx13, hm⟩ := bndE hm
  refine OW.cons (OP.call rfl (x_call (vs := [(.pointer (some ⟨b1, 0, none⟩)), (.int .i64 2)]) Try_C68 ⟨rfl, rfl, trivial⟩) (M.spec_l01Next_ok _ (Src.mk a0.code x7.2.1 x7.2.2) (hL.exZ 2 1 (by decide) rfl rfl h3) (hL.get 1 rfl) 2 hx13) ?_)
  rintro e14 wd15 ⟨rfl, hF16⟩
  refine ⟨_, rfl, ?_⟩
  have hL := hL.mut 1 rfl hF16
  simp only [lA, lB, lC, lD] at hL
  refine OW.cons (S_lit0 (α := Finish) Race hL Try.underlying29 Try_T46 rfl ?_)
  intro wd17 v18 S19 hL
  refine OW.cons (OP.val (v := (.agg #[(.int .i64 x7.1), (.int .i64 x12.1), v18])) rfl (x_build Try_B31 (ps := [(0, (.int .i64 x7.1)), (1, (.int .i64 x12.1)), (2, v18)]) ⟨⟨rfl, rfl⟩, ⟨rfl, rfl⟩, ⟨rfl, rfl⟩, trivial⟩ (by simp [Instr.fill, cells_int, cells_bool, cells_string, cells_agg, cells_slice, cells_pointer, (rdL_cells (hL.rdO 0 rfl))])) ?_)
  refine OW.cons (S_alloc (cs := #[(.int .i64 0), (.int .i64 0), (.slice none 0 0)]) hL Try_T31 rfl rfl ?_)
  intro wd20 b21 hL
  refine OW.cons (S_storeN (l := [(.int .i64 x7.1), (.int .i64 x12.1), v18]) (cs' := #[(.int .i64 x7.1), (.int .i64 x12.1), v18]) hL 0 rfl Try_T31 rfl rfl (List.forall_mem_cons.2 ⟨rfl, (List.forall_mem_cons.2 ⟨rfl, (List.forall_mem_cons.2 ⟨rdL_one (hL.rdO 1 rfl), (fun _ h => by cases h)⟩)⟩)⟩) rfl (Nat.le_of_ble_eq_true rfl) rfl ?_)
  intro wd22 hL
  refine OW.nil ?_
  refine CW.seq ?_
  refine CW.regionL ?_
  refine OW.cons (S_lit0 (α := Finish) Race hL Try.underlying29 Try_T46 rfl ?_)
  intro wd23 v24 S25 hL
  refine OW.cons (OP.val (v := v24) rfl (x_assign) ?_)
  refine OW.nil ?_
  refine CW.seq ?_
  refine CW.seq ?_
  refine CW.regionL ?_
  refine OW.cons (OP.val (v := (.pointer (some ⟨b1, 0, none⟩))) rfl (x_move) ?_)
  obtain ⟨x26, hx27, hm⟩ := bndE hm
  refine OW.cons (OP.call rfl (x_call (vs := [(.pointer (some ⟨b1, 0, none⟩)), (.int .i64 7)]) Try_C68 ⟨rfl, rfl, trivial⟩) (M.spec_l01Next_ok _ (Src.mk a0.code x12.2.1 x12.2.2) (hL.exZ 5 4 (by decide) rfl rfl h3) (hL.get 4 rfl) 7 hx27) ?_)
  rintro e28 wd29 ⟨rfl, hF30⟩
  refine ⟨_, rfl, ?_⟩
  have hL := hL.mut 4 rfl hF30
  simp only [lA, lB, lC, lD] at hL
  refine OW.cons (OP.val (v := (.int .i64 x26.1)) rfl (x_assign) ?_)
  refine OW.nil ?_
  obtain ⟨o67, ho68, hm⟩ := bndE hm
  refine CW.loopB (fun (s_l1 : Int × Int × (List Race) × Int) (F : Fr) (w : World) => ∃ (v63 : Value) (S64 : Nat → Prop), F 0 = (.pointer (some ⟨b1, 0, none⟩)) ∧ F 2 = (.pointer (some ⟨b6, 0, none⟩)) ∧ F 3 = (.int .i64 x7.1) ∧ F 4 = (.pointer (some ⟨b21, 0, none⟩)) ∧ F 5 = v63 ∧ F 6 = (.int .i64 s_l1.2.2.2) ∧ Hp w0 [Ent.own 46 S64 v63 s_l1.2.2.1, Ent.blk b21 31 #[(.int .i64 x7.1), (.int .i64 x12.1), v18], Ent.own 46 S19 v18 ([] : List Race), Ent.blk b6 31 #[(.int .i64 0), (.int .i64 0), (.slice none 0 0)], Ent.blk b1 94 #[v2, (.int .i64 s_l1.1), (.int .i64 s_l1.2.1)], Ent.frz w0 (Ent.blk b1 94 #[v2, .int .i64 a0.at_, .int .i64 a0.seed]).S] w) (fun o => outc o (fun x => some x) (fun s => M.spec_l26DrawSeries_a1 a0 x7 x12 s) = some r) ho68 hm ⟨v24, S25, rfl, rfl, rfl, rfl, rfl, rfl, hL⟩ ?_ ?_
  · intro s_l1 F69 wd70 hJ hm
    have hm := outcE hm
    have hm : M.spec_l26DrawSeries_a1 a0 x7 x12 s_l1 = some r := hm
    unfold M.spec_l26DrawSeries_a1 at hm
    obtain ⟨v63, S64, f71, f72, f73, f74, f75, f76, hL⟩ := hJ
    refine CW.seqJ (fun (s_j1 : Int × Int × Int × (List Race)) (F : Fr) (w : World) => ∃ (v275 : Value) (S276 : Nat → Prop), F 2 = (.pointer (some ⟨b6, 0, none⟩)) ∧ F 4 = (.pointer (some ⟨b21, 0, none⟩)) ∧ F 5 = v275 ∧ Hp w0 [Ent.own 46 S276 v275 s_j1.2.2.2, Ent.blk b21 31 #[(.int .i64 x7.1), (.int .i64 s_j1.2.2.1), v18], Ent.own 46 S19 v18 ([] : List Race), Ent.blk b6 31 #[(.int .i64 0), (.int .i64 0), (.slice none 0 0)], Ent.blk b1 94 #[v2, (.int .i64 s_j1.1), (.int .i64 s_j1.2.1)], Ent.frz w0 (Ent.blk b1 94 #[v2, .int .i64 a0.at_, .int .i64 a0.seed]).S] w) (fun s_j1 => M.spec_l26DrawSeries_j1 x7 s_j1 = some r) ?_ ?_
    · refine CW.seq ?_
      refine CW.regionL ?_
      refine OW.cons (OP.val (v := (.pointer (some ⟨b1, 0, none⟩))) rfl (x_mv f71) ?_)
      obtain ⟨x283, hx284, hm⟩ := bndE hm
      refine OW.cons (OP.call rfl (x_call (vs := [(.pointer (some ⟨b1, 0, none⟩)), (.int .i64 30)]) Try_C68 ⟨rfl, rfl, trivial⟩) (M.spec_l01Next_ok _ (Src.mk a0.code s_l1.1 s_l1.2.1) (hL.exZ 5 4 (by decide) rfl rfl h3) (hL.get 4 rfl) 30 hx284) ?_)
      rintro e285 wd286 ⟨rfl, hF287⟩
      refine ⟨_, rfl, ?_⟩
      have hL := hL.mut 4 rfl hF287
      simp only [lA, lB, lC, lD] at hL
      refine OW.nil ?_
      refine CW.blockJ (fun (s_j2 : Int × Int × Int × (List Race)) (F : Fr) (w : World) => ∃ (v381 : Value) (S382 : Nat → Prop), F 2 = (.pointer (some ⟨b6, 0, none⟩)) ∧ F 4 = (.pointer (some ⟨b21, 0, none⟩)) ∧ F 5 = v381 ∧ Hp w0 [Ent.own 46 S382 v381 s_j2.2.2.2, Ent.blk b21 31 #[(.int .i64 x7.1), (.int .i64 s_j2.2.2.1), v18], Ent.own 46 S19 v18 ([] : List Race), Ent.blk b6 31 #[(.int .i64 0), (.int .i64 0), (.slice none 0 0)], Ent.blk b1 94 #[v2, (.int .i64 s_j2.1), (.int .i64 s_j2.2.1)], Ent.frz w0 (Ent.blk b1 94 #[v2, .int .i64 a0.at_, .int .i64 a0.seed]).S] w) (fun s_j2 => M.spec_l26DrawSeries_j2 x7 s_j2 = some r) ?_ ?_
      · refine CW.seq ?_
        refine CW.regionL ?_
        refine OW.cons (OP.val (v := (.bool (x283.1 == 0))) rfl (x_eql rfl rfl) ?_)
        refine OW.cons (OP.val (v := (.bool (x283.1 == 0))) rfl (x_assign) ?_)
        refine OW.nil ?_
        refine CW.condM (t := x283.1 == 0) rfl hm (fun hb388 hm => ?_) (fun hb388 hm => ?_)
        · refine CW.regionL ?_
          refine OW.cons (OP.val (v := (.pointer (some ⟨b21, 1, none⟩))) rfl (x_fieldAddr (fsz := 1) 0 1 1 Try.underlying31 rfl Try_T2 rfl f74 rfl) ?_)
          refine OW.cons (S_store (cs' := #[(.int .i64 x7.1), (.int .i64 2), v18]) hL 1 rfl Try_T2 rfl rfl rfl rfl rfl ?_)
          intro wd389 hL
          refine OW.nil ?_
          exact ⟨(x283.2.1, x283.2.2, 2, s_l1.2.2.1), hm, ⟨v63, S64, f72, f74, f75, hL⟩⟩
        · refine CW.seq ?_
          refine CW.regionL ?_
          refine OW.cons (OP.val (v := (.bool (x283.1 == 1))) rfl (x_eql rfl rfl) ?_)
          refine OW.cons (OP.val (v := (.bool (x283.1 == 1))) rfl (x_assign) ?_)
          refine OW.nil ?_
          refine CW.condM (t := x283.1 == 1) rfl hm (fun hb390 hm => ?_) (fun hb390 hm => ?_)
          · refine CW.regionL ?_
            refine OW.cons (OP.val (v := v63) rfl (x_mv f75) ?_)
            refine OW.cons (OP.val (v := (.pointer (some ⟨b1, 0, none⟩))) rfl (x_mv f71) ?_)
            refine OW.cons (OP.val (v := (.int .i64 x7.1)) rfl (x_mv f73) ?_)
            refine OW.cons (OP.val (v := (.int .i64 (w64 (x7.1 + 1)))) rfl (x_add rfl rfl) ?_)
            obtain ⟨x391, hx392, hm⟩ := bndE hm
            refine OW.cons (OP.call rfl (x_call (vs := [(.pointer (some ⟨b1, 0, none⟩)), (.int .i64 (w64 (x7.1 + 1)))]) Try_C92 ⟨rfl, rfl, trivial⟩) (M.spec_l26DrawRace_ok _ (Src.mk a0.code x283.2.1 x283.2.2) (hL.exZ 5 4 (by decide) rfl rfl h3) (hL.get 4 rfl) (w64 (x7.1 + 1)) hx392) ?_)
            rintro e395 wd396 ⟨v394, S393, rfl, hF397⟩
            refine ⟨_, rfl, ?_⟩
            have hL := hL.mut 4 rfl hF397
            simp only [lA, lB, lC, lD] at hL
            refine OW.cons (S_lit1 (Race.mk x391.1.Finishes) rfl hL Try.underlying29 Try_T46 rfl rfl ?_)
            intro wd398 v399 S400 hL
            obtain ⟨hc404, hm⟩ := chkE hm
            have hL := hL.sel [1, 0, 2, 3, 4, 5, 6] (by decide) rfl
            refine OW.cons (S_appendN Finish hL Try.underlying29 Try_T46 rfl rfl rfl hc404 (by decide) rfl ?_)
            intro wd401 v402 S403 hL
            refine OW.cons (OP.val (v := v402) rfl (x_assign) ?_)
            refine OW.nil ?_
            exact ⟨(x391.2.1, x391.2.2, x12.1, s_l1.2.2.1 ++ ([(Race.mk x391.1.Finishes)] : List Race)), hm, ⟨v402, S403, f72, f74, rfl, hL⟩⟩
          · refine CW.seq ?_
            refine CW.regionL ?_
            refine OW.cons (OP.val (v := (.bool (x283.1 == 2))) rfl (x_eql rfl rfl) ?_)
            refine OW.cons (OP.val (v := (.bool (x283.1 == 2))) rfl (x_assign) ?_)
            refine OW.nil ?_
            refine CW.condM (t := x283.1 == 2) rfl hm (fun hb405 hm => ?_) (fun hb405 hm => ?_)
            · refine CW.seq ?_
              obtain ⟨o442, ho443, hm⟩ := bndE hm
              refine CW.loopB (fun (s_l2 : Int × Int × (List Race)) (F : Fr) (w : World) => ∃ (v438 : Value) (S439 : Nat → Prop), F 0 = (.pointer (some ⟨b1, 0, none⟩)) ∧ F 2 = (.pointer (some ⟨b6, 0, none⟩)) ∧ F 3 = (.int .i64 x7.1) ∧ F 4 = (.pointer (some ⟨b21, 0, none⟩)) ∧ F 5 = v438 ∧ Hp w0 [Ent.own 46 S439 v438 s_l2.2.2, Ent.blk b21 31 #[(.int .i64 x7.1), (.int .i64 x12.1), v18], Ent.own 46 S19 v18 ([] : List Race), Ent.blk b6 31 #[(.int .i64 0), (.int .i64 0), (.slice none 0 0)], Ent.blk b1 94 #[v2, (.int .i64 s_l2.1), (.int .i64 s_l2.2.1)], Ent.frz w0 (Ent.blk b1 94 #[v2, .int .i64 a0.at_, .int .i64 a0.seed]).S] w) (fun o => outc o (fun x => some x) (fun s => M.spec_l26DrawSeries_a2 a0 x7 x12 s) = some r) ho443 hm ⟨v63, S64, f71, f72, f73, f74, f75, hL⟩ ?_ ?_
              · intro s_l2 F444 wd445 hJ hm
                have hm := outcE hm
                have hm : M.spec_l26DrawSeries_a2 a0 x7 x12 s_l2 = some r := hm
                unfold M.spec_l26DrawSeries_a2 at hm
                obtain ⟨v438, S439, f446, f447, f448, f449, f450, hL⟩ := hJ
                refine CW.regionL ?_
                refine OW.cons (OP.val (v := v438) rfl (x_mv f450) ?_)
                refine OW.cons (OP.val (v := (.pointer (some ⟨b1, 0, none⟩))) rfl (x_mv f446) ?_)
                obtain ⟨x451, hx452, hm⟩ := bndE hm
                refine OW.cons (OP.call rfl (x_call (vs := [(.pointer (some ⟨b1, 0, none⟩)), (.int .i64 2)]) Try_C68 ⟨rfl, rfl, trivial⟩) (M.spec_l01Next_ok _ (Src.mk a0.code s_l2.1 s_l2.2.1) (hL.exZ 5 4 (by decide) rfl rfl h3) (hL.get 4 rfl) 2 hx452) ?_)
                rintro e453 wd454 ⟨rfl, hF455⟩
                refine ⟨_, rfl, ?_⟩
                have hL := hL.mut 4 rfl hF455
                simp only [lA, lB, lC, lD] at hL
                refine OW.cons (OP.val (v := (.int .i64 (w64 (12 + x451.1)))) rfl (x_add rfl rfl) ?_)
                obtain ⟨hc458, hm⟩ := chkE hm
                obtain ⟨v456, hs457⟩ := subV_of (hL.rdO 0 rfl) hc458
                refine OW.cons (OP.val (v := v456) rfl (x_slice0 Try.underlying29 Try_T46 rfl rfl hs457) ?_)
                refine OW.cons (OP.val (v := v456) rfl (x_assign) ?_)
                refine OW.nil ?_
                have hL := hL.prefix 0 rfl hs457
                exact ⟨(x451.2.1, x451.2.2, x12.1, subL s_l2.2.2 0 (w64 (12 + x451.1))), hm, ⟨v456, S439, f447, f449, rfl, hL⟩⟩
              · intro s_l2 F459 wd460 t440 hJ hm hr441
                unfold M.spec_l26DrawSeries_l2 at hm
                obtain ⟨v438, S439, f461, f462, f463, f464, f465, hL⟩ := hJ
                refine CW.seq ?_
                refine CW.seq ?_
                refine CW.regionL ?_
                refine OW.cons (OP.val (v := v438) rfl (x_mv f465) ?_)
                refine OW.cons (OP.val (v := (.int .i64 (s_l2.2.2.length : Int))) rfl (x_lenR Try.underlying29 rfl (hL.rdO 0 rfl)) ?_)
                refine OW.cons (OP.val (v := (.bool (decide ((s_l2.2.2.length : Int) < 13)))) rfl (x_lss rfl rfl) ?_)
                refine OW.nil ?_
                refine CW.condM (t := decide ((s_l2.2.2.length : Int) < 13)) rfl hm (fun hb466 hm => ?_) (fun hb466 hm => ?_)
                · refine CW.skip ?_
                  refine CW.block ?_
                  refine CW.regionL ?_
                  refine OW.cons (OP.val (v := v438) rfl (x_mv f465) ?_)
                  refine OW.cons (OP.val (v := (.pointer (some ⟨b1, 0, none⟩))) rfl (x_mv f461) ?_)
                  refine OW.cons (OP.val (v := (.int .i64 x7.1)) rfl (x_mv f463) ?_)
                  obtain ⟨x467, hx468, hm⟩ := bndE hm
                  refine OW.cons (OP.call rfl (x_call (vs := [(.pointer (some ⟨b1, 0, none⟩)), (.int .i64 x7.1)]) Try_C92 ⟨rfl, rfl, trivial⟩) (M.spec_l26DrawRace_ok _ (Src.mk a0.code s_l2.1 s_l2.2.1) (hL.exZ 5 4 (by decide) rfl rfl h3) (hL.get 4 rfl) x7.1 hx468) ?_)
                  rintro e471 wd472 ⟨v470, S469, rfl, hF473⟩
                  refine ⟨_, rfl, ?_⟩
                  have hL := hL.mut 4 rfl hF473
                  simp only [lA, lB, lC, lD] at hL
                  refine OW.cons (S_lit1 (Race.mk x467.1.Finishes) rfl hL Try.underlying29 Try_T46 rfl rfl ?_)
                  intro wd474 v475 S476 hL
                  obtain ⟨hc480, hm⟩ := chkE hm
                  have hL := hL.sel [1, 0, 2, 3, 4, 5, 6] (by decide) rfl
                  refine OW.cons (S_appendN Finish hL Try.underlying29 Try_T46 rfl rfl rfl hc480 (by decide) rfl ?_)
                  intro wd477 v478 S479 hL
                  refine OW.cons (OP.val (v := v478) rfl (x_assign) ?_)
                  refine OW.nil ?_
                  obtain rfl := Option.some.inj hm
                  exact ⟨_, rfl, ⟨v478, S479, f461, f462, f463, f464, rfl, hL⟩⟩
                · refine CW.exit ?_
                  refine XJ.hit ?_
                  obtain rfl := Option.some.inj hm
                  exact ⟨_, rfl, ⟨v438, S439, f461, f462, f463, f464, f465, hL⟩⟩
            · refine CW.skip ?_
              exact ⟨(x283.2.1, x283.2.2, x12.1, s_l1.2.2.1), hm, ⟨v63, S64, f72, f74, f75, hL⟩⟩
      · intro s_j2 F383 wd384 hJ hm
        unfold M.spec_l26DrawSeries_j2 at hm
        obtain ⟨v381, S382, f385, f386, f387, hL⟩ := hJ
        exact ⟨(s_j2.1, s_j2.2.1, s_j2.2.2.1, s_j2.2.2.2), hm, ⟨v381, S382, f385, f386, f387, hL⟩⟩
    · intro s_j1 F277 wd278 hJ hm
      unfold M.spec_l26DrawSeries_j1 at hm
      obtain ⟨v275, S276, f279, f280, f281, hL⟩ := hJ
      refine CW.seq ?_
      refine CW.regionL ?_
      refine OW.cons (OP.val (v := (.pointer (some ⟨b21, 0, none⟩))) rfl (x_fieldAddr (fsz := 1) 0 0 0 Try.underlying31 rfl Try_T2 rfl f280 rfl) ?_)
      refine OW.cons (OP.val (v := (.int .i64 x7.1)) rfl (x_load1 Try.underlying2 rfl rfl (hL.cellB 1 rfl rfl)) ?_)
      refine OW.cons (OP.val (v := (.pointer (some ⟨b21, 1, none⟩))) rfl (x_fieldAddr (fsz := 1) 0 1 1 Try.underlying31 rfl Try_T2 rfl f280 rfl) ?_)
      refine OW.cons (OP.val (v := (.int .i64 s_j1.2.2.1)) rfl (x_load1 Try.underlying2 rfl rfl (hL.cellB 1 rfl rfl)) ?_)
      refine OW.cons (OP.val (v := v275) rfl (x_mv f281) ?_)
      refine OW.cons (OP.val (v := (.agg #[(.int .i64 x7.1), (.int .i64 s_j1.2.2.1), v275])) rfl (x_build Try_B31 (ps := [(0, (.int .i64 x7.1)), (1, (.int .i64 s_j1.2.2.1)), (2, v275)]) ⟨⟨rfl, rfl⟩, ⟨rfl, rfl⟩, ⟨rfl, rfl⟩, trivial⟩ (by simp [Instr.fill, cells_int, cells_bool, cells_string, cells_agg, cells_slice, cells_pointer, (rdL_cells (hL.rdO 0 rfl))])) ?_)
      refine OW.cons (S_storeN (l := [(.int .i64 x7.1), (.int .i64 s_j1.2.2.1), v275]) (cs' := #[(.int .i64 x7.1), (.int .i64 s_j1.2.2.1), v275]) hL 3 rfl Try_T31 f279 rfl (List.forall_mem_cons.2 ⟨rfl, (List.forall_mem_cons.2 ⟨rfl, (List.forall_mem_cons.2 ⟨rdL_one (hL.rdO 0 rfl), (fun _ h => by cases h)⟩)⟩)⟩) rfl (Nat.le_of_ble_eq_true rfl) rfl ?_)
      intro wd282 hL
      refine OW.nil ?_
      refine CW.ret ?_
      obtain rfl := Option.some.inj hm
      exact RRc rfl f279 (run_loadBlk Try.underlying31 Try_T31 (hL.get 3 rfl) rfl) ⟨v275, S276, rfl, hL.mutOut 5 rfl [4, 0] (by decide) (by decide) rfl⟩
  · intro s_l1 F481 wd482 t65 hJ hm hr66
    unfold M.spec_l26DrawSeries_l1 at hm
    obtain ⟨v63, S64, f483, f484, f485, f486, f487, f488, hL⟩ := hJ
    refine CW.seq ?_
    refine CW.seq ?_
    refine CW.regionL ?_
    refine OW.cons (OP.val (v := (.int .i64 s_l1.2.2.2)) rfl (x_mv f488) ?_)
    refine OW.cons (OP.val (v := (.bool (decide (0 < s_l1.2.2.2)))) rfl (x_gtr rfl rfl) ?_)
    refine OW.nil ?_
    refine CW.condM (t := decide (0 < s_l1.2.2.2)) rfl hm (fun hb489 hm => ?_) (fun hb489 hm => ?_)
    · refine CW.skip ?_
      refine CW.seq ?_
      refine CW.block ?_
      refine CW.regionL ?_
      refine OW.cons (OP.val (v := v63) rfl (x_mv f487) ?_)
      refine OW.cons (OP.val (v := (.pointer (some ⟨b1, 0, none⟩))) rfl (x_mv f483) ?_)
      refine OW.cons (OP.val (v := (.int .i64 x7.1)) rfl (x_mv f485) ?_)
      obtain ⟨x490, hx491, hm⟩ := bndE hm
      refine OW.cons (OP.call rfl (x_call (vs := [(.pointer (some ⟨b1, 0, none⟩)), (.int .i64 x7.1)]) Try_C92 ⟨rfl, rfl, trivial⟩) (M.spec_l26DrawRace_ok _ (Src.mk a0.code s_l1.1 s_l1.2.1) (hL.exZ 5 4 (by decide) rfl rfl h3) (hL.get 4 rfl) x7.1 hx491) ?_)
      rintro e494 wd495 ⟨v493, S492, rfl, hF496⟩
      refine ⟨_, rfl, ?_⟩
      have hL := hL.mut 4 rfl hF496
      simp only [lA, lB, lC, lD] at hL
      refine OW.cons (S_lit1 (Race.mk x490.1.Finishes) rfl hL Try.underlying29 Try_T46 rfl rfl ?_)
      intro wd497 v498 S499 hL
      obtain ⟨hc503, hm⟩ := chkE hm
      have hL := hL.sel [1, 0, 2, 3, 4, 5, 6] (by decide) rfl
      refine OW.cons (S_appendN Finish hL Try.underlying29 Try_T46 rfl rfl rfl hc503 (by decide) rfl ?_)
      intro wd500 v501 S502 hL
      refine OW.cons (OP.val (v := v501) rfl (x_assign) ?_)
      refine OW.nil ?_
      refine CW.regionL ?_
      refine OW.cons (OP.val (v := (.int .i64 s_l1.2.2.2)) rfl (x_mv f488) ?_)
      refine OW.cons (OP.val (v := (.int .i64 (w64 (s_l1.2.2.2 - 1)))) rfl (x_sub rfl rfl) ?_)
      refine OW.cons (OP.val (v := (.int .i64 (w64 (s_l1.2.2.2 - 1)))) rfl (x_assign) ?_)
      refine OW.nil ?_
      obtain rfl := Option.some.inj hm
      exact ⟨_, rfl, ⟨v501, S502, f483, f484, f485, f486, rfl, rfl, hL⟩⟩
    · refine CW.exit ?_
      refine XJ.hit ?_
      obtain rfl := Option.some.inj hm
      exact ⟨_, rfl, ⟨v63, S64, f483, f484, f485, f486, f487, f488, hL⟩⟩

theorem M.spec_l21DrawPenalty_ok (w0 : World) {b1 : Nat} {v2 : Value} (a0 : Src) (h3 : rdL (fun k => k < w0.heap.size ∧ ¬ (Ent.blk b1 94 #[v2, .int .i64 a0.at_, .int .i64 a0.seed]).S k) w0 v2 a0.code) (he4 : (Ent.blk b1 94 #[v2, .int .i64 a0.at_, .int .i64 a0.seed]).H w0) (a1 : Series) {v5 : Value} (h6 : rdL (fun k => k < w0.heap.size ∧ ¬ (Ent.blk b1 94 #[v2, .int .i64 a0.at_, .int .i64 a0.seed]).S k) w0 v5 a1.Races) {r : (Penalty) × (Int × Int)} (hm : M.spec_l21DrawPenalty a0 a1 = some r) :
    Calls Try.prog 69 #[(.pointer (some ⟨b1, 0, none⟩)), (.agg #[(.int .i64 a1.Boats), (.int .i64 a1.Scheme), v5])] w0 fun e w' => e = .returned (.agg #[(.int .i64 r.1.Race), (.int .i64 r.1.Boat), (.int .i64 r.1.Kind), (.int .i64 r.1.Value)]) ∧ Mut w0 w' (Ent.blk b1 94 #[v2, .int .i64 a0.at_, .int .i64 a0.seed]).S [Ent.blk b1 94 #[v2, .int .i64 r.2.1, .int .i64 r.2.2]] := by
  unfold M.spec_l21DrawPenalty at hm
  refine calls_CW (args := [(.pointer (some ⟨b1, 0, none⟩)), (.agg #[(.int .i64 a1.Boats), (.int .i64 a1.Scheme), v5])]) Try.func69 rfl rfl rfl ?_
  have hL := Hp.startIO he4
  refine CW.seq ?_
  refine CW.regionL ?_
  refine OW.cons (S_box (cs := #[(.int .i64 a1.Boats), (.int .i64 a1.Scheme), v5]) hL rfl rfl rfl ?_)
  intro wd7 b8 hL
  refine OW.cons (S_alloc (cs := #[(.int .i64 0), (.int .i64 0), (.int .i64 0), (.int .i64 0)]) hL Try_T48 rfl rfl ?_)
  intro wd9 b10 hL
  refine OW.nil ?_
  refine CW.seq ?_
  refine CW.drawH (fun w' => Hp w0 [Ent.blk b10 48 #[(.int .i64 0), (.int .i64 0), (.int .i64 0), (.int .i64 0)], Ent.blk b8 31 #[(.int .i64 a1.Boats), (.int .i64 a1.Scheme), v5], Ent.frz w0 (Ent.blk b1 94 #[v2, .int .i64 a0.at_, .int .i64 a0.seed]).S] w') Try_mixed ?_
  have hL := hL.call (Mod.drew _)
  have hS := (hL.sel [0, 1, 3] (by decide) rfl)
  refine DH.take 0 rfl (by kernel_rfl) (by kernel_rfl) (by kernel_rfl) rfl rfl hS (YH.val (v := (.pointer (some ⟨b1, 0, none⟩))) (fun w' hS' => x_move)) ?_
  have hS := (hL.sel [0, 1, 3] (by decide) rfl)
  refine DH.take 1 rfl (by kernel_rfl) (by kernel_rfl) (by kernel_rfl) rfl rfl hS (YH.val (v := (.pointer (some ⟨b8, 2, none⟩))) (fun w' hS' => x_fieldAddr (fsz := 1) 0 2 2 Try.underlying31 rfl Try_T29 rfl rfl rfl)) ?_
  have hS := (hL.sel [0, 1, 3] (by decide) rfl)
  refine DH.take 2 rfl (by kernel_rfl) (by kernel_rfl) (by kernel_rfl) rfl rfl hS (YH.val (v := v5) (fun w' hS' => x_load1 Try.underlying29 rfl rfl (hS'.cellB 1 rfl rfl))) ?_
  have hS := (hL.sel [0, 1, 3] (by decide) rfl)
  refine DH.take 3 rfl (by kernel_rfl) (by kernel_rfl) (by kernel_rfl) rfl rfl hS (YH.val (v := (.int .i64 (a1.Races.length : Int))) (fun w' hS' => x_lenW Try.underlying29 rfl (subV_len (hL.rdZ 3 rfl h6)))) ?_
  have hS := (hL.sel [0, 1, 3] (by decide) rfl)
  refine DH.take 4 rfl (by kernel_rfl) (by kernel_rfl) (by kernel_rfl) rfl rfl hS (YH.val (v := (.int .i64 (max 1 (a1.Races.length : Int)))) (fun w' hS' => x_max2 rfl rfl)) ?_
  have hS := (hL.sel [0, 1, 3] (by decide) rfl)
  refine DH.take 6 rfl (by kernel_rfl) (by kernel_rfl) (by kernel_rfl) rfl rfl hS (YH.val (v := (.pointer (some ⟨b1, 0, none⟩))) (fun w' hS' => x_move)) ?_
  have hS := (hL.sel [0, 1, 3] (by decide) rfl)
  refine DH.take 7 rfl (by kernel_rfl) (by kernel_rfl) (by kernel_rfl) rfl rfl hS (YH.val (v := (.pointer (some ⟨b8, 0, none⟩))) (fun w' hS' => x_fieldAddr (fsz := 1) 0 0 0 Try.underlying31 rfl Try_T2 rfl rfl rfl)) ?_
  have hS := (hL.sel [0, 1, 3] (by decide) rfl)
  refine DH.take 8 rfl (by kernel_rfl) (by kernel_rfl) (by kernel_rfl) rfl rfl hS (YH.val (v := (.int .i64 a1.Boats)) (fun w' hS' => x_load1 Try.underlying2 rfl rfl (hS'.cellB 1 rfl rfl))) ?_
  have hS := (hL.sel [0, 1, 3] (by decide) rfl)
  refine DH.take 9 rfl (by kernel_rfl) (by kernel_rfl) (by kernel_rfl) rfl rfl hS (YH.val (v := (.int .i64 (max 1 a1.Boats))) (fun w' hS' => x_max2 rfl rfl)) ?_
  have hS := (hL.sel [0, 1, 3] (by decide) rfl)
  refine DH.take 11 rfl (by kernel_rfl) (by kernel_rfl) (by kernel_rfl) rfl rfl hS (YH.val (v := (.pointer (some ⟨b1, 0, none⟩))) (fun w' hS' => x_move)) ?_
  refine DH.all (rs := [5, 15]) (by kernel_rfl) (by simp) ?_
  intro i29 hi30
  simp only [List.mem_cons, List.not_mem_nil, or_false] at hi30
  rcases hi30 with rfl | rfl
  · refine ⟨_, rfl, ?_⟩
    obtain ⟨x31, hx32, hm⟩ := bndE hm
    refine OP.call rfl (x_call (vs := [(.pointer (some ⟨b1, 0, none⟩)), (.int .i64 (max 1 (a1.Races.length : Int)))]) Try_C68 ⟨rfl, rfl, trivial⟩) (M.spec_l01Next_ok _ (Src.mk a0.code a0.at_ a0.seed) (hL.exZ 3 2 (by decide) rfl rfl h3) (hL.get 2 rfl) (max 1 (a1.Races.length : Int)) hx32) ?_
    rintro e33 wd34 ⟨rfl, hF35⟩
    refine ⟨_, rfl, ?_⟩
    have hL := hL.mut 2 rfl hF35
    simp only [lA, lB, lC, lD] at hL
    refine ⟨(hL.sel [0, 1, 3] (by decide) rfl), ?_⟩
    refine DH.all (rs := [10, 15]) (by kernel_rfl) (by simp) ?_
    intro i36 hi37
    simp only [List.mem_cons, List.not_mem_nil, or_false] at hi37
    rcases hi37 with rfl | rfl
    · refine ⟨_, rfl, ?_⟩
      obtain ⟨x38, hx39, hm⟩ := bndE hm
      refine OP.call rfl (x_call (vs := [(.pointer (some ⟨b1, 0, none⟩)), (.int .i64 (max 1 a1.Boats))]) Try_C68 ⟨rfl, rfl, trivial⟩) (M.spec_l01Next_ok _ (Src.mk a0.code x31.2.1 x31.2.2) (hL.exZ 3 2 (by decide) rfl rfl h3) (hL.get 2 rfl) (max 1 a1.Boats) hx39) ?_
      rintro e40 wd41 ⟨rfl, hF42⟩
      refine ⟨_, rfl, ?_⟩
      have hL := hL.mut 2 rfl hF42
      simp only [lA, lB, lC, lD] at hL
      refine ⟨(hL.sel [0, 1, 3] (by decide) rfl), ?_⟩
      refine DH.all (rs := [12, 15]) (by kernel_rfl) (by simp) ?_
      intro i43 hi44
      simp only [List.mem_cons, List.not_mem_nil, or_false] at hi44
      rcases hi44 with rfl | rfl
      · refine ⟨_, rfl, ?_⟩
        obtain ⟨x45, hx46, hm⟩ := bndE hm
        refine OP.call rfl (x_call (vs := [(.pointer (some ⟨b1, 0, none⟩)), (.int .i64 3)]) Try_C68 ⟨rfl, rfl, trivial⟩) (M.spec_l01Next_ok _ (Src.mk a0.code x38.2.1 x38.2.2) (hL.exZ 3 2 (by decide) rfl rfl h3) (hL.get 2 rfl) 3 hx46) ?_
        rintro e47 wd48 ⟨rfl, hF49⟩
        refine ⟨_, rfl, ?_⟩
        have hL := hL.mut 2 rfl hF49
        simp only [lA, lB, lC, lD] at hL
        refine ⟨(hL.sel [0, 1, 3] (by decide) rfl), ?_⟩
        have hS := (hL.sel [0, 1, 3] (by decide) rfl)
        refine DH.take 13 rfl (by kernel_rfl) (by kernel_rfl) (by kernel_rfl) rfl rfl hS (YH.val (v := (.int .i64 (w64 (1 + x45.1)))) (fun w' hS' => x_add rfl rfl)) ?_
        have hS := (hL.sel [0, 1, 3] (by decide) rfl)
        refine DH.take 14 rfl (by kernel_rfl) (by kernel_rfl) (by kernel_rfl) rfl rfl hS (YH.val (v := (.agg #[(.int .i64 x31.1), (.int .i64 x38.1), (.int .i64 (w64 (1 + x45.1))), (.int .i64 0)])) (fun w' hS' => x_build Try_B48 (ps := [(0, (.int .i64 x31.1)), (1, (.int .i64 x38.1)), (2, (.int .i64 (w64 (1 + x45.1))))]) ⟨⟨rfl, rfl⟩, ⟨rfl, rfl⟩, ⟨rfl, rfl⟩, trivial⟩ (by simp [Instr.fill, cells_int, cells_bool, cells_string, cells_agg, cells_slice, cells_pointer]))) ?_
        refine DH.only 15 rfl (by kernel_rfl) (S_alloc (cs := #[(.int .i64 0), (.int .i64 0), (.int .i64 0), (.int .i64 0)]) hL Try_T48 rfl rfl ?_)
        intro wd50 b51 hL
        refine ⟨(hL.sel [1, 2, 4] (by decide) rfl), ?_⟩
        refine DH.only 16 rfl (by kernel_rfl) (S_storeN (l := [(.int .i64 x31.1), (.int .i64 x38.1), (.int .i64 (w64 (1 + x45.1))), (.int .i64 0)]) (cs' := #[(.int .i64 x31.1), (.int .i64 x38.1), (.int .i64 (w64 (1 + x45.1))), (.int .i64 0)]) hL 0 rfl Try_T48 rfl rfl (List.forall_mem_cons.2 ⟨rfl, (List.forall_mem_cons.2 ⟨rfl, (List.forall_mem_cons.2 ⟨rfl, (List.forall_mem_cons.2 ⟨rfl, (fun _ h => by cases h)⟩)⟩)⟩)⟩) rfl (Nat.le_of_ble_eq_true rfl) rfl ?_)
        intro wd52 hL
        refine ⟨(hL.sel [1, 2, 4] (by decide) rfl), ?_⟩
        refine DH.done (by kernel_rfl) ?_
        refine CW.seqJ (fun (s_j1 : Int × Int × Int) (F : Fr) (w : World) => F 4 = (.pointer (some ⟨b10, 0, none⟩)) ∧ F 5 = (.pointer (some ⟨b51, 0, none⟩)) ∧ Hp w0 [Ent.blk b51 48 #[(.int .i64 x31.1), (.int .i64 x38.1), (.int .i64 (w64 (1 + x45.1))), (.int .i64 s_j1.2.2)], Ent.blk b10 48 #[(.int .i64 0), (.int .i64 0), (.int .i64 0), (.int .i64 0)], Ent.blk b8 31 #[(.int .i64 a1.Boats), (.int .i64 a1.Scheme), v5], Ent.blk b1 94 #[v2, (.int .i64 s_j1.1), (.int .i64 s_j1.2.1)], Ent.frz w0 (Ent.blk b1 94 #[v2, .int .i64 a0.at_, .int .i64 a0.seed]).S] w) (fun s_j1 => M.spec_l21DrawPenalty_j1 x31 x38 x45 s_j1 = some r) ?_ ?_
        · refine CW.seq ?_
          refine CW.regionL ?_
          refine OW.cons (OP.val (v := (.pointer (some ⟨b51, 2, none⟩))) rfl (x_fieldAddr (fsz := 1) 0 2 2 Try.underlying48 rfl Try_T2 rfl rfl rfl) ?_)
          refine OW.cons (OP.val (v := (.int .i64 (w64 (1 + x45.1)))) rfl (x_load1 Try.underlying2 rfl rfl (hL.cellB 0 rfl rfl)) ?_)
          refine OW.nil ?_
          refine CW.blockJ (fun (s_j2 : Int × Int × Int) (F : Fr) (w : World) => F 4 = (.pointer (some ⟨b10, 0, none⟩)) ∧ F 5 = (.pointer (some ⟨b51, 0, none⟩)) ∧ Hp w0 [Ent.blk b51 48 #[(.int .i64 x31.1), (.int .i64 x38.1), (.int .i64 (w64 (1 + x45.1))), (.int .i64 s_j2.2.2)], Ent.blk b10 48 #[(.int .i64 0), (.int .i64 0), (.int .i64 0), (.int .i64 0)], Ent.blk b8 31 #[(.int .i64 a1.Boats), (.int .i64 a1.Scheme), v5], Ent.blk b1 94 #[v2, (.int .i64 s_j2.1), (.int .i64 s_j2.2.1)], Ent.frz w0 (Ent.blk b1 94 #[v2, .int .i64 a0.at_, .int .i64 a0.seed]).S] w) (fun s_j2 => M.spec_l21DrawPenalty_j2 x31 x38 x45 s_j2 = some r) ?_ ?_
          · refine CW.seq ?_
            refine CW.regionL ?_
            refine OW.cons (OP.val (v := (.bool ((w64 (1 + x45.1)) == 1))) rfl (x_eql rfl rfl) ?_)
            refine OW.cons (OP.val (v := (.bool ((w64 (1 + x45.1)) == 1))) rfl (x_assign) ?_)
            refine OW.nil ?_
            refine CW.condM (t := (w64 (1 + x45.1)) == 1) rfl hm (fun hb159 hm => ?_) (fun hb159 hm => ?_)
            · refine CW.regionL ?_
              refine OW.cons (S_lit ([6, 7, 5] : List Int) hL Try.underlying61 Try_T2 rfl (by decide) (by first | (simp [Instr.fill, madeCells, Value.cells, ev, upd, Flat.enc, Flat.sz]; done) | rfl | kernel_rfl) rfl rfl ?_)
              intro wd160 v161 S162 hL
              refine OW.cons (OP.val (v := (.pointer (some ⟨b1, 0, none⟩))) rfl (x_move) ?_)
              obtain ⟨x163, hx164, hm⟩ := bndE hm
              refine OW.cons (OP.call rfl (x_call (vs := [(.pointer (some ⟨b1, 0, none⟩)), (.int .i64 3)]) Try_C68 ⟨rfl, rfl, trivial⟩) (M.spec_l01Next_ok _ (Src.mk a0.code x45.2.1 x45.2.2) (hL.exZ 5 4 (by decide) rfl rfl h3) (hL.get 4 rfl) 3 hx164) ?_)
              rintro e165 wd166 ⟨rfl, hF167⟩
              refine ⟨_, rfl, ?_⟩
              have hL := hL.mut 4 rfl hF167
              simp only [lA, lB, lC, lD] at hL
              obtain ⟨x168, ha169, hm⟩ := bndE hm
              obtain ⟨hz170, ha174⟩ := idxE ha169
              obtain ⟨b171, q172, hix173⟩ := rdL_ix (hL.rdO 0 rfl) hz170 ha174
              refine OW.cons (OP.val (v := (.pointer (some ⟨b171, q172, none⟩))) rfl (x_ix Try.underlying61 Try_T2 rfl rfl hix173) ?_)
              refine OW.cons (OP.val (v := (.int .i64 x168)) rfl (x_load1 Try.underlying2 rfl rfl (rdF_cells (hL.rdO 0 rfl) hix173 ha174 0 _ rfl)) ?_)
              refine OW.cons (OP.val (v := (.pointer (some ⟨b51, 3, none⟩))) rfl (x_fieldAddr (fsz := 1) 0 3 3 Try.underlying48 rfl Try_T2 rfl rfl rfl) ?_)
              refine OW.cons (S_store (cs' := #[(.int .i64 x31.1), (.int .i64 x38.1), (.int .i64 (w64 (1 + x45.1))), (.int .i64 x168)]) hL 1 rfl Try_T2 rfl rfl rfl rfl rfl ?_)
              intro wd175 hL
              refine OW.nil ?_
              have hL := hL.sel [1, 2, 3, 4, 5] (by decide) rfl
              exact ⟨(x163.2.1, x163.2.2, x168), hm, ⟨rfl, rfl, hL⟩⟩
            · refine CW.seq ?_
              refine CW.regionL ?_
              refine OW.cons (OP.val (v := (.bool ((w64 (1 + x45.1)) == 2))) rfl (x_eql rfl rfl) ?_)
              refine OW.cons (OP.val (v := (.bool ((w64 (1 + x45.1)) == 2))) rfl (x_assign) ?_)
              refine OW.nil ?_
              refine CW.condM (t := (w64 (1 + x45.1)) == 2) rfl hm (fun hb176 hm => ?_) (fun hb176 hm => ?_)
              · refine CW.regionL ?_
                refine OW.cons (OP.val (v := (.pointer (some ⟨b1, 0, none⟩))) rfl (x_move) ?_)
                obtain ⟨x177, hx178, hm⟩ := bndE hm
                refine OW.cons (OP.call rfl (x_call (vs := [(.pointer (some ⟨b1, 0, none⟩)), (.int .i64 8)]) Try_C68 ⟨rfl, rfl, trivial⟩) (M.spec_l01Next_ok _ (Src.mk a0.code x45.2.1 x45.2.2) (hL.exZ 4 3 (by decide) rfl rfl h3) (hL.get 3 rfl) 8 hx178) ?_)
                rintro e179 wd180 ⟨rfl, hF181⟩
                refine ⟨_, rfl, ?_⟩
                have hL := hL.mut 3 rfl hF181
                simp only [lA, lB, lC, lD] at hL
                refine OW.cons (OP.val (v := (.int .i64 (w64 (1 + x177.1)))) rfl (x_add rfl rfl) ?_)
                refine OW.cons (OP.val (v := (.pointer (some ⟨b51, 3, none⟩))) rfl (x_fieldAddr (fsz := 1) 0 3 3 Try.underlying48 rfl Try_T2 rfl rfl rfl) ?_)
                refine OW.cons (S_store (cs' := #[(.int .i64 x31.1), (.int .i64 x38.1), (.int .i64 (w64 (1 + x45.1))), (.int .i64 (w64 (1 + x177.1)))]) hL 0 rfl Try_T2 rfl rfl rfl rfl rfl ?_)
                intro wd182 hL
                refine OW.nil ?_
                exact ⟨(x177.2.1, x177.2.2, w64 (1 + x177.1)), hm, ⟨rfl, rfl, hL⟩⟩
              · refine CW.seq ?_
                refine CW.regionL ?_
                refine OW.cons (OP.val (v := (.bool ((w64 (1 + x45.1)) == 3))) rfl (x_eql rfl rfl) ?_)
                refine OW.cons (OP.val (v := (.bool ((w64 (1 + x45.1)) == 3))) rfl (x_assign) ?_)
                refine OW.nil ?_
                refine CW.condM (t := (w64 (1 + x45.1)) == 3) rfl hm (fun hb183 hm => ?_) (fun hb183 hm => ?_)
                · refine CW.regionL ?_
                  refine OW.cons (OP.val (v := (.pointer (some ⟨b1, 0, none⟩))) rfl (x_move) ?_)
                  obtain ⟨x184, hx185, hm⟩ := bndE hm
                  refine OW.cons (OP.call rfl (x_call (vs := [(.pointer (some ⟨b1, 0, none⟩)), (.int .i64 100)]) Try_C68 ⟨rfl, rfl, trivial⟩) (M.spec_l01Next_ok _ (Src.mk a0.code x45.2.1 x45.2.2) (hL.exZ 4 3 (by decide) rfl rfl h3) (hL.get 3 rfl) 100 hx185) ?_)
                  rintro e186 wd187 ⟨rfl, hF188⟩
                  refine ⟨_, rfl, ?_⟩
                  have hL := hL.mut 3 rfl hF188
                  simp only [lA, lB, lC, lD] at hL
                  refine OW.cons (OP.val (v := (.int .i64 (w64 (1 + x184.1)))) rfl (x_add rfl rfl) ?_)
                  refine OW.cons (OP.val (v := (.pointer (some ⟨b51, 3, none⟩))) rfl (x_fieldAddr (fsz := 1) 0 3 3 Try.underlying48 rfl Try_T2 rfl rfl rfl) ?_)
                  refine OW.cons (S_store (cs' := #[(.int .i64 x31.1), (.int .i64 x38.1), (.int .i64 (w64 (1 + x45.1))), (.int .i64 (w64 (1 + x184.1)))]) hL 0 rfl Try_T2 rfl rfl rfl rfl rfl ?_)
                  intro wd189 hL
                  refine OW.nil ?_
                  exact ⟨(x184.2.1, x184.2.2, w64 (1 + x184.1)), hm, ⟨rfl, rfl, hL⟩⟩
                · refine CW.skip ?_
                  exact ⟨(x45.2.1, x45.2.2, 0), hm, ⟨rfl, rfl, hL⟩⟩
          · intro s_j2 F155 wd156 hJ hm
            unfold M.spec_l21DrawPenalty_j2 at hm
            obtain ⟨f157, f158, hL⟩ := hJ
            exact ⟨(s_j2.1, s_j2.2.1, s_j2.2.2), hm, ⟨f157, f158, hL⟩⟩
        · intro s_j1 F119 wd120 hJ hm
          unfold M.spec_l21DrawPenalty_j1 at hm
          obtain ⟨f121, f122, hL⟩ := hJ
          refine CW.seq ?_
          refine CW.regionL ?_
          refine OW.cons (OP.val (v := (.agg #[(.int .i64 x31.1), (.int .i64 x38.1), (.int .i64 (w64 (1 + x45.1))), (.int .i64 s_j1.2.2)])) rfl (x_loadN (cs := [(.int .i64 x31.1), (.int .i64 x38.1), (.int .i64 (w64 (1 + x45.1))), (.int .i64 s_j1.2.2)]) Try.underlying48 Try_T48 rfl f122 (hL.cellsB 0 rfl (o := 0) (l := [(.int .i64 x31.1), (.int .i64 x38.1), (.int .i64 (w64 (1 + x45.1))), (.int .i64 s_j1.2.2)]) (by intro j u hj; exact (by simpa using hj)))) ?_)
          refine OW.cons (S_storeN (l := [(.int .i64 x31.1), (.int .i64 x38.1), (.int .i64 (w64 (1 + x45.1))), (.int .i64 s_j1.2.2)]) (cs' := #[(.int .i64 x31.1), (.int .i64 x38.1), (.int .i64 (w64 (1 + x45.1))), (.int .i64 s_j1.2.2)]) hL 1 rfl Try_T48 f121 rfl (List.forall_mem_cons.2 ⟨rfl, (List.forall_mem_cons.2 ⟨rfl, (List.forall_mem_cons.2 ⟨rfl, (List.forall_mem_cons.2 ⟨rfl, (fun _ h => by cases h)⟩)⟩)⟩)⟩) rfl (Nat.le_of_ble_eq_true rfl) rfl ?_)
          intro wd123 hL
          refine OW.nil ?_
          refine CW.ret ?_
          obtain rfl := Option.some.inj hm
          exact RRc rfl f121 (run_loadBlk Try.underlying48 Try_T48 (hL.get 1 rfl) rfl) ⟨rfl, hL.mutOut 4 rfl [3] (by decide) (by decide) rfl⟩
      · refine ⟨_, rfl, ?_⟩
        refine S_alloc (cs := #[(.int .i64 0), (.int .i64 0), (.int .i64 0), (.int .i64 0)]) hL Try_T48 rfl rfl ?_
        intro wd190 b191 hL
        refine ⟨(hL.sel [1, 2, 4] (by decide) rfl), ?_⟩
        obtain ⟨x192, hx193, hm⟩ := bndE hm
        refine DH.only 12 rfl (by kernel_rfl) (OP.call rfl (x_call (vs := [(.pointer (some ⟨b1, 0, none⟩)), (.int .i64 3)]) Try_C68 ⟨rfl, rfl, trivial⟩) (M.spec_l01Next_ok _ (Src.mk a0.code x38.2.1 x38.2.2) (hL.exZ 4 3 (by decide) rfl rfl h3) (hL.get 3 rfl) 3 hx193) ?_)
        rintro e194 wd195 ⟨rfl, hF196⟩
        refine ⟨_, rfl, ?_⟩
        have hL := hL.mut 3 rfl hF196
        simp only [lA, lB, lC, lD] at hL
        refine ⟨(hL.sel [1, 2, 4] (by decide) rfl), ?_⟩
        have hS := (hL.sel [1, 2, 4] (by decide) rfl)
        refine DH.take 13 rfl (by kernel_rfl) (by kernel_rfl) (by kernel_rfl) rfl rfl hS (YH.val (v := (.int .i64 (w64 (1 + x192.1)))) (fun w' hS' => x_add rfl rfl)) ?_
        have hS := (hL.sel [1, 2, 4] (by decide) rfl)
        refine DH.take 14 rfl (by kernel_rfl) (by kernel_rfl) (by kernel_rfl) rfl rfl hS (YH.val (v := (.agg #[(.int .i64 x31.1), (.int .i64 x38.1), (.int .i64 (w64 (1 + x192.1))), (.int .i64 0)])) (fun w' hS' => x_build Try_B48 (ps := [(0, (.int .i64 x31.1)), (1, (.int .i64 x38.1)), (2, (.int .i64 (w64 (1 + x192.1))))]) ⟨⟨rfl, rfl⟩, ⟨rfl, rfl⟩, ⟨rfl, rfl⟩, trivial⟩ (by simp [Instr.fill, cells_int, cells_bool, cells_string, cells_agg, cells_slice, cells_pointer]))) ?_
        refine DH.only 16 rfl (by kernel_rfl) (S_storeN (l := [(.int .i64 x31.1), (.int .i64 x38.1), (.int .i64 (w64 (1 + x192.1))), (.int .i64 0)]) (cs' := #[(.int .i64 x31.1), (.int .i64 x38.1), (.int .i64 (w64 (1 + x192.1))), (.int .i64 0)]) hL 0 rfl Try_T48 rfl rfl (List.forall_mem_cons.2 ⟨rfl, (List.forall_mem_cons.2 ⟨rfl, (List.forall_mem_cons.2 ⟨rfl, (List.forall_mem_cons.2 ⟨rfl, (fun _ h => by cases h)⟩)⟩)⟩)⟩) rfl (Nat.le_of_ble_eq_true rfl) rfl ?_)
        intro wd197 hL
        refine ⟨(hL.sel [1, 2, 4] (by decide) rfl), ?_⟩
        refine DH.done (by kernel_rfl) ?_
        refine CW.seqJ (fun (s_j1 : Int × Int × Int) (F : Fr) (w : World) => F 4 = (.pointer (some ⟨b10, 0, none⟩)) ∧ F 5 = (.pointer (some ⟨b191, 0, none⟩)) ∧ Hp w0 [Ent.blk b191 48 #[(.int .i64 x31.1), (.int .i64 x38.1), (.int .i64 (w64 (1 + x192.1))), (.int .i64 s_j1.2.2)], Ent.blk b10 48 #[(.int .i64 0), (.int .i64 0), (.int .i64 0), (.int .i64 0)], Ent.blk b8 31 #[(.int .i64 a1.Boats), (.int .i64 a1.Scheme), v5], Ent.blk b1 94 #[v2, (.int .i64 s_j1.1), (.int .i64 s_j1.2.1)], Ent.frz w0 (Ent.blk b1 94 #[v2, .int .i64 a0.at_, .int .i64 a0.seed]).S] w) (fun s_j1 => M.spec_l21DrawPenalty_j1 x31 x38 x192 s_j1 = some r) ?_ ?_
        · refine CW.seq ?_
          refine CW.regionL ?_
          refine OW.cons (OP.val (v := (.pointer (some ⟨b191, 2, none⟩))) rfl (x_fieldAddr (fsz := 1) 0 2 2 Try.underlying48 rfl Try_T2 rfl rfl rfl) ?_)
          refine OW.cons (OP.val (v := (.int .i64 (w64 (1 + x192.1)))) rfl (x_load1 Try.underlying2 rfl rfl (hL.cellB 0 rfl rfl)) ?_)
          refine OW.nil ?_
          refine CW.blockJ (fun (s_j2 : Int × Int × Int) (F : Fr) (w : World) => F 4 = (.pointer (some ⟨b10, 0, none⟩)) ∧ F 5 = (.pointer (some ⟨b191, 0, none⟩)) ∧ Hp w0 [Ent.blk b191 48 #[(.int .i64 x31.1), (.int .i64 x38.1), (.int .i64 (w64 (1 + x192.1))), (.int .i64 s_j2.2.2)], Ent.blk b10 48 #[(.int .i64 0), (.int .i64 0), (.int .i64 0), (.int .i64 0)], Ent.blk b8 31 #[(.int .i64 a1.Boats), (.int .i64 a1.Scheme), v5], Ent.blk b1 94 #[v2, (.int .i64 s_j2.1), (.int .i64 s_j2.2.1)], Ent.frz w0 (Ent.blk b1 94 #[v2, .int .i64 a0.at_, .int .i64 a0.seed]).S] w) (fun s_j2 => M.spec_l21DrawPenalty_j2 x31 x38 x192 s_j2 = some r) ?_ ?_
          · refine CW.seq ?_
            refine CW.regionL ?_
            refine OW.cons (OP.val (v := (.bool ((w64 (1 + x192.1)) == 1))) rfl (x_eql rfl rfl) ?_)
            refine OW.cons (OP.val (v := (.bool ((w64 (1 + x192.1)) == 1))) rfl (x_assign) ?_)
            refine OW.nil ?_
            refine CW.condM (t := (w64 (1 + x192.1)) == 1) rfl hm (fun hb304 hm => ?_) (fun hb304 hm => ?_)
            · refine CW.regionL ?_
              refine OW.cons (S_lit ([6, 7, 5] : List Int) hL Try.underlying61 Try_T2 rfl (by decide) (by first | (simp [Instr.fill, madeCells, Value.cells, ev, upd, Flat.enc, Flat.sz]; done) | rfl | kernel_rfl) rfl rfl ?_)
              intro wd305 v306 S307 hL
              refine OW.cons (OP.val (v := (.pointer (some ⟨b1, 0, none⟩))) rfl (x_move) ?_)
              obtain ⟨x308, hx309, hm⟩ := bndE hm
              refine OW.cons (OP.call rfl (x_call (vs := [(.pointer (some ⟨b1, 0, none⟩)), (.int .i64 3)]) Try_C68 ⟨rfl, rfl, trivial⟩) (M.spec_l01Next_ok _ (Src.mk a0.code x192.2.1 x192.2.2) (hL.exZ 5 4 (by decide) rfl rfl h3) (hL.get 4 rfl) 3 hx309) ?_)
              rintro e310 wd311 ⟨rfl, hF312⟩
              refine ⟨_, rfl, ?_⟩
              have hL := hL.mut 4 rfl hF312
              simp only [lA, lB, lC, lD] at hL
              obtain ⟨x313, ha314, hm⟩ := bndE hm
              obtain ⟨hz315, ha319⟩ := idxE ha314
              obtain ⟨b316, q317, hix318⟩ := rdL_ix (hL.rdO 0 rfl) hz315 ha319
              refine OW.cons (OP.val (v := (.pointer (some ⟨b316, q317, none⟩))) rfl (x_ix Try.underlying61 Try_T2 rfl rfl hix318) ?_)
              refine OW.cons (OP.val (v := (.int .i64 x313)) rfl (x_load1 Try.underlying2 rfl rfl (rdF_cells (hL.rdO 0 rfl) hix318 ha319 0 _ rfl)) ?_)
              refine OW.cons (OP.val (v := (.pointer (some ⟨b191, 3, none⟩))) rfl (x_fieldAddr (fsz := 1) 0 3 3 Try.underlying48 rfl Try_T2 rfl rfl rfl) ?_)
              refine OW.cons (S_store (cs' := #[(.int .i64 x31.1), (.int .i64 x38.1), (.int .i64 (w64 (1 + x192.1))), (.int .i64 x313)]) hL 1 rfl Try_T2 rfl rfl rfl rfl rfl ?_)
              intro wd320 hL
              refine OW.nil ?_
              have hL := hL.sel [1, 2, 3, 4, 5] (by decide) rfl
              exact ⟨(x308.2.1, x308.2.2, x313), hm, ⟨rfl, rfl, hL⟩⟩
            · refine CW.seq ?_
              refine CW.regionL ?_
              refine OW.cons (OP.val (v := (.bool ((w64 (1 + x192.1)) == 2))) rfl (x_eql rfl rfl) ?_)
              refine OW.cons (OP.val (v := (.bool ((w64 (1 + x192.1)) == 2))) rfl (x_assign) ?_)
              refine OW.nil ?_
              refine CW.condM (t := (w64 (1 + x192.1)) == 2) rfl hm (fun hb321 hm => ?_) (fun hb321 hm => ?_)
              · refine CW.regionL ?_
                refine OW.cons (OP.val (v := (.pointer (some ⟨b1, 0, none⟩))) rfl (x_move) ?_)
                obtain ⟨x322, hx323, hm⟩ := bndE hm
                refine OW.cons (OP.call rfl (x_call (vs := [(.pointer (some ⟨b1, 0, none⟩)), (.int .i64 8)]) Try_C68 ⟨rfl, rfl, trivial⟩) (M.spec_l01Next_ok _ (Src.mk a0.code x192.2.1 x192.2.2) (hL.exZ 4 3 (by decide) rfl rfl h3) (hL.get 3 rfl) 8 hx323) ?_)
                rintro e324 wd325 ⟨rfl, hF326⟩
                refine ⟨_, rfl, ?_⟩
                have hL := hL.mut 3 rfl hF326
                simp only [lA, lB, lC, lD] at hL
                refine OW.cons (OP.val (v := (.int .i64 (w64 (1 + x322.1)))) rfl (x_add rfl rfl) ?_)
                refine OW.cons (OP.val (v := (.pointer (some ⟨b191, 3, none⟩))) rfl (x_fieldAddr (fsz := 1) 0 3 3 Try.underlying48 rfl Try_T2 rfl rfl rfl) ?_)
                refine OW.cons (S_store (cs' := #[(.int .i64 x31.1), (.int .i64 x38.1), (.int .i64 (w64 (1 + x192.1))), (.int .i64 (w64 (1 + x322.1)))]) hL 0 rfl Try_T2 rfl rfl rfl rfl rfl ?_)
                intro wd327 hL
                refine OW.nil ?_
                exact ⟨(x322.2.1, x322.2.2, w64 (1 + x322.1)), hm, ⟨rfl, rfl, hL⟩⟩
              · refine CW.seq ?_
                refine CW.regionL ?_
                refine OW.cons (OP.val (v := (.bool ((w64 (1 + x192.1)) == 3))) rfl (x_eql rfl rfl) ?_)
                refine OW.cons (OP.val (v := (.bool ((w64 (1 + x192.1)) == 3))) rfl (x_assign) ?_)
                refine OW.nil ?_
                refine CW.condM (t := (w64 (1 + x192.1)) == 3) rfl hm (fun hb328 hm => ?_) (fun hb328 hm => ?_)
                · refine CW.regionL ?_
                  refine OW.cons (OP.val (v := (.pointer (some ⟨b1, 0, none⟩))) rfl (x_move) ?_)
                  obtain ⟨x329, hx330, hm⟩ := bndE hm
                  refine OW.cons (OP.call rfl (x_call (vs := [(.pointer (some ⟨b1, 0, none⟩)), (.int .i64 100)]) Try_C68 ⟨rfl, rfl, trivial⟩) (M.spec_l01Next_ok _ (Src.mk a0.code x192.2.1 x192.2.2) (hL.exZ 4 3 (by decide) rfl rfl h3) (hL.get 3 rfl) 100 hx330) ?_)
                  rintro e331 wd332 ⟨rfl, hF333⟩
                  refine ⟨_, rfl, ?_⟩
                  have hL := hL.mut 3 rfl hF333
                  simp only [lA, lB, lC, lD] at hL
                  refine OW.cons (OP.val (v := (.int .i64 (w64 (1 + x329.1)))) rfl (x_add rfl rfl) ?_)
                  refine OW.cons (OP.val (v := (.pointer (some ⟨b191, 3, none⟩))) rfl (x_fieldAddr (fsz := 1) 0 3 3 Try.underlying48 rfl Try_T2 rfl rfl rfl) ?_)
                  refine OW.cons (S_store (cs' := #[(.int .i64 x31.1), (.int .i64 x38.1), (.int .i64 (w64 (1 + x192.1))), (.int .i64 (w64 (1 + x329.1)))]) hL 0 rfl Try_T2 rfl rfl rfl rfl rfl ?_)
                  intro wd334 hL
                  refine OW.nil ?_
                  exact ⟨(x329.2.1, x329.2.2, w64 (1 + x329.1)), hm, ⟨rfl, rfl, hL⟩⟩
                · refine CW.skip ?_
                  exact ⟨(x192.2.1, x192.2.2, 0), hm, ⟨rfl, rfl, hL⟩⟩
          · intro s_j2 F300 wd301 hJ hm
            unfold M.spec_l21DrawPenalty_j2 at hm
            obtain ⟨f302, f303, hL⟩ := hJ
            exact ⟨(s_j2.1, s_j2.2.1, s_j2.2.2), hm, ⟨f302, f303, hL⟩⟩
        · intro s_j1 F264 wd265 hJ hm
          unfold M.spec_l21DrawPenalty_j1 at hm
          obtain ⟨f266, f267, hL⟩ := hJ
          refine CW.seq ?_
          refine CW.regionL ?_
          refine OW.cons (OP.val (v := (.agg #[(.int .i64 x31.1), (.int .i64 x38.1), (.int .i64 (w64 (1 + x192.1))), (.int .i64 s_j1.2.2)])) rfl (x_loadN (cs := [(.int .i64 x31.1), (.int .i64 x38.1), (.int .i64 (w64 (1 + x192.1))), (.int .i64 s_j1.2.2)]) Try.underlying48 Try_T48 rfl f267 (hL.cellsB 0 rfl (o := 0) (l := [(.int .i64 x31.1), (.int .i64 x38.1), (.int .i64 (w64 (1 + x192.1))), (.int .i64 s_j1.2.2)]) (by intro j u hj; exact (by simpa using hj)))) ?_)
          refine OW.cons (S_storeN (l := [(.int .i64 x31.1), (.int .i64 x38.1), (.int .i64 (w64 (1 + x192.1))), (.int .i64 s_j1.2.2)]) (cs' := #[(.int .i64 x31.1), (.int .i64 x38.1), (.int .i64 (w64 (1 + x192.1))), (.int .i64 s_j1.2.2)]) hL 1 rfl Try_T48 f266 rfl (List.forall_mem_cons.2 ⟨rfl, (List.forall_mem_cons.2 ⟨rfl, (List.forall_mem_cons.2 ⟨rfl, (List.forall_mem_cons.2 ⟨rfl, (fun _ h => by cases h)⟩)⟩)⟩)⟩) rfl (Nat.le_of_ble_eq_true rfl) rfl ?_)
          intro wd268 hL
          refine OW.nil ?_
          refine CW.ret ?_
          obtain rfl := Option.some.inj hm
          exact RRc rfl f266 (run_loadBlk Try.underlying48 Try_T48 (hL.get 1 rfl) rfl) ⟨rfl, hL.mutOut 4 rfl [3] (by decide) (by decide) rfl⟩
    · refine ⟨_, rfl, ?_⟩
      refine S_alloc (cs := #[(.int .i64 0), (.int .i64 0), (.int .i64 0), (.int .i64 0)]) hL Try_T48 rfl rfl ?_
      intro wd335 b336 hL
      refine ⟨(hL.sel [1, 2, 4] (by decide) rfl), ?_⟩
      obtain ⟨x337, hx338, hm⟩ := bndE hm
      refine DH.only 10 rfl (by kernel_rfl) (OP.call rfl (x_call (vs := [(.pointer (some ⟨b1, 0, none⟩)), (.int .i64 (max 1 a1.Boats))]) Try_C68 ⟨rfl, rfl, trivial⟩) (M.spec_l01Next_ok _ (Src.mk a0.code x31.2.1 x31.2.2) (hL.exZ 4 3 (by decide) rfl rfl h3) (hL.get 3 rfl) (max 1 a1.Boats) hx338) ?_)
      rintro e339 wd340 ⟨rfl, hF341⟩
      refine ⟨_, rfl, ?_⟩
      have hL := hL.mut 3 rfl hF341
      simp only [lA, lB, lC, lD] at hL
      refine ⟨(hL.sel [1, 2, 4] (by decide) rfl), ?_⟩
      obtain ⟨x342, hx343, hm⟩ := bndE hm
      refine DH.only 12 rfl (by kernel_rfl) (OP.call rfl (x_call (vs := [(.pointer (some ⟨b1, 0, none⟩)), (.int .i64 3)]) Try_C68 ⟨rfl, rfl, trivial⟩) (M.spec_l01Next_ok _ (Src.mk a0.code x337.2.1 x337.2.2) (hL.exZ 4 3 (by decide) rfl rfl h3) (hL.get 3 rfl) 3 hx343) ?_)
      rintro e344 wd345 ⟨rfl, hF346⟩
      refine ⟨_, rfl, ?_⟩
      have hL := hL.mut 3 rfl hF346
      simp only [lA, lB, lC, lD] at hL
      refine ⟨(hL.sel [1, 2, 4] (by decide) rfl), ?_⟩
      have hS := (hL.sel [1, 2, 4] (by decide) rfl)
      refine DH.take 13 rfl (by kernel_rfl) (by kernel_rfl) (by kernel_rfl) rfl rfl hS (YH.val (v := (.int .i64 (w64 (1 + x342.1)))) (fun w' hS' => x_add rfl rfl)) ?_
      have hS := (hL.sel [1, 2, 4] (by decide) rfl)
      refine DH.take 14 rfl (by kernel_rfl) (by kernel_rfl) (by kernel_rfl) rfl rfl hS (YH.val (v := (.agg #[(.int .i64 x31.1), (.int .i64 x337.1), (.int .i64 (w64 (1 + x342.1))), (.int .i64 0)])) (fun w' hS' => x_build Try_B48 (ps := [(0, (.int .i64 x31.1)), (1, (.int .i64 x337.1)), (2, (.int .i64 (w64 (1 + x342.1))))]) ⟨⟨rfl, rfl⟩, ⟨rfl, rfl⟩, ⟨rfl, rfl⟩, trivial⟩ (by simp [Instr.fill, cells_int, cells_bool, cells_string, cells_agg, cells_slice, cells_pointer]))) ?_
      refine DH.only 16 rfl (by kernel_rfl) (S_storeN (l := [(.int .i64 x31.1), (.int .i64 x337.1), (.int .i64 (w64 (1 + x342.1))), (.int .i64 0)]) (cs' := #[(.int .i64 x31.1), (.int .i64 x337.1), (.int .i64 (w64 (1 + x342.1))), (.int .i64 0)]) hL 0 rfl Try_T48 rfl rfl (List.forall_mem_cons.2 ⟨rfl, (List.forall_mem_cons.2 ⟨rfl, (List.forall_mem_cons.2 ⟨rfl, (List.forall_mem_cons.2 ⟨rfl, (fun _ h => by cases h)⟩)⟩)⟩)⟩) rfl (Nat.le_of_ble_eq_true rfl) rfl ?_)
      intro wd347 hL
      refine ⟨(hL.sel [1, 2, 4] (by decide) rfl), ?_⟩
      refine DH.done (by kernel_rfl) ?_
      refine CW.seqJ (fun (s_j1 : Int × Int × Int) (F : Fr) (w : World) => F 4 = (.pointer (some ⟨b10, 0, none⟩)) ∧ F 5 = (.pointer (some ⟨b336, 0, none⟩)) ∧ Hp w0 [Ent.blk b336 48 #[(.int .i64 x31.1), (.int .i64 x337.1), (.int .i64 (w64 (1 + x342.1))), (.int .i64 s_j1.2.2)], Ent.blk b10 48 #[(.int .i64 0), (.int .i64 0), (.int .i64 0), (.int .i64 0)], Ent.blk b8 31 #[(.int .i64 a1.Boats), (.int .i64 a1.Scheme), v5], Ent.blk b1 94 #[v2, (.int .i64 s_j1.1), (.int .i64 s_j1.2.1)], Ent.frz w0 (Ent.blk b1 94 #[v2, .int .i64 a0.at_, .int .i64 a0.seed]).S] w) (fun s_j1 => M.spec_l21DrawPenalty_j1 x31 x337 x342 s_j1 = some r) ?_ ?_
      · refine CW.seq ?_
        refine CW.regionL ?_
        refine OW.cons (OP.val (v := (.pointer (some ⟨b336, 2, none⟩))) rfl (x_fieldAddr (fsz := 1) 0 2 2 Try.underlying48 rfl Try_T2 rfl rfl rfl) ?_)
        refine OW.cons (OP.val (v := (.int .i64 (w64 (1 + x342.1)))) rfl (x_load1 Try.underlying2 rfl rfl (hL.cellB 0 rfl rfl)) ?_)
        refine OW.nil ?_
        refine CW.blockJ (fun (s_j2 : Int × Int × Int) (F : Fr) (w : World) => F 4 = (.pointer (some ⟨b10, 0, none⟩)) ∧ F 5 = (.pointer (some ⟨b336, 0, none⟩)) ∧ Hp w0 [Ent.blk b336 48 #[(.int .i64 x31.1), (.int .i64 x337.1), (.int .i64 (w64 (1 + x342.1))), (.int .i64 s_j2.2.2)], Ent.blk b10 48 #[(.int .i64 0), (.int .i64 0), (.int .i64 0), (.int .i64 0)], Ent.blk b8 31 #[(.int .i64 a1.Boats), (.int .i64 a1.Scheme), v5], Ent.blk b1 94 #[v2, (.int .i64 s_j2.1), (.int .i64 s_j2.2.1)], Ent.frz w0 (Ent.blk b1 94 #[v2, .int .i64 a0.at_, .int .i64 a0.seed]).S] w) (fun s_j2 => M.spec_l21DrawPenalty_j2 x31 x337 x342 s_j2 = some r) ?_ ?_
        · refine CW.seq ?_
          refine CW.regionL ?_
          refine OW.cons (OP.val (v := (.bool ((w64 (1 + x342.1)) == 1))) rfl (x_eql rfl rfl) ?_)
          refine OW.cons (OP.val (v := (.bool ((w64 (1 + x342.1)) == 1))) rfl (x_assign) ?_)
          refine OW.nil ?_
          refine CW.condM (t := (w64 (1 + x342.1)) == 1) rfl hm (fun hb454 hm => ?_) (fun hb454 hm => ?_)
          · refine CW.regionL ?_
            refine OW.cons (S_lit ([6, 7, 5] : List Int) hL Try.underlying61 Try_T2 rfl (by decide) (by first | (simp [Instr.fill, madeCells, Value.cells, ev, upd, Flat.enc, Flat.sz]; done) | rfl | kernel_rfl) rfl rfl ?_)
            intro wd455 v456 S457 hL
            refine OW.cons (OP.val (v := (.pointer (some ⟨b1, 0, none⟩))) rfl (x_move) ?_)
            obtain ⟨x458, hx459, hm⟩ := bndE hm
            refine OW.cons (OP.call rfl (x_call (vs := [(.pointer (some ⟨b1, 0, none⟩)), (.int .i64 3)]) Try_C68 ⟨rfl, rfl, trivial⟩) (M.spec_l01Next_ok _ (Src.mk a0.code x342.2.1 x342.2.2) (hL.exZ 5 4 (by decide) rfl rfl h3) (hL.get 4 rfl) 3 hx459) ?_)
            rintro e460 wd461 ⟨rfl, hF462⟩
            refine ⟨_, rfl, ?_⟩
            have hL := hL.mut 4 rfl hF462
            simp only [lA, lB, lC, lD] at hL
            obtain ⟨x463, ha464, hm⟩ := bndE hm
            obtain ⟨hz465, ha469⟩ := idxE ha464
            obtain ⟨b466, q467, hix468⟩ := rdL_ix (hL.rdO 0 rfl) hz465 ha469
            refine OW.cons (OP.val (v := (.pointer (some ⟨b466, q467, none⟩))) rfl (x_ix Try.underlying61 Try_T2 rfl rfl hix468) ?_)
            refine OW.cons (OP.val (v := (.int .i64 x463)) rfl (x_load1 Try.underlying2 rfl rfl (rdF_cells (hL.rdO 0 rfl) hix468 ha469 0 _ rfl)) ?_)
            refine OW.cons (OP.val (v := (.pointer (some ⟨b336, 3, none⟩))) rfl (x_fieldAddr (fsz := 1) 0 3 3 Try.underlying48 rfl Try_T2 rfl rfl rfl) ?_)
            refine OW.cons (S_store (cs' := #[(.int .i64 x31.1), (.int .i64 x337.1), (.int .i64 (w64 (1 + x342.1))), (.int .i64 x463)]) hL 1 rfl Try_T2 rfl rfl rfl rfl rfl ?_)
            intro wd470 hL
            refine OW.nil ?_
            have hL := hL.sel [1, 2, 3, 4, 5] (by decide) rfl
            exact ⟨(x458.2.1, x458.2.2, x463), hm, ⟨rfl, rfl, hL⟩⟩
          · refine CW.seq ?_
            refine CW.regionL ?_
            refine OW.cons (OP.val (v := (.bool ((w64 (1 + x342.1)) == 2))) rfl (x_eql rfl rfl) ?_)
            refine OW.cons (OP.val (v := (.bool ((w64 (1 + x342.1)) == 2))) rfl (x_assign) ?_)
            refine OW.nil ?_
            refine CW.condM (t := (w64 (1 + x342.1)) == 2) rfl hm (fun hb471 hm => ?_) (fun hb471 hm => ?_)
            · refine CW.regionL ?_
              refine OW.cons (OP.val (v := (.pointer (some ⟨b1, 0, none⟩))) rfl (x_move) ?_)
              obtain ⟨x472, hx473, hm⟩ := bndE hm
              refine OW.cons (OP.call rfl (x_call (vs := [(.pointer (some ⟨b1, 0, none⟩)), (.int .i64 8)]) Try_C68 ⟨rfl, rfl, trivial⟩) (M.spec_l01Next_ok _ (Src.mk a0.code x342.2.1 x342.2.2) (hL.exZ 4 3 (by decide) rfl rfl h3) (hL.get 3 rfl) 8 hx473) ?_)
              rintro e474 wd475 ⟨rfl, hF476⟩
              refine ⟨_, rfl, ?_⟩
              have hL := hL.mut 3 rfl hF476
              simp only [lA, lB, lC, lD] at hL
              refine OW.cons (OP.val (v := (.int .i64 (w64 (1 + x472.1)))) rfl (x_add rfl rfl) ?_)
              refine OW.cons (OP.val (v := (.pointer (some ⟨b336, 3, none⟩))) rfl (x_fieldAddr (fsz := 1) 0 3 3 Try.underlying48 rfl Try_T2 rfl rfl rfl) ?_)
              refine OW.cons (S_store (cs' := #[(.int .i64 x31.1), (.int .i64 x337.1), (.int .i64 (w64 (1 + x342.1))), (.int .i64 (w64 (1 + x472.1)))]) hL 0 rfl Try_T2 rfl rfl rfl rfl rfl ?_)
              intro wd477 hL
              refine OW.nil ?_
              exact ⟨(x472.2.1, x472.2.2, w64 (1 + x472.1)), hm, ⟨rfl, rfl, hL⟩⟩
            · refine CW.seq ?_
              refine CW.regionL ?_
              refine OW.cons (OP.val (v := (.bool ((w64 (1 + x342.1)) == 3))) rfl (x_eql rfl rfl) ?_)
              refine OW.cons (OP.val (v := (.bool ((w64 (1 + x342.1)) == 3))) rfl (x_assign) ?_)
              refine OW.nil ?_
              refine CW.condM (t := (w64 (1 + x342.1)) == 3) rfl hm (fun hb478 hm => ?_) (fun hb478 hm => ?_)
              · refine CW.regionL ?_
                refine OW.cons (OP.val (v := (.pointer (some ⟨b1, 0, none⟩))) rfl (x_move) ?_)
                obtain ⟨x479, hx480, hm⟩ := bndE hm
                refine OW.cons (OP.call rfl (x_call (vs := [(.pointer (some ⟨b1, 0, none⟩)), (.int .i64 100)]) Try_C68 ⟨rfl, rfl, trivial⟩) (M.spec_l01Next_ok _ (Src.mk a0.code x342.2.1 x342.2.2) (hL.exZ 4 3 (by decide) rfl rfl h3) (hL.get 3 rfl) 100 hx480) ?_)
                rintro e481 wd482 ⟨rfl, hF483⟩
                refine ⟨_, rfl, ?_⟩
                have hL := hL.mut 3 rfl hF483
                simp only [lA, lB, lC, lD] at hL
                refine OW.cons (OP.val (v := (.int .i64 (w64 (1 + x479.1)))) rfl (x_add rfl rfl) ?_)
                refine OW.cons (OP.val (v := (.pointer (some ⟨b336, 3, none⟩))) rfl (x_fieldAddr (fsz := 1) 0 3 3 Try.underlying48 rfl Try_T2 rfl rfl rfl) ?_)
                refine OW.cons (S_store (cs' := #[(.int .i64 x31.1), (.int .i64 x337.1), (.int .i64 (w64 (1 + x342.1))), (.int .i64 (w64 (1 + x479.1)))]) hL 0 rfl Try_T2 rfl rfl rfl rfl rfl ?_)
                intro wd484 hL
                refine OW.nil ?_
                exact ⟨(x479.2.1, x479.2.2, w64 (1 + x479.1)), hm, ⟨rfl, rfl, hL⟩⟩
              · refine CW.skip ?_
                exact ⟨(x342.2.1, x342.2.2, 0), hm, ⟨rfl, rfl, hL⟩⟩
        · intro s_j2 F450 wd451 hJ hm
          unfold M.spec_l21DrawPenalty_j2 at hm
          obtain ⟨f452, f453, hL⟩ := hJ
          exact ⟨(s_j2.1, s_j2.2.1, s_j2.2.2), hm, ⟨f452, f453, hL⟩⟩
      · intro s_j1 F414 wd415 hJ hm
        unfold M.spec_l21DrawPenalty_j1 at hm
        obtain ⟨f416, f417, hL⟩ := hJ
        refine CW.seq ?_
        refine CW.regionL ?_
        refine OW.cons (OP.val (v := (.agg #[(.int .i64 x31.1), (.int .i64 x337.1), (.int .i64 (w64 (1 + x342.1))), (.int .i64 s_j1.2.2)])) rfl (x_loadN (cs := [(.int .i64 x31.1), (.int .i64 x337.1), (.int .i64 (w64 (1 + x342.1))), (.int .i64 s_j1.2.2)]) Try.underlying48 Try_T48 rfl f417 (hL.cellsB 0 rfl (o := 0) (l := [(.int .i64 x31.1), (.int .i64 x337.1), (.int .i64 (w64 (1 + x342.1))), (.int .i64 s_j1.2.2)]) (by intro j u hj; exact (by simpa using hj)))) ?_)
        refine OW.cons (S_storeN (l := [(.int .i64 x31.1), (.int .i64 x337.1), (.int .i64 (w64 (1 + x342.1))), (.int .i64 s_j1.2.2)]) (cs' := #[(.int .i64 x31.1), (.int .i64 x337.1), (.int .i64 (w64 (1 + x342.1))), (.int .i64 s_j1.2.2)]) hL 1 rfl Try_T48 f416 rfl (List.forall_mem_cons.2 ⟨rfl, (List.forall_mem_cons.2 ⟨rfl, (List.forall_mem_cons.2 ⟨rfl, (List.forall_mem_cons.2 ⟨rfl, (fun _ h => by cases h)⟩)⟩)⟩)⟩) rfl (Nat.le_of_ble_eq_true rfl) rfl ?_)
        intro wd418 hL
        refine OW.nil ?_
        refine CW.ret ?_
        obtain rfl := Option.some.inj hm
        exact RRc rfl f416 (run_loadBlk Try.underlying48 Try_T48 (hL.get 1 rfl) rfl) ⟨rfl, hL.mutOut 4 rfl [3] (by decide) (by decide) rfl⟩
  · refine ⟨_, rfl, ?_⟩
    refine S_alloc (cs := #[(.int .i64 0), (.int .i64 0), (.int .i64 0), (.int .i64 0)]) hL Try_T48 rfl rfl ?_
    intro wd485 b486 hL
    refine ⟨(hL.sel [1, 2, 4] (by decide) rfl), ?_⟩
    obtain ⟨x487, hx488, hm⟩ := bndE hm
    refine DH.only 5 rfl (by kernel_rfl) (OP.call rfl (x_call (vs := [(.pointer (some ⟨b1, 0, none⟩)), (.int .i64 (max 1 (a1.Races.length : Int)))]) Try_C68 ⟨rfl, rfl, trivial⟩) (M.spec_l01Next_ok _ (Src.mk a0.code a0.at_ a0.seed) (hL.exZ 4 3 (by decide) rfl rfl h3) (hL.get 3 rfl) (max 1 (a1.Races.length : Int)) hx488) ?_)
    rintro e489 wd490 ⟨rfl, hF491⟩
    refine ⟨_, rfl, ?_⟩
    have hL := hL.mut 3 rfl hF491
    simp only [lA, lB, lC, lD] at hL
    refine ⟨(hL.sel [1, 2, 4] (by decide) rfl), ?_⟩
    obtain ⟨x492, hx493, hm⟩ := bndE hm
    refine DH.only 10 rfl (by kernel_rfl) (OP.call rfl (x_call (vs := [(.pointer (some ⟨b1, 0, none⟩)), (.int .i64 (max 1 a1.Boats))]) Try_C68 ⟨rfl, rfl, trivial⟩) (M.spec_l01Next_ok _ (Src.mk a0.code x487.2.1 x487.2.2) (hL.exZ 4 3 (by decide) rfl rfl h3) (hL.get 3 rfl) (max 1 a1.Boats) hx493) ?_)
    rintro e494 wd495 ⟨rfl, hF496⟩
    refine ⟨_, rfl, ?_⟩
    have hL := hL.mut 3 rfl hF496
    simp only [lA, lB, lC, lD] at hL
    refine ⟨(hL.sel [1, 2, 4] (by decide) rfl), ?_⟩
    obtain ⟨x497, hx498, hm⟩ := bndE hm
    refine DH.only 12 rfl (by kernel_rfl) (OP.call rfl (x_call (vs := [(.pointer (some ⟨b1, 0, none⟩)), (.int .i64 3)]) Try_C68 ⟨rfl, rfl, trivial⟩) (M.spec_l01Next_ok _ (Src.mk a0.code x492.2.1 x492.2.2) (hL.exZ 4 3 (by decide) rfl rfl h3) (hL.get 3 rfl) 3 hx498) ?_)
    rintro e499 wd500 ⟨rfl, hF501⟩
    refine ⟨_, rfl, ?_⟩
    have hL := hL.mut 3 rfl hF501
    simp only [lA, lB, lC, lD] at hL
    refine ⟨(hL.sel [1, 2, 4] (by decide) rfl), ?_⟩
    have hS := (hL.sel [1, 2, 4] (by decide) rfl)
    refine DH.take 13 rfl (by kernel_rfl) (by kernel_rfl) (by kernel_rfl) rfl rfl hS (YH.val (v := (.int .i64 (w64 (1 + x497.1)))) (fun w' hS' => x_add rfl rfl)) ?_
    have hS := (hL.sel [1, 2, 4] (by decide) rfl)
    refine DH.take 14 rfl (by kernel_rfl) (by kernel_rfl) (by kernel_rfl) rfl rfl hS (YH.val (v := (.agg #[(.int .i64 x487.1), (.int .i64 x492.1), (.int .i64 (w64 (1 + x497.1))), (.int .i64 0)])) (fun w' hS' => x_build Try_B48 (ps := [(0, (.int .i64 x487.1)), (1, (.int .i64 x492.1)), (2, (.int .i64 (w64 (1 + x497.1))))]) ⟨⟨rfl, rfl⟩, ⟨rfl, rfl⟩, ⟨rfl, rfl⟩, trivial⟩ (by simp [Instr.fill, cells_int, cells_bool, cells_string, cells_agg, cells_slice, cells_pointer]))) ?_
    refine DH.only 16 rfl (by kernel_rfl) (S_storeN (l := [(.int .i64 x487.1), (.int .i64 x492.1), (.int .i64 (w64 (1 + x497.1))), (.int .i64 0)]) (cs' := #[(.int .i64 x487.1), (.int .i64 x492.1), (.int .i64 (w64 (1 + x497.1))), (.int .i64 0)]) hL 0 rfl Try_T48 rfl rfl (List.forall_mem_cons.2 ⟨rfl, (List.forall_mem_cons.2 ⟨rfl, (List.forall_mem_cons.2 ⟨rfl, (List.forall_mem_cons.2 ⟨rfl, (fun _ h => by cases h)⟩)⟩)⟩)⟩) rfl (Nat.le_of_ble_eq_true rfl) rfl ?_)
    intro wd502 hL
    refine ⟨(hL.sel [1, 2, 4] (by decide) rfl), ?_⟩
    refine DH.done (by kernel_rfl) ?_
    refine CW.seqJ (fun (s_j1 : Int × Int × Int) (F : Fr) (w : World) => F 4 = (.pointer (some ⟨b10, 0, none⟩)) ∧ F 5 = (.pointer (some ⟨b486, 0, none⟩)) ∧ Hp w0 [Ent.blk b486 48 #[(.int .i64 x487.1), (.int .i64 x492.1), (.int .i64 (w64 (1 + x497.1))), (.int .i64 s_j1.2.2)], Ent.blk b10 48 #[(.int .i64 0), (.int .i64 0), (.int .i64 0), (.int .i64 0)], Ent.blk b8 31 #[(.int .i64 a1.Boats), (.int .i64 a1.Scheme), v5], Ent.blk b1 94 #[v2, (.int .i64 s_j1.1), (.int .i64 s_j1.2.1)], Ent.frz w0 (Ent.blk b1 94 #[v2, .int .i64 a0.at_, .int .i64 a0.seed]).S] w) (fun s_j1 => M.spec_l21DrawPenalty_j1 x487 x492 x497 s_j1 = some r) ?_ ?_
    · refine CW.seq ?_
      refine CW.regionL ?_
      refine OW.cons (OP.val (v := (.pointer (some ⟨b486, 2, none⟩))) rfl (x_fieldAddr (fsz := 1) 0 2 2 Try.underlying48 rfl Try_T2 rfl rfl rfl) ?_)
      refine OW.cons (OP.val (v := (.int .i64 (w64 (1 + x497.1)))) rfl (x_load1 Try.underlying2 rfl rfl (hL.cellB 0 rfl rfl)) ?_)
      refine OW.nil ?_
      refine CW.blockJ (fun (s_j2 : Int × Int × Int) (F : Fr) (w : World) => F 4 = (.pointer (some ⟨b10, 0, none⟩)) ∧ F 5 = (.pointer (some ⟨b486, 0, none⟩)) ∧ Hp w0 [Ent.blk b486 48 #[(.int .i64 x487.1), (.int .i64 x492.1), (.int .i64 (w64 (1 + x497.1))), (.int .i64 s_j2.2.2)], Ent.blk b10 48 #[(.int .i64 0), (.int .i64 0), (.int .i64 0), (.int .i64 0)], Ent.blk b8 31 #[(.int .i64 a1.Boats), (.int .i64 a1.Scheme), v5], Ent.blk b1 94 #[v2, (.int .i64 s_j2.1), (.int .i64 s_j2.2.1)], Ent.frz w0 (Ent.blk b1 94 #[v2, .int .i64 a0.at_, .int .i64 a0.seed]).S] w) (fun s_j2 => M.spec_l21DrawPenalty_j2 x487 x492 x497 s_j2 = some r) ?_ ?_
      · refine CW.seq ?_
        refine CW.regionL ?_
        refine OW.cons (OP.val (v := (.bool ((w64 (1 + x497.1)) == 1))) rfl (x_eql rfl rfl) ?_)
        refine OW.cons (OP.val (v := (.bool ((w64 (1 + x497.1)) == 1))) rfl (x_assign) ?_)
        refine OW.nil ?_
        refine CW.condM (t := (w64 (1 + x497.1)) == 1) rfl hm (fun hb609 hm => ?_) (fun hb609 hm => ?_)
        · refine CW.regionL ?_
          refine OW.cons (S_lit ([6, 7, 5] : List Int) hL Try.underlying61 Try_T2 rfl (by decide) (by first | (simp [Instr.fill, madeCells, Value.cells, ev, upd, Flat.enc, Flat.sz]; done) | rfl | kernel_rfl) rfl rfl ?_)
          intro wd610 v611 S612 hL
          refine OW.cons (OP.val (v := (.pointer (some ⟨b1, 0, none⟩))) rfl (x_move) ?_)
          obtain ⟨x613, hx614, hm⟩ := bndE hm
          refine OW.cons (OP.call rfl (x_call (vs := [(.pointer (some ⟨b1, 0, none⟩)), (.int .i64 3)]) Try_C68 ⟨rfl, rfl, trivial⟩) (M.spec_l01Next_ok _ (Src.mk a0.code x497.2.1 x497.2.2) (hL.exZ 5 4 (by decide) rfl rfl h3) (hL.get 4 rfl) 3 hx614) ?_)
          rintro e615 wd616 ⟨rfl, hF617⟩
          refine ⟨_, rfl, ?_⟩
          have hL := hL.mut 4 rfl hF617
          simp only [lA, lB, lC, lD] at hL
          obtain ⟨x618, ha619, hm⟩ := bndE hm
          obtain ⟨hz620, ha624⟩ := idxE ha619
          obtain ⟨b621, q622, hix623⟩ := rdL_ix (hL.rdO 0 rfl) hz620 ha624
          refine OW.cons (OP.val (v := (.pointer (some ⟨b621, q622, none⟩))) rfl (x_ix Try.underlying61 Try_T2 rfl rfl hix623) ?_)
          refine OW.cons (OP.val (v := (.int .i64 x618)) rfl (x_load1 Try.underlying2 rfl rfl (rdF_cells (hL.rdO 0 rfl) hix623 ha624 0 _ rfl)) ?_)
          refine OW.cons (OP.val (v := (.pointer (some ⟨b486, 3, none⟩))) rfl (x_fieldAddr (fsz := 1) 0 3 3 Try.underlying48 rfl Try_T2 rfl rfl rfl) ?_)
          refine OW.cons (S_store (cs' := #[(.int .i64 x487.1), (.int .i64 x492.1), (.int .i64 (w64 (1 + x497.1))), (.int .i64 x618)]) hL 1 rfl Try_T2 rfl rfl rfl rfl rfl ?_)
          intro wd625 hL
          refine OW.nil ?_
          have hL := hL.sel [1, 2, 3, 4, 5] (by decide) rfl
          exact ⟨(x613.2.1, x613.2.2, x618), hm, ⟨rfl, rfl, hL⟩⟩
        · refine CW.seq ?_
          refine CW.regionL ?_
          refine OW.cons (OP.val (v := (.bool ((w64 (1 + x497.1)) == 2))) rfl (x_eql rfl rfl) ?_)
          refine OW.cons (OP.val (v := (.bool ((w64 (1 + x497.1)) == 2))) rfl (x_assign) ?_)
          refine OW.nil ?_
          refine CW.condM (t := (w64 (1 + x497.1)) == 2) rfl hm (fun hb626 hm => ?_) (fun hb626 hm => ?_)
          · refine CW.regionL ?_
            refine OW.cons (OP.val (v := (.pointer (some ⟨b1, 0, none⟩))) rfl (x_move) ?_)
            obtain ⟨x627, hx628, hm⟩ := bndE hm
            refine OW.cons (OP.call rfl (x_call (vs := [(.pointer (some ⟨b1, 0, none⟩)), (.int .i64 8)]) Try_C68 ⟨rfl, rfl, trivial⟩) (M.spec_l01Next_ok _ (Src.mk a0.code x497.2.1 x497.2.2) (hL.exZ 4 3 (by decide) rfl rfl h3) (hL.get 3 rfl) 8 hx628) ?_)
            rintro e629 wd630 ⟨rfl, hF631⟩
            refine ⟨_, rfl, ?_⟩
            have hL := hL.mut 3 rfl hF631
            simp only [lA, lB, lC, lD] at hL
            refine OW.cons (OP.val (v := (.int .i64 (w64 (1 + x627.1)))) rfl (x_add rfl rfl) ?_)
            refine OW.cons (OP.val (v := (.pointer (some ⟨b486, 3, none⟩))) rfl (x_fieldAddr (fsz := 1) 0 3 3 Try.underlying48 rfl Try_T2 rfl rfl rfl) ?_)
            refine OW.cons (S_store (cs' := #[(.int .i64 x487.1), (.int .i64 x492.1), (.int .i64 (w64 (1 + x497.1))), (.int .i64 (w64 (1 + x627.1)))]) hL 0 rfl Try_T2 rfl rfl rfl rfl rfl ?_)
            intro wd632 hL
            refine OW.nil ?_
            exact ⟨(x627.2.1, x627.2.2, w64 (1 + x627.1)), hm, ⟨rfl, rfl, hL⟩⟩
          · refine CW.seq ?_
            refine CW.regionL ?_
            refine OW.cons (OP.val (v := (.bool ((w64 (1 + x497.1)) == 3))) rfl (x_eql rfl rfl) ?_)
            refine OW.cons (OP.val (v := (.bool ((w64 (1 + x497.1)) == 3))) rfl (x_assign) ?_)
            refine OW.nil ?_
            refine CW.condM (t := (w64 (1 + x497.1)) == 3) rfl hm (fun hb633 hm => ?_) (fun hb633 hm => ?_)
            · refine CW.regionL ?_
              refine OW.cons (OP.val (v := (.pointer (some ⟨b1, 0, none⟩))) rfl (x_move) ?_)
              obtain ⟨x634, hx635, hm⟩ := bndE hm
              refine OW.cons (OP.call rfl (x_call (vs := [(.pointer (some ⟨b1, 0, none⟩)), (.int .i64 100)]) Try_C68 ⟨rfl, rfl, trivial⟩) (M.spec_l01Next_ok _ (Src.mk a0.code x497.2.1 x497.2.2) (hL.exZ 4 3 (by decide) rfl rfl h3) (hL.get 3 rfl) 100 hx635) ?_)
              rintro e636 wd637 ⟨rfl, hF638⟩
              refine ⟨_, rfl, ?_⟩
              have hL := hL.mut 3 rfl hF638
              simp only [lA, lB, lC, lD] at hL
              refine OW.cons (OP.val (v := (.int .i64 (w64 (1 + x634.1)))) rfl (x_add rfl rfl) ?_)
              refine OW.cons (OP.val (v := (.pointer (some ⟨b486, 3, none⟩))) rfl (x_fieldAddr (fsz := 1) 0 3 3 Try.underlying48 rfl Try_T2 rfl rfl rfl) ?_)
              refine OW.cons (S_store (cs' := #[(.int .i64 x487.1), (.int .i64 x492.1), (.int .i64 (w64 (1 + x497.1))), (.int .i64 (w64 (1 + x634.1)))]) hL 0 rfl Try_T2 rfl rfl rfl rfl rfl ?_)
              intro wd639 hL
              refine OW.nil ?_
              exact ⟨(x634.2.1, x634.2.2, w64 (1 + x634.1)), hm, ⟨rfl, rfl, hL⟩⟩
            · refine CW.skip ?_
              exact ⟨(x497.2.1, x497.2.2, 0), hm, ⟨rfl, rfl, hL⟩⟩
      · intro s_j2 F605 wd606 hJ hm
        unfold M.spec_l21DrawPenalty_j2 at hm
        obtain ⟨f607, f608, hL⟩ := hJ
        exact ⟨(s_j2.1, s_j2.2.1, s_j2.2.2), hm, ⟨f607, f608, hL⟩⟩
    · intro s_j1 F569 wd570 hJ hm
      unfold M.spec_l21DrawPenalty_j1 at hm
      obtain ⟨f571, f572, hL⟩ := hJ
      refine CW.seq ?_
      refine CW.regionL ?_
      refine OW.cons (OP.val (v := (.agg #[(.int .i64 x487.1), (.int .i64 x492.1), (.int .i64 (w64 (1 + x497.1))), (.int .i64 s_j1.2.2)])) rfl (x_loadN (cs := [(.int .i64 x487.1), (.int .i64 x492.1), (.int .i64 (w64 (1 + x497.1))), (.int .i64 s_j1.2.2)]) Try.underlying48 Try_T48 rfl f572 (hL.cellsB 0 rfl (o := 0) (l := [(.int .i64 x487.1), (.int .i64 x492.1), (.int .i64 (w64 (1 + x497.1))), (.int .i64 s_j1.2.2)]) (by intro j u hj; exact (by simpa using hj)))) ?_)
      refine OW.cons (S_storeN (l := [(.int .i64 x487.1), (.int .i64 x492.1), (.int .i64 (w64 (1 + x497.1))), (.int .i64 s_j1.2.2)]) (cs' := #[(.int .i64 x487.1), (.int .i64 x492.1), (.int .i64 (w64 (1 + x497.1))), (.int .i64 s_j1.2.2)]) hL 1 rfl Try_T48 f571 rfl (List.forall_mem_cons.2 ⟨rfl, (List.forall_mem_cons.2 ⟨rfl, (List.forall_mem_cons.2 ⟨rfl, (List.forall_mem_cons.2 ⟨rfl, (fun _ h => by cases h)⟩)⟩)⟩)⟩) rfl (Nat.le_of_ble_eq_true rfl) rfl ?_)
      intro wd573 hL
      refine OW.nil ?_
      refine CW.ret ?_
      obtain rfl := Option.some.inj hm
      exact RRc rfl f571 (run_loadBlk Try.underlying48 Try_T48 (hL.get 1 rfl) rfl) ⟨rfl, hL.mutOut 4 rfl [3] (by decide) (by decide) rfl⟩

end Go.Proofs.Ytgelmamcinlahaa
