/- Links: each Go function returns what its model computes and leaves what was there. Printed by my generator. -/
import Derived.Test.YtblljgcbffkahaaMod2
import Derived.Test.YtblljgcbffkahaaProg
import Derived.KernelRfl
namespace Go.Proofs.Ytblljgcbffkahaa
set_option maxRecDepth 10000
open Go Go.RowKit Go.ChangeShapes Go.WideShapes
set_option linter.unusedVariables false
set_option linter.unusedSimpArgs false

theorem Try_mixed : Try.prog.follows .mixedOrders = true := by kernel_rfl
theorem Try_T2 : TyI Try.prog 2 1 8 (.int .i64 0) := by unfold TyI; kernel_rfl
theorem Try_T3 : TyI Try.prog 3 1 8 (.int .i64 0) := by unfold TyI; kernel_rfl
theorem Try_T5 : TyI Try.prog 5 1 1 (.int .u8 0) := by unfold TyI; kernel_rfl
theorem Try_T22 : TyI Try.prog 22 1 24 (.slice none 0 0) := by unfold TyI; kernel_rfl
theorem Try_T24 : TyI Try.prog 24 1 24 (.agg #[.slice none 0 0]) := by unfold TyI; kernel_rfl
theorem Try_T27 : TyI Try.prog 27 1 24 (.slice none 0 0) := by unfold TyI; kernel_rfl
theorem Try_T29 : TyI Try.prog 29 1 24 (.agg #[.slice none 0 0]) := by unfold TyI; kernel_rfl
theorem Try_T33 : TyI Try.prog 33 1 24 (.slice none 0 0) := by unfold TyI; kernel_rfl
theorem Try_T35 : TyI Try.prog 35 3 56 (.agg #[.int .i64 0, .slice none 0 0, .slice none 0 0]) := by unfold TyI; kernel_rfl
theorem Try_T38 : TyI Try.prog 38 3 56 (.agg #[.int .i64 0, .slice none 0 0, .slice none 0 0]) := by unfold TyI; kernel_rfl
theorem Try_T42 : TyI Try.prog 42 1 24 (.slice none 0 0) := by unfold TyI; kernel_rfl
theorem Try_T44 : TyI Try.prog 44 3 40 (.agg #[.int .i64 0, .int .i64 0, .slice none 0 0]) := by unfold TyI; kernel_rfl
theorem Try_T47 : TyI Try.prog 47 1 24 (.slice none 0 0) := by unfold TyI; kernel_rfl
theorem Try_T49 : TyI Try.prog 49 3 40 (.agg #[.int .i64 0, .int .i64 0, .slice none 0 0]) := by unfold TyI; kernel_rfl
theorem Try_T53 : TyI Try.prog 53 1 24 (.slice none 0 0) := by unfold TyI; kernel_rfl
theorem Try_T59 : TyI Try.prog 59 1 24 (.slice none 0 0) := by unfold TyI; kernel_rfl
theorem Try_T88 : TyI Try.prog 88 3 24 (.agg #[.int .i64 0, .int .i64 0, .int .i64 0]) := by unfold TyI; kernel_rfl
theorem Try_T105 : TyI Try.prog 105 3 24 (.agg #[.int .i64 0, .int .i64 0, .int .i64 0]) := by unfold TyI; kernel_rfl
theorem Try_B29 : BuildI Try.prog 29 [(0, 1)] #[.slice none 0 0] := by unfold BuildI; kernel_rfl
theorem Try_B38 : BuildI Try.prog 38 [(0, 1), (1, 1), (2, 1)] #[.int .i64 0, .slice none 0 0, .slice none 0 0] := by unfold BuildI; kernel_rfl
theorem Try_B49 : BuildI Try.prog 49 [(0, 1), (1, 1), (2, 1)] #[.int .i64 0, .int .i64 0, .slice none 0 0] := by unfold BuildI; kernel_rfl
theorem Try_B88 : BuildI Try.prog 88 [(0, 1), (1, 1), (2, 1)] #[.int .i64 0, .int .i64 0, .int .i64 0] := by unfold BuildI; kernel_rfl
theorem Try_B111 : BuildI Try.prog 111 [(0, 1), (1, 1), (2, 1)] #[.slice none 0 0, .int .i64 0, .int .i64 0] := by unfold BuildI; kernel_rfl
theorem Try_C13 : CallOK Try.prog 13 := ⟨_, _, Try.func13, rfl, by kernel_rfl⟩
theorem Try_C14 : CallOK Try.prog 14 := ⟨_, _, Try.func14, rfl, by kernel_rfl⟩
theorem Try_C15 : CallOK Try.prog 15 := ⟨_, _, Try.func15, rfl, by kernel_rfl⟩
theorem Try_C16 : CallOK Try.prog 16 := ⟨_, _, Try.func16, rfl, by kernel_rfl⟩
theorem Try_C17 : CallOK Try.prog 17 := ⟨_, _, Try.func17, rfl, by kernel_rfl⟩
theorem Try_C18 : CallOK Try.prog 18 := ⟨_, _, Try.func18, rfl, by kernel_rfl⟩
theorem Try_C19 : CallOK Try.prog 19 := ⟨_, _, Try.func19, rfl, by kernel_rfl⟩
theorem Try_C20 : CallOK Try.prog 20 := ⟨_, _, Try.func20, rfl, by kernel_rfl⟩
theorem Try_C21 : CallOK Try.prog 21 := ⟨_, _, Try.func21, rfl, by kernel_rfl⟩
theorem Try_C22 : CallOK Try.prog 22 := ⟨_, _, Try.func22, rfl, by kernel_rfl⟩
theorem Try_C23 : CallOK Try.prog 23 := ⟨_, _, Try.func23, rfl, by kernel_rfl⟩
theorem Try_C24 : CallOK Try.prog 24 := ⟨_, _, Try.func24, rfl, by kernel_rfl⟩
theorem Try_C25 : CallOK Try.prog 25 := ⟨_, _, Try.func25, rfl, by kernel_rfl⟩
theorem Try_C26 : CallOK Try.prog 26 := ⟨_, _, Try.func26, rfl, by kernel_rfl⟩
theorem Try_C27 : CallOK Try.prog 27 := ⟨_, _, Try.func27, rfl, by kernel_rfl⟩
theorem Try_C28 : CallOK Try.prog 28 := ⟨_, _, Try.func28, rfl, by kernel_rfl⟩
theorem Try_C29 : CallOK Try.prog 29 := ⟨_, _, Try.func29, rfl, by kernel_rfl⟩
theorem Try_C30 : CallOK Try.prog 30 := ⟨_, _, Try.func30, rfl, by kernel_rfl⟩
theorem Try_C31 : CallOK Try.prog 31 := ⟨_, _, Try.func31, rfl, by kernel_rfl⟩
theorem Try_C32 : CallOK Try.prog 32 := ⟨_, _, Try.func32, rfl, by kernel_rfl⟩
theorem Try_C33 : CallOK Try.prog 33 := ⟨_, _, Try.func33, rfl, by kernel_rfl⟩
theorem Try_C34 : CallOK Try.prog 34 := ⟨_, _, Try.func34, rfl, by kernel_rfl⟩
theorem Try_C35 : CallOK Try.prog 35 := ⟨_, _, Try.func35, rfl, by kernel_rfl⟩
theorem Try_C36 : CallOK Try.prog 36 := ⟨_, _, Try.func36, rfl, by kernel_rfl⟩
theorem Try_C37 : CallOK Try.prog 37 := ⟨_, _, Try.func37, rfl, by kernel_rfl⟩
theorem Try_C38 : CallOK Try.prog 38 := ⟨_, _, Try.func38, rfl, by kernel_rfl⟩
theorem Try_C39 : CallOK Try.prog 39 := ⟨_, _, Try.func39, rfl, by kernel_rfl⟩
theorem Try_C40 : CallOK Try.prog 40 := ⟨_, _, Try.func40, rfl, by kernel_rfl⟩
theorem Try_C41 : CallOK Try.prog 41 := ⟨_, _, Try.func41, rfl, by kernel_rfl⟩
theorem Try_C42 : CallOK Try.prog 42 := ⟨_, _, Try.func42, rfl, by kernel_rfl⟩
theorem Try_C43 : CallOK Try.prog 43 := ⟨_, _, Try.func43, rfl, by kernel_rfl⟩
theorem Try_C44 : CallOK Try.prog 44 := ⟨_, _, Try.func44, rfl, by kernel_rfl⟩
theorem Try_C45 : CallOK Try.prog 45 := ⟨_, _, Try.func45, rfl, by kernel_rfl⟩
theorem Try_C46 : CallOK Try.prog 46 := ⟨_, _, Try.func46, rfl, by kernel_rfl⟩
theorem Try_C47 : CallOK Try.prog 47 := ⟨_, _, Try.func47, rfl, by kernel_rfl⟩
theorem Try_C48 : CallOK Try.prog 48 := ⟨_, _, Try.func48, rfl, by kernel_rfl⟩
theorem Try_C49 : CallOK Try.prog 49 := ⟨_, _, Try.func49, rfl, by kernel_rfl⟩
theorem Try_C50 : CallOK Try.prog 50 := ⟨_, _, Try.func50, rfl, by kernel_rfl⟩
theorem Try_C51 : CallOK Try.prog 51 := ⟨_, _, Try.func51, rfl, by kernel_rfl⟩
theorem Try_C52 : CallOK Try.prog 52 := ⟨_, _, Try.func52, rfl, by kernel_rfl⟩
theorem Try_C53 : CallOK Try.prog 53 := ⟨_, _, Try.func53, rfl, by kernel_rfl⟩
theorem Try_C54 : CallOK Try.prog 54 := ⟨_, _, Try.func54, rfl, by kernel_rfl⟩
theorem Try_C55 : CallOK Try.prog 55 := ⟨_, _, Try.func55, rfl, by kernel_rfl⟩
theorem Try_C56 : CallOK Try.prog 56 := ⟨_, _, Try.func56, rfl, by kernel_rfl⟩
theorem Try_C57 : CallOK Try.prog 57 := ⟨_, _, Try.func57, rfl, by kernel_rfl⟩
theorem Try_C58 : CallOK Try.prog 58 := ⟨_, _, Try.func58, rfl, by kernel_rfl⟩
theorem Try_C59 : CallOK Try.prog 59 := ⟨_, _, Try.func59, rfl, by kernel_rfl⟩
theorem Try_C60 : CallOK Try.prog 60 := ⟨_, _, Try.func60, rfl, by kernel_rfl⟩
theorem Try_C61 : CallOK Try.prog 61 := ⟨_, _, Try.func61, rfl, by kernel_rfl⟩
theorem Try_C62 : CallOK Try.prog 62 := ⟨_, _, Try.func62, rfl, by kernel_rfl⟩
theorem Try_C63 : CallOK Try.prog 63 := ⟨_, _, Try.func63, rfl, by kernel_rfl⟩
theorem Try_C64 : CallOK Try.prog 64 := ⟨_, _, Try.func64, rfl, by kernel_rfl⟩
theorem Try_C65 : CallOK Try.prog 65 := ⟨_, _, Try.func65, rfl, by kernel_rfl⟩
theorem Try_C66 : CallOK Try.prog 66 := ⟨_, _, Try.func66, rfl, by kernel_rfl⟩
theorem Try_C67 : CallOK Try.prog 67 := ⟨_, _, Try.func67, rfl, by kernel_rfl⟩
theorem Try_C68 : CallOK Try.prog 68 := ⟨_, _, Try.func68, rfl, by kernel_rfl⟩
theorem Try_C69 : CallOK Try.prog 69 := ⟨_, _, Try.func69, rfl, by kernel_rfl⟩
theorem Try_C70 : CallOK Try.prog 70 := ⟨_, _, Try.func70, rfl, by kernel_rfl⟩
theorem Try_C71 : CallOK Try.prog 71 := ⟨_, _, Try.func71, rfl, by kernel_rfl⟩
theorem Try_C72 : CallOK Try.prog 72 := ⟨_, _, Try.func72, rfl, by kernel_rfl⟩
theorem Try_C73 : CallOK Try.prog 73 := ⟨_, _, Try.func73, rfl, by kernel_rfl⟩
theorem Try_C74 : CallOK Try.prog 74 := ⟨_, _, Try.func74, rfl, by kernel_rfl⟩
theorem Try_C75 : CallOK Try.prog 75 := ⟨_, _, Try.func75, rfl, by kernel_rfl⟩
theorem Try_C76 : CallOK Try.prog 76 := ⟨_, _, Try.func76, rfl, by kernel_rfl⟩
theorem Try_C77 : CallOK Try.prog 77 := ⟨_, _, Try.func77, rfl, by kernel_rfl⟩
theorem Try_C78 : CallOK Try.prog 78 := ⟨_, _, Try.func78, rfl, by kernel_rfl⟩
theorem Try_C79 : CallOK Try.prog 79 := ⟨_, _, Try.func79, rfl, by kernel_rfl⟩
theorem Try_C80 : CallOK Try.prog 80 := ⟨_, _, Try.func80, rfl, by kernel_rfl⟩
theorem Try_C81 : CallOK Try.prog 81 := ⟨_, _, Try.func81, rfl, by kernel_rfl⟩
theorem Try_C82 : CallOK Try.prog 82 := ⟨_, _, Try.func82, rfl, by kernel_rfl⟩
theorem Try_C83 : CallOK Try.prog 83 := ⟨_, _, Try.func83, rfl, by kernel_rfl⟩
theorem Try_C84 : CallOK Try.prog 84 := ⟨_, _, Try.func84, rfl, by kernel_rfl⟩
theorem Try_C85 : CallOK Try.prog 85 := ⟨_, _, Try.func85, rfl, by kernel_rfl⟩
theorem Try_C86 : CallOK Try.prog 86 := ⟨_, _, Try.func86, rfl, by kernel_rfl⟩
theorem Try_C87 : CallOK Try.prog 87 := ⟨_, _, Try.func87, rfl, by kernel_rfl⟩
theorem Try_C88 : CallOK Try.prog 88 := ⟨_, _, Try.func88, rfl, by kernel_rfl⟩
theorem Try_C89 : CallOK Try.prog 89 := ⟨_, _, Try.func89, rfl, by kernel_rfl⟩
theorem Try_C90 : CallOK Try.prog 90 := ⟨_, _, Try.func90, rfl, by kernel_rfl⟩
theorem Try_C91 : CallOK Try.prog 91 := ⟨_, _, Try.func91, rfl, by kernel_rfl⟩
theorem Try_C92 : CallOK Try.prog 92 := ⟨_, _, Try.func92, rfl, by kernel_rfl⟩
theorem Try_C93 : CallOK Try.prog 93 := ⟨_, _, Try.func93, rfl, by kernel_rfl⟩
theorem Try_C94 : CallOK Try.prog 94 := ⟨_, _, Try.func94, rfl, by kernel_rfl⟩
theorem Try_C95 : CallOK Try.prog 95 := ⟨_, _, Try.func95, rfl, by kernel_rfl⟩
theorem Try_C96 : CallOK Try.prog 96 := ⟨_, _, Try.func96, rfl, by kernel_rfl⟩
theorem Try_C97 : CallOK Try.prog 97 := ⟨_, _, Try.func97, rfl, by kernel_rfl⟩

theorem M.spec_l01In_ok (w0 : World) (a0 : Int) (a1 : Int) (a2 : Int) {r : Bool} (hm : M.spec_l01In a0 a1 a2 = some r) :
    Calls Try.prog 51 #[(.int .i64 a0), (.int .i64 a1), (.int .i64 a2)] w0 fun e w' => e = .returned (.bool r) ∧ Fresh w0 w' [] := by
  unfold M.spec_l01In at hm
  refine calls_CW (args := [(.int .i64 a0), (.int .i64 a1), (.int .i64 a2)]) Try.func51 rfl rfl rfl ?_
  have hL := Hp.start w0
  refine CW.seq ?_
  refine CW.regionL ?_
  refine OW.cons (OP.val (v := (.bool false)) rfl (x_assign) ?_)
  refine OW.nil ?_
  refine CW.seqJ (fun (s_j1 : Bool) (F : Fr) (w : World) => F 6 = (.bool s_j1) ∧ Hp w0 [Ent.snap w0 w0.heap.size] w) (fun s_j1 => M.spec_l01In_j1 s_j1 = some r) ?_ ?_
  · refine CW.regionL ?_
    refine OW.cons (OP.val (v := (.int .i64 a0)) rfl (x_move) ?_)
    refine OW.cons (OP.val (v := (.int .i64 a1)) rfl (x_move) ?_)
    refine OW.cons (OP.val (v := (.bool (decide (a1 ≤ a0)))) rfl (x_geq rfl rfl) ?_)
    refine OW.cons (OP.val (v := (.bool (decide (a1 ≤ a0)))) rfl (x_move) ?_)
    refine ifB_elim hm (fun hb5 hm => ?_) (fun hb5 hm => ?_)
    · refine OW.cons (OP.yes' rfl rfl hb5 (OP.val (v := (.int .i64 a0)) rfl (x_move) ?_))
      refine OW.cons (OP.yes' rfl rfl hb5 (OP.val (v := (.int .i64 a2)) rfl (x_move) ?_))
      refine OW.cons (OP.yes' rfl rfl hb5 (OP.val (v := (.bool (decide (a0 ≤ a2)))) rfl (x_leq rfl rfl) ?_))
      refine OW.cons (OP.val (v := (.bool (decide (a0 ≤ a2)))) rfl (x_pickT' rfl hb5 rfl) ?_)
      refine OW.cons (OP.val (v := (.bool (decide (a0 ≤ a2)))) rfl (x_assign) ?_)
      refine OW.nil ?_
      exact ⟨decide (a0 ≤ a2), hm, ⟨rfl, hL⟩⟩
    · refine OW.cons (OP.no' rfl rfl hb5 rfl ?_)
      refine OW.cons (OP.no' rfl rfl hb5 rfl ?_)
      refine OW.cons (OP.no' rfl rfl hb5 rfl ?_)
      refine OW.cons (OP.val (v := (.bool false)) rfl (x_pickF' rfl hb5 rfl) ?_)
      refine OW.cons (OP.val (v := (.bool false)) rfl (x_assign) ?_)
      refine OW.nil ?_
      exact ⟨false, hm, ⟨rfl, hL⟩⟩
  · intro s_j1 F2 wd3 hJ hm
    unfold M.spec_l01In_j1 at hm
    obtain ⟨f4, hL⟩ := hJ
    refine CW.ret ?_
    obtain rfl := Option.some.inj hm
    exact RR1 rfl f4 ⟨rfl, hL.fresh 0 rfl [] (by decide) (by decide) rfl⟩

theorem M.spec_l26Code_ok (w0 : World) (a0 : Int) {r : Bool} (hm : M.spec_l26Code a0 = some r) :
    Calls Try.prog 57 #[(.int .i64 a0)] w0 fun e w' => e = .returned (.bool r) ∧ Fresh w0 w' [] := by
  unfold M.spec_l26Code at hm
  refine calls_CW (args := [(.int .i64 a0)]) Try.func57 rfl rfl rfl ?_
  have hL := Hp.start w0
  refine CW.seq ?_
  refine CW.regionL ?_
  refine OW.cons (OP.val (v := (.bool false)) rfl (x_assign) ?_)
  refine OW.nil ?_
  refine CW.seq ?_
  refine CW.regionL ?_
  refine OW.cons (OP.val (v := (.int .i64 a0)) rfl (x_move) ?_)
  obtain ⟨x1, hx2, hm⟩ := bndE hm
  refine OW.cons (OP.call rfl (x_call (vs := [(.int .i64 a0), (.int .i64 0), (.int .i64 9)]) Try_C51 ⟨rfl, rfl, rfl, trivial⟩) (M.spec_l01In_ok _ a0 0 9 hx2) ?_)
  rintro e3 wd4 ⟨rfl, hF5⟩
  refine ⟨_, rfl, ?_⟩
  have hL := hL.pushAll hF5
  simp only [List.cons_append, List.nil_append, List.set_cons_zero, List.set_cons_succ] at hL
  refine OW.cons (OP.val (v := (.bool x1)) rfl (x_assign) ?_)
  refine OW.nil ?_
  refine CW.ret ?_
  obtain rfl := Option.some.inj hm
  exact RR1 rfl rfl ⟨rfl, hL.fresh 0 rfl [] (by decide) (by decide) rfl⟩

theorem M.impl_within_ok (w0 : World) (a0 : Int) (a1 : Int) (a2 : Int) {r : Bool} (hm : M.impl_within a0 a1 a2 = some r) :
    Calls Try.prog 59 #[(.int .i64 a0), (.int .i64 a1), (.int .i64 a2)] w0 fun e w' => e = .returned (.bool r) ∧ Fresh w0 w' [] := by
  unfold M.impl_within at hm
  refine calls_CW (args := [(.int .i64 a0), (.int .i64 a1), (.int .i64 a2)]) Try.func59 rfl rfl rfl ?_
  have hL := Hp.start w0
  refine CW.seq ?_
  refine CW.regionL ?_
  refine OW.cons (OP.val (v := (.bool false)) rfl (x_assign) ?_)
  refine OW.nil ?_
  refine CW.seqJ (fun (s_j1 : Bool) (F : Fr) (w : World) => F 6 = (.bool s_j1) ∧ Hp w0 [Ent.snap w0 w0.heap.size] w) (fun s_j1 => M.impl_within_j1 s_j1 = some r) ?_ ?_
  · refine CW.regionL ?_
    refine OW.cons (OP.val (v := (.int .i64 a0)) rfl (x_move) ?_)
    refine OW.cons (OP.val (v := (.int .i64 a1)) rfl (x_move) ?_)
    refine OW.cons (OP.val (v := (.bool (decide (a1 ≤ a0)))) rfl (x_geq rfl rfl) ?_)
    refine OW.cons (OP.val (v := (.bool (decide (a1 ≤ a0)))) rfl (x_move) ?_)
    refine ifB_elim hm (fun hb5 hm => ?_) (fun hb5 hm => ?_)
    · refine OW.cons (OP.yes' rfl rfl hb5 (OP.val (v := (.int .i64 a0)) rfl (x_move) ?_))
      refine OW.cons (OP.yes' rfl rfl hb5 (OP.val (v := (.int .i64 a2)) rfl (x_move) ?_))
      refine OW.cons (OP.yes' rfl rfl hb5 (OP.val (v := (.bool (decide (a0 ≤ a2)))) rfl (x_leq rfl rfl) ?_))
      refine OW.cons (OP.val (v := (.bool (decide (a0 ≤ a2)))) rfl (x_pickT' rfl hb5 rfl) ?_)
      refine OW.cons (OP.val (v := (.bool (decide (a0 ≤ a2)))) rfl (x_assign) ?_)
      refine OW.nil ?_
      exact ⟨decide (a0 ≤ a2), hm, ⟨rfl, hL⟩⟩
    · refine OW.cons (OP.no' rfl rfl hb5 rfl ?_)
      refine OW.cons (OP.no' rfl rfl hb5 rfl ?_)
      refine OW.cons (OP.no' rfl rfl hb5 rfl ?_)
      refine OW.cons (OP.val (v := (.bool false)) rfl (x_pickF' rfl hb5 rfl) ?_)
      refine OW.cons (OP.val (v := (.bool false)) rfl (x_assign) ?_)
      refine OW.nil ?_
      exact ⟨false, hm, ⟨rfl, hL⟩⟩
  · intro s_j1 F2 wd3 hJ hm
    unfold M.impl_within_j1 at hm
    obtain ⟨f4, hL⟩ := hJ
    refine CW.ret ?_
    obtain rfl := Option.some.inj hm
    exact RR1 rfl f4 ⟨rfl, hL.fresh 0 rfl [] (by decide) (by decide) rfl⟩

theorem M.laws_szInt64S_ok (w0 : World) (a0 : List Int) {v1 : Value} (h2 : rdL (· < w0.heap.size) w0 v1 a0) (a1 : Int) {r : Int} (hm : M.laws_szInt64S a0 a1 = some r) :
    Calls Try.prog 86 #[v1, (.int .i64 a1)] w0 fun e w' => e = .returned (.int .i64 r) ∧ Fresh w0 w' [] := by
  unfold M.laws_szInt64S at hm
  refine calls_CW (args := [v1, (.int .i64 a1)]) Try.func86 rfl rfl rfl ?_
  have hL := Hp.start w0
  refine CW.seq ?_
  refine CW.regionL ?_
  refine OW.cons (OP.val (v := (.int .i64 0)) rfl (x_assign) ?_)
  refine OW.nil ?_
  refine CW.seq ?_
  refine CW.regionL ?_
  refine OW.cons (OP.val (v := (.int .i64 a1)) rfl (x_move) ?_)
  refine OW.cons (OP.val (v := v1) rfl (x_move) ?_)
  refine OW.cons (OP.val (v := (.int .i64 (a0.length : Int))) rfl (x_lenR Try.underlying53 rfl (hL.rdS 0 rfl h2)) ?_)
  refine OW.cons (OP.val (v := (.int .i64 (w64 (a1 - (a0.length : Int))))) rfl (x_sub rfl rfl) ?_)
  refine OW.cons (OP.val (v := (.int .i64 (w64 (a1 - (a0.length : Int))))) rfl (x_assign) ?_)
  refine OW.nil ?_
  refine CW.seq ?_
  refine CW.seq ?_
  refine CW.regionL ?_
  refine OW.cons (OP.val (v := (.int .i64 (w64 (a1 - (a0.length : Int))))) rfl (x_move) ?_)
  refine OW.cons (OP.val (v := (.bool (decide ((w64 (a1 - (a0.length : Int))) < 0)))) rfl (x_lss rfl rfl) ?_)
  refine OW.nil ?_
  refine CW.condM (t := decide ((w64 (a1 - (a0.length : Int))) < 0)) rfl hm (fun hb3 hm => ?_) (fun hb3 hm => ?_)
  · refine CW.seq ?_
    refine CW.regionL ?_
    refine OW.cons (OP.val (v := (.int .i64 (-1))) rfl (x_assign) ?_)
    refine OW.nil ?_
    refine CW.ret ?_
    obtain rfl := Option.some.inj hm
    exact RR1 rfl rfl ⟨rfl, hL.fresh 0 rfl [] (by decide) (by decide) rfl⟩
  · refine CW.skip ?_
    refine CW.seq ?_
    refine CW.regionL ?_
    refine OW.cons (OP.val (v := (.int .i64 (w64 (a1 - (a0.length : Int))))) rfl (x_move) ?_)
    refine OW.cons (OP.val (v := (.int .i64 (w64 (a1 - (a0.length : Int))))) rfl (x_assign) ?_)
    refine OW.nil ?_
    refine CW.ret ?_
    obtain rfl := Option.some.inj hm
    exact RR1 rfl rfl ⟨rfl, hL.fresh 0 rfl [] (by decide) (by decide) rfl⟩

theorem M.laws_szInt64SS_ok (w0 : World) (a0 : List (List Int)) {v1 : Value} (h2 : rdL (· < w0.heap.size) w0 v1 a0) (a1 : Int) {r : Int} (hm : M.laws_szInt64SS a0 a1 = some r) :
    Calls Try.prog 56 #[v1, (.int .i64 a1)] w0 fun e w' => e = .returned (.int .i64 r) ∧ Fresh w0 w' [] := by
  unfold M.laws_szInt64SS at hm
  refine calls_CW (args := [v1, (.int .i64 a1)]) Try.func56 rfl rfl rfl ?_
  have hL := Hp.start w0
  refine CW.seq ?_
  refine CW.regionL ?_
  refine OW.cons (OP.val (v := (.int .i64 0)) rfl (x_assign) ?_)
  refine OW.nil ?_
  refine CW.seq ?_
  refine CW.regionL ?_
  refine OW.cons (OP.val (v := (.int .i64 a1)) rfl (x_move) ?_)
  refine OW.cons (OP.val (v := v1) rfl (x_move) ?_)
  refine OW.cons (OP.val (v := (.int .i64 (a0.length : Int))) rfl (x_lenR Try.underlying33 rfl (hL.rdS 0 rfl h2)) ?_)
  refine OW.cons (OP.val (v := (.int .i64 (w64 (a1 - (a0.length : Int))))) rfl (x_sub rfl rfl) ?_)
  refine OW.cons (OP.val (v := (.int .i64 (w64 (a1 - (a0.length : Int))))) rfl (x_assign) ?_)
  refine OW.nil ?_
  refine CW.seq ?_
  refine CW.seq ?_
  refine CW.regionL ?_
  refine OW.cons (OP.val (v := (.int .i64 (w64 (a1 - (a0.length : Int))))) rfl (x_move) ?_)
  refine OW.cons (OP.val (v := (.bool (decide ((w64 (a1 - (a0.length : Int))) < 0)))) rfl (x_lss rfl rfl) ?_)
  refine OW.nil ?_
  refine CW.condM (t := decide ((w64 (a1 - (a0.length : Int))) < 0)) rfl hm (fun hb3 hm => ?_) (fun hb3 hm => ?_)
  · refine CW.seq ?_
    refine CW.regionL ?_
    refine OW.cons (OP.val (v := (.int .i64 (-1))) rfl (x_assign) ?_)
    refine OW.nil ?_
    refine CW.ret ?_
    obtain rfl := Option.some.inj hm
    exact RR1 rfl rfl ⟨rfl, hL.fresh 0 rfl [] (by decide) (by decide) rfl⟩
  · refine CW.skip ?_
    refine CW.seq ?_
    refine CW.seq ?_
    refine CW.regionL ?_
    refine OW.cons (OP.val (v := (.int .i64 0)) rfl (x_assign) ?_)
    refine OW.nil ?_
    obtain ⟨o42, ho43, hm⟩ := bndE hm
    refine CW.loopB (fun (s_l1 : Int × Int) (F : Fr) (w : World) => F 0 = v1 ∧ F 1 = (.int .i64 s_l1.1) ∧ F 5 = (.int .i64 s_l1.2) ∧ Hp w0 [Ent.snap w0 w0.heap.size] w) (fun o => outc o (fun x => some x) (fun s => M.laws_szInt64SS_a1 s) = some r) ho43 hm ⟨rfl, rfl, rfl, hL⟩ ?_ ?_
    · intro s_l1 F44 wd45 hJ hm
      have hm := outcE hm
      have hm : M.laws_szInt64SS_a1 s_l1 = some r := hm
      unfold M.laws_szInt64SS_a1 at hm
      obtain ⟨f46, f47, f48, hL⟩ := hJ
      refine CW.seq ?_
      refine CW.regionL ?_
      refine OW.cons (OP.val (v := (.int .i64 s_l1.1)) rfl (x_mv f47) ?_)
      refine OW.cons (OP.val (v := (.int .i64 s_l1.1)) rfl (x_assign) ?_)
      refine OW.nil ?_
      refine CW.ret ?_
      obtain rfl := Option.some.inj hm
      exact RR1 rfl rfl ⟨rfl, hL.fresh 0 rfl [] (by decide) (by decide) rfl⟩
    · intro s_l1 F49 wd50 t40 hJ hm hr41
      unfold M.laws_szInt64SS_l1 at hm
      obtain ⟨f51, f52, f53, hL⟩ := hJ
      refine CW.seq ?_
      refine CW.seq ?_
      refine CW.regionL ?_
      refine OW.cons (OP.val (v := (.int .i64 s_l1.2)) rfl (x_mv f53) ?_)
      refine OW.cons (OP.val (v := v1) rfl (x_mv f51) ?_)
      refine OW.cons (OP.val (v := (.int .i64 (a0.length : Int))) rfl (x_lenR Try.underlying33 rfl (hL.rdS 0 rfl h2)) ?_)
      refine OW.cons (OP.val (v := (.bool (decide (s_l1.2 < (a0.length : Int))))) rfl (x_lss rfl rfl) ?_)
      refine OW.nil ?_
      refine CW.condM (t := decide (s_l1.2 < (a0.length : Int))) rfl hm (fun hb54 hm => ?_) (fun hb54 hm => ?_)
      · refine CW.skip ?_
        refine CW.seq ?_
        refine CW.block ?_
        refine CW.seq ?_
        refine CW.regionL ?_
        refine OW.cons (OP.val (v := v1) rfl (x_mv f51) ?_)
        refine OW.cons (OP.val (v := (.int .i64 s_l1.2)) rfl (x_mv f53) ?_)
        obtain ⟨x55, ha56, hm⟩ := bndE hm
        obtain ⟨hz57, ha65⟩ := idxE ha56
        obtain ⟨b58, q59, v60, hix61, hs62, hc63, hr64⟩ := rdN_at h2 hz57 ha65
        refine OW.cons (OP.val (v := (.pointer (some ⟨b58, q59, none⟩))) rfl (x_ix Try.underlying33 Try_T53 rfl rfl hix61) ?_)
        refine OW.cons (OP.val (v := v60) rfl (x_load1 Try.underlying53 rfl rfl (hL.cellS 0 rfl hs62 hc63)) ?_)
        refine OW.cons (OP.val (v := (.int .i64 s_l1.1)) rfl (x_mv f52) ?_)
        obtain ⟨x66, hx67, hm⟩ := bndE hm
        refine OW.cons (OP.call rfl (x_call (vs := [v60, (.int .i64 s_l1.1)]) Try_C86 ⟨rfl, rfl, trivial⟩) (M.laws_szInt64S_ok _ x55 (hL.rdS 0 rfl hr64) s_l1.1 hx67) ?_)
        rintro e68 wd69 ⟨rfl, hF70⟩
        refine ⟨_, rfl, ?_⟩
        have hL := hL.pushAll hF70
        simp only [List.cons_append, List.nil_append, List.set_cons_zero, List.set_cons_succ] at hL
        refine OW.cons (OP.val (v := (.int .i64 x66)) rfl (x_assign) ?_)
        refine OW.nil ?_
        refine CW.seq ?_
        refine CW.regionL ?_
        refine OW.cons (OP.val (v := (.int .i64 x66)) rfl (x_move) ?_)
        refine OW.cons (OP.val (v := (.bool (decide (x66 < 0)))) rfl (x_lss rfl rfl) ?_)
        refine OW.nil ?_
        refine CW.condM (t := decide (x66 < 0)) rfl hm (fun hb71 hm => ?_) (fun hb71 hm => ?_)
        · refine CW.seq ?_
          refine CW.regionL ?_
          refine OW.cons (OP.val (v := (.int .i64 (-1))) rfl (x_assign) ?_)
          refine OW.nil ?_
          refine CW.ret ?_
          obtain rfl := Option.some.inj hm
          have hm := hr41 _ rfl
          obtain rfl := Option.some.inj hm
          exact RR1 rfl rfl ⟨rfl, hL.fresh 0 rfl [] (by decide) (by decide) rfl⟩
        · refine CW.skip ?_
          refine CW.regionL ?_
          refine OW.cons (OP.val (v := (.int .i64 s_l1.2)) rfl (x_mv f53) ?_)
          refine OW.cons (OP.val (v := (.int .i64 (w64 (s_l1.2 + 1)))) rfl (x_add rfl rfl) ?_)
          refine OW.cons (OP.val (v := (.int .i64 (w64 (s_l1.2 + 1)))) rfl (x_assign) ?_)
          refine OW.nil ?_
          obtain rfl := Option.some.inj hm
          exact ⟨_, rfl, ⟨f51, rfl, rfl, hL⟩⟩
      · refine CW.exit ?_
        refine XJ.hit ?_
        obtain rfl := Option.some.inj hm
        exact ⟨_, rfl, ⟨f51, f52, f53, hL⟩⟩

theorem M.laws_szTable_ok (w0 : World) (a0 : Table) {v1 : Value} {v3 : Value} (h2 : rdL (· < w0.heap.size) w0 v1 a0.Points) (h4 : rdL (· < w0.heap.size) w0 v3 a0.Codes) (a1 : Int) {r : Int} (hm : M.laws_szTable a0 a1 = some r) :
    Calls Try.prog 18 #[(.agg #[(.int .i64 a0.Boats), v1, v3]), (.int .i64 a1)] w0 fun e w' => e = .returned (.int .i64 r) ∧ Fresh w0 w' [] := by
  unfold M.laws_szTable at hm
  refine calls_CW (args := [(.agg #[(.int .i64 a0.Boats), v1, v3]), (.int .i64 a1)]) Try.func18 rfl rfl rfl ?_
  have hL := Hp.start w0
  refine CW.seq ?_
  refine CW.regionL ?_
  refine OW.cons (S_box (cs := #[(.int .i64 a0.Boats), v1, v3]) hL rfl rfl rfl ?_)
  intro wd5 b6 hL
  refine OW.cons (OP.val (v := (.int .i64 0)) rfl (x_assign) ?_)
  refine OW.nil ?_
  refine CW.seq ?_
  refine CW.regionL ?_
  refine OW.cons (OP.val (v := (.pointer (some ⟨b6, 1, none⟩))) rfl (x_fieldAddr (fsz := 1) 0 1 1 Try.underlying35 rfl Try_T33 rfl rfl rfl) ?_)
  refine OW.cons (OP.val (v := v1) rfl (x_load1 Try.underlying33 rfl rfl (hL.cellB 0 rfl rfl)) ?_)
  refine OW.cons (OP.val (v := (.int .i64 a1)) rfl (x_move) ?_)
  obtain ⟨x7, hx8, hm⟩ := bndE hm
  refine OW.cons (OP.call rfl (x_call (vs := [v1, (.int .i64 a1)]) Try_C56 ⟨rfl, rfl, trivial⟩) (M.laws_szInt64SS_ok _ a0.Points (hL.rdS 1 rfl h2) a1 hx8) ?_)
  rintro e9 wd10 ⟨rfl, hF11⟩
  refine ⟨_, rfl, ?_⟩
  have hL := hL.pushAll hF11
  simp only [List.cons_append, List.nil_append, List.set_cons_zero, List.set_cons_succ] at hL
  refine OW.cons (OP.val (v := (.int .i64 x7)) rfl (x_assign) ?_)
  refine OW.nil ?_
  refine CW.seq ?_
  refine CW.seq ?_
  refine CW.regionL ?_
  refine OW.cons (OP.val (v := (.int .i64 x7)) rfl (x_move) ?_)
  refine OW.cons (OP.val (v := (.bool (decide (x7 < 0)))) rfl (x_lss rfl rfl) ?_)
  refine OW.nil ?_
  refine CW.condM (t := decide (x7 < 0)) rfl hm (fun hb12 hm => ?_) (fun hb12 hm => ?_)
  · refine CW.seq ?_
    refine CW.regionL ?_
    refine OW.cons (OP.val (v := (.int .i64 (-1))) rfl (x_assign) ?_)
    refine OW.nil ?_
    refine CW.ret ?_
    obtain rfl := Option.some.inj hm
    exact RR1 rfl rfl ⟨rfl, hL.fresh 1 rfl [] (by decide) (by decide) rfl⟩
  · refine CW.skip ?_
    refine CW.seq ?_
    refine CW.regionL ?_
    refine OW.cons (OP.val (v := (.pointer (some ⟨b6, 2, none⟩))) rfl (x_fieldAddr (fsz := 1) 0 2 2 Try.underlying35 rfl Try_T33 rfl rfl rfl) ?_)
    refine OW.cons (OP.val (v := v3) rfl (x_load1 Try.underlying33 rfl rfl (hL.cellB 0 rfl rfl)) ?_)
    refine OW.cons (OP.val (v := (.int .i64 x7)) rfl (x_move) ?_)
    obtain ⟨x13, hx14, hm⟩ := bndE hm
    refine OW.cons (OP.call rfl (x_call (vs := [v3, (.int .i64 x7)]) Try_C56 ⟨rfl, rfl, trivial⟩) (M.laws_szInt64SS_ok _ a0.Codes (hL.rdS 1 rfl h4) x7 hx14) ?_)
    rintro e15 wd16 ⟨rfl, hF17⟩
    refine ⟨_, rfl, ?_⟩
    have hL := hL.pushAll hF17
    simp only [List.cons_append, List.nil_append, List.set_cons_zero, List.set_cons_succ] at hL
    refine OW.cons (OP.val (v := (.int .i64 x13)) rfl (x_assign) ?_)
    refine OW.nil ?_
    refine CW.seq ?_
    refine CW.seq ?_
    refine CW.regionL ?_
    refine OW.cons (OP.val (v := (.int .i64 x13)) rfl (x_move) ?_)
    refine OW.cons (OP.val (v := (.bool (decide (x13 < 0)))) rfl (x_lss rfl rfl) ?_)
    refine OW.nil ?_
    refine CW.condM (t := decide (x13 < 0)) rfl hm (fun hb18 hm => ?_) (fun hb18 hm => ?_)
    · refine CW.seq ?_
      refine CW.regionL ?_
      refine OW.cons (OP.val (v := (.int .i64 (-1))) rfl (x_assign) ?_)
      refine OW.nil ?_
      refine CW.ret ?_
      obtain rfl := Option.some.inj hm
      exact RR1 rfl rfl ⟨rfl, hL.fresh 1 rfl [] (by decide) (by decide) rfl⟩
    · refine CW.skip ?_
      refine CW.seq ?_
      refine CW.regionL ?_
      refine OW.cons (OP.val (v := (.int .i64 x13)) rfl (x_move) ?_)
      refine OW.cons (OP.val (v := (.int .i64 x13)) rfl (x_assign) ?_)
      refine OW.nil ?_
      refine CW.ret ?_
      obtain rfl := Option.some.inj hm
      exact RR1 rfl rfl ⟨rfl, hL.fresh 1 rfl [] (by decide) (by decide) rfl⟩

theorem M.laws_toInt64S_ok (w0 : World) (a0 : List Int) {v1 : Value} (h2 : rdL (· < w0.heap.size) w0 v1 a0) {r : (List Int)} (hm : M.laws_toInt64S a0 = some r) :
    Calls Try.prog 87 #[v1] w0 fun e w' => ∃ (rv0 : Value) (rS0 : Nat → Prop), e = .returned rv0 ∧ Fresh w0 w' [Ent.own 2 rS0 rv0 r] := by
  unfold M.laws_toInt64S at hm
  refine calls_CW (args := [v1]) Try.func87 rfl rfl rfl ?_
  have hL := Hp.start w0
  refine CW.seq ?_
  refine CW.regionL ?_
  refine OW.cons (OP.val (v := (.slice none 0 0)) rfl (x_assign) ?_)
  refine OW.nil ?_
  refine CW.seq ?_
  refine CW.regionL ?_
  refine OW.cons (OP.val (v := v1) rfl (x_move) ?_)
  refine OW.cons (OP.val (v := (.int .i64 (a0.length : Int))) rfl (x_lenR Try.underlying53 rfl (hL.rdS 0 rfl h2)) ?_)
  obtain ⟨hc6, hm⟩ := chkE hm
  refine OW.cons (S_make (α := Int) 0 hL Try.underlying53 Try_T2 rfl rfl rfl hc6 (by decide) rfl ?_)
  intro wd3 v4 S5 hL
  refine OW.cons (OP.val (v := v4) rfl (x_assign) ?_)
  refine OW.nil ?_
  refine CW.seq ?_
  refine CW.seq ?_
  refine CW.regionL ?_
  refine OW.cons (OP.val (v := (.int .i64 0)) rfl (x_assign) ?_)
  refine OW.nil ?_
  obtain ⟨o43, ho44, hm⟩ := bndE hm
  refine CW.loopB (fun (s_l1 : (List Int) × Int) (F : Fr) (w : World) => ∃ (S40 : Nat → Prop), F 0 = v1 ∧ F 3 = v4 ∧ F 4 = (.int .i64 s_l1.2) ∧ Hp w0 [Ent.own 2 S40 v4 s_l1.1, Ent.snap w0 w0.heap.size] w) (fun o => outc o (fun x => some x) (fun s => M.laws_toInt64S_a1 s) = some r) ho44 hm ⟨S5, rfl, rfl, rfl, hL⟩ ?_ ?_
  · intro s_l1 F45 wd46 hJ hm
    have hm := outcE hm
    have hm : M.laws_toInt64S_a1 s_l1 = some r := hm
    unfold M.laws_toInt64S_a1 at hm
    obtain ⟨S40, f47, f48, f49, hL⟩ := hJ
    refine CW.seq ?_
    refine CW.regionL ?_
    refine OW.cons (OP.val (v := v4) rfl (x_mv f48) ?_)
    refine OW.cons (OP.val (v := v4) rfl (x_assign) ?_)
    refine OW.nil ?_
    refine CW.ret ?_
    obtain rfl := Option.some.inj hm
    exact RR1 rfl rfl ⟨v4, S40, rfl, hL.fresh 1 rfl [0] (by decide) (by decide) rfl⟩
  · intro s_l1 F50 wd51 t41 hJ hm hr42
    unfold M.laws_toInt64S_l1 at hm
    obtain ⟨S40, f52, f53, f54, hL⟩ := hJ
    refine CW.seq ?_
    refine CW.seq ?_
    refine CW.regionL ?_
    refine OW.cons (OP.val (v := (.int .i64 s_l1.2)) rfl (x_mv f54) ?_)
    refine OW.cons (OP.val (v := v1) rfl (x_mv f52) ?_)
    refine OW.cons (OP.val (v := (.int .i64 (a0.length : Int))) rfl (x_lenR Try.underlying53 rfl (hL.rdS 1 rfl h2)) ?_)
    refine OW.cons (OP.val (v := (.bool (decide (s_l1.2 < (a0.length : Int))))) rfl (x_lss rfl rfl) ?_)
    refine OW.nil ?_
    refine CW.condM (t := decide (s_l1.2 < (a0.length : Int))) rfl hm (fun hb55 hm => ?_) (fun hb55 hm => ?_)
    · refine CW.skip ?_
      refine CW.seq ?_
      refine CW.block ?_
      refine CW.regionL ?_
      refine OW.cons (OP.val (v := v4) rfl (x_mv f53) ?_)
      refine OW.cons (OP.val (v := (.int .i64 s_l1.2)) rfl (x_mv f54) ?_)
      refine OW.cons (OP.val (v := v1) rfl (x_mv f52) ?_)
      refine OW.cons (OP.val (v := (.int .i64 s_l1.2)) rfl (x_mv f54) ?_)
      obtain ⟨x56, ha57, hm⟩ := bndE hm
      obtain ⟨hz58, ha62⟩ := idxE ha57
      obtain ⟨b59, q60, hix61⟩ := rdL_ix (hL.rdS 1 rfl h2) hz58 ha62
      refine OW.cons (OP.val (v := (.pointer (some ⟨b59, q60, none⟩))) rfl (x_ix Try.underlying53 Try_T2 rfl rfl hix61) ?_)
      refine OW.cons (OP.val (v := (.int .i64 x56)) rfl (x_load1 Try.underlying2 rfl rfl (rdF_cells (hL.rdS 1 rfl h2) hix61 ha62 0 _ rfl)) ?_)
      obtain ⟨x63, ha64, hm⟩ := bndE hm
      obtain ⟨hz65, ha69⟩ := idxE ha64
      obtain ⟨b66, q67, hix68⟩ := rdL_ix (hL.rdO 0 rfl) hz65 ha69
      refine OW.cons (OP.val (v := (.pointer (some ⟨b66, q67, none⟩))) rfl (x_ix Try.underlying53 Try_T2 rfl rfl hix68) ?_)
      refine OW.cons (S_storeX (j := 0) x56 hL 0 rfl Try_T2 hix68 ha69 rfl rfl rfl rfl rfl rfl ?_)
      intro wd70 hL
      refine OW.nil ?_
      refine CW.regionL ?_
      refine OW.cons (OP.val (v := (.int .i64 s_l1.2)) rfl (x_mv f54) ?_)
      refine OW.cons (OP.val (v := (.int .i64 (w64 (s_l1.2 + 1)))) rfl (x_add rfl rfl) ?_)
      refine OW.cons (OP.val (v := (.int .i64 (w64 (s_l1.2 + 1)))) rfl (x_assign) ?_)
      refine OW.nil ?_
      obtain rfl := Option.some.inj hm
      exact ⟨_, rfl, ⟨S40, f52, f53, rfl, hL⟩⟩
    · refine CW.exit ?_
      refine XJ.hit ?_
      obtain rfl := Option.some.inj hm
      exact ⟨_, rfl, ⟨S40, f52, f53, f54, hL⟩⟩

theorem M.laws_toInt64SS_ok (w0 : World) (a0 : List (List Int)) {v1 : Value} (h2 : rdL (· < w0.heap.size) w0 v1 a0) {r : (List (List Int))} (hm : M.laws_toInt64SS a0 = some r) :
    Calls Try.prog 58 #[v1] w0 fun e w' => ∃ (rv0 : Value) (rS0 : Nat → Prop), e = .returned rv0 ∧ Fresh w0 w' [Ent.own 53 rS0 rv0 r] := by
  unfold M.laws_toInt64SS at hm
  refine calls_CW (args := [v1]) Try.func58 rfl rfl rfl ?_
  have hL := Hp.start w0
  refine CW.seq ?_
  refine CW.regionL ?_
  refine OW.cons (OP.val (v := (.slice none 0 0)) rfl (x_assign) ?_)
  refine OW.nil ?_
  refine CW.seq ?_
  refine CW.regionL ?_
  refine OW.cons (OP.val (v := v1) rfl (x_move) ?_)
  refine OW.cons (OP.val (v := (.int .i64 (a0.length : Int))) rfl (x_lenR Try.underlying33 rfl (hL.rdS 0 rfl h2)) ?_)
  obtain ⟨hc6, hm⟩ := chkE hm
  refine OW.cons (S_makeN (α := Int) (β := List Int) ([] : List Int) rfl hL Try.underlying33 Try_T53 rfl rfl rfl hc6 (by decide) rfl ?_)
  intro wd3 v4 S5 hL
  refine OW.cons (OP.val (v := v4) rfl (x_assign) ?_)
  refine OW.nil ?_
  refine CW.seq ?_
  refine CW.seq ?_
  refine CW.regionL ?_
  refine OW.cons (OP.val (v := (.int .i64 0)) rfl (x_assign) ?_)
  refine OW.nil ?_
  obtain ⟨o79, ho80, hm⟩ := bndE hm
  refine CW.loopB (fun (s_l1 : (List (List Int)) × Int) (F : Fr) (w : World) => ∃ (S76 : Nat → Prop), F 0 = v1 ∧ F 3 = v4 ∧ F 4 = (.int .i64 s_l1.2) ∧ Hp w0 [Ent.own 53 S76 v4 s_l1.1, Ent.snap w0 w0.heap.size] w) (fun o => outc o (fun x => some x) (fun s => M.laws_toInt64SS_a1 s) = some r) ho80 hm ⟨S5, rfl, rfl, rfl, hL⟩ ?_ ?_
  · intro s_l1 F81 wd82 hJ hm
    have hm := outcE hm
    have hm : M.laws_toInt64SS_a1 s_l1 = some r := hm
    unfold M.laws_toInt64SS_a1 at hm
    obtain ⟨S76, f83, f84, f85, hL⟩ := hJ
    refine CW.seq ?_
    refine CW.regionL ?_
    refine OW.cons (OP.val (v := v4) rfl (x_mv f84) ?_)
    refine OW.cons (OP.val (v := v4) rfl (x_assign) ?_)
    refine OW.nil ?_
    refine CW.ret ?_
    obtain rfl := Option.some.inj hm
    exact RR1 rfl rfl ⟨v4, S76, rfl, hL.fresh 1 rfl [0] (by decide) (by decide) rfl⟩
  · intro s_l1 F86 wd87 t77 hJ hm hr78
    unfold M.laws_toInt64SS_l1 at hm
    obtain ⟨S76, f88, f89, f90, hL⟩ := hJ
    refine CW.seq ?_
    refine CW.seq ?_
    refine CW.regionL ?_
    refine OW.cons (OP.val (v := (.int .i64 s_l1.2)) rfl (x_mv f90) ?_)
    refine OW.cons (OP.val (v := v1) rfl (x_mv f88) ?_)
    refine OW.cons (OP.val (v := (.int .i64 (a0.length : Int))) rfl (x_lenR Try.underlying33 rfl (hL.rdS 1 rfl h2)) ?_)
    refine OW.cons (OP.val (v := (.bool (decide (s_l1.2 < (a0.length : Int))))) rfl (x_lss rfl rfl) ?_)
    refine OW.nil ?_
    refine CW.condM (t := decide (s_l1.2 < (a0.length : Int))) rfl hm (fun hb91 hm => ?_) (fun hb91 hm => ?_)
    · refine CW.skip ?_
      refine CW.seq ?_
      refine CW.block ?_
      refine CW.regionL ?_
      refine OW.cons (OP.val (v := v4) rfl (x_mv f89) ?_)
      refine OW.cons (OP.val (v := (.int .i64 s_l1.2)) rfl (x_mv f90) ?_)
      refine OW.cons (OP.val (v := v1) rfl (x_mv f88) ?_)
      refine OW.cons (OP.val (v := (.int .i64 s_l1.2)) rfl (x_mv f90) ?_)
      obtain ⟨x92, ha93, hm⟩ := bndE hm
      obtain ⟨hz94, ha102⟩ := idxE ha93
      obtain ⟨b95, q96, v97, hix98, hs99, hc100, hr101⟩ := rdN_at h2 hz94 ha102
      refine OW.cons (OP.val (v := (.pointer (some ⟨b95, q96, none⟩))) rfl (x_ix Try.underlying33 Try_T53 rfl rfl hix98) ?_)
      refine OW.cons (OP.val (v := v97) rfl (x_load1 Try.underlying53 rfl rfl (hL.cellS 1 rfl hs99 hc100)) ?_)
      obtain ⟨x103, hx104, hm⟩ := bndE hm
      refine OW.cons (OP.call rfl (x_call (vs := [v97]) Try_C87 ⟨rfl, trivial⟩) (M.laws_toInt64S_ok _ x92 (hL.rdS 1 rfl hr101) hx104) ?_)
      rintro e107 wd108 ⟨v106, S105, rfl, hF109⟩
      refine ⟨_, rfl, ?_⟩
      have hL := hL.pushAll hF109
      simp only [List.cons_append, List.nil_append, List.set_cons_zero, List.set_cons_succ] at hL
      obtain ⟨wz110, hL, ho111⟩ := hL.freeze 1 rfl
      simp only [List.set_cons_zero, List.set_cons_succ] at hL
      obtain ⟨x112, ha113, hm⟩ := bndE hm
      obtain ⟨hz114, ha122⟩ := idxE ha113
      obtain ⟨b115, q116, v117, hix118, hs119, hc120, hr121⟩ := rdN_at ho111.1.rdL hz114 ha122
      refine OW.cons (OP.val (v := (.pointer (some ⟨b115, q116, none⟩))) rfl (x_ix Try.underlying33 Try_T53 rfl rfl hix118) ?_)
      have hL := hL.thaw 1 rfl ho111
      have hL := hL.sel [1, 0, 2] (by decide) rfl
      refine OW.cons (S_storeR x103 rfl hL Try_T53 hix118 ha122 rfl rfl ?_)
      intro wd123 S124 hL
      refine OW.nil ?_
      refine CW.regionL ?_
      refine OW.cons (OP.val (v := (.int .i64 s_l1.2)) rfl (x_mv f90) ?_)
      refine OW.cons (OP.val (v := (.int .i64 (w64 (s_l1.2 + 1)))) rfl (x_add rfl rfl) ?_)
      refine OW.cons (OP.val (v := (.int .i64 (w64 (s_l1.2 + 1)))) rfl (x_assign) ?_)
      refine OW.nil ?_
      obtain rfl := Option.some.inj hm
      exact ⟨_, rfl, ⟨S124, f88, f89, rfl, hL⟩⟩
    · refine CW.exit ?_
      refine XJ.hit ?_
      obtain rfl := Option.some.inj hm
      exact ⟨_, rfl, ⟨S76, f88, f89, f90, hL⟩⟩

theorem M.laws_toTable_ok (w0 : World) (a0 : Table) {v1 : Value} {v3 : Value} (h2 : rdL (· < w0.heap.size) w0 v1 a0.Points) (h4 : rdL (· < w0.heap.size) w0 v3 a0.Codes) {r : Table} (hm : M.laws_toTable a0 = some r) :
    Calls Try.prog 20 #[(.agg #[(.int .i64 a0.Boats), v1, v3])] w0 fun e w' => ∃ (rv0 : Value) (rS0 : Nat → Prop), ∃ (rv1 : Value) (rS1 : Nat → Prop), e = .returned (.agg #[(.int .i64 r.Boats), rv0, rv1]) ∧ Fresh w0 w' [Ent.own 53 rS0 rv0 r.Points, Ent.own 53 rS1 rv1 r.Codes] := by
  unfold M.laws_toTable at hm
  refine calls_CW (args := [(.agg #[(.int .i64 a0.Boats), v1, v3])]) Try.func20 rfl rfl rfl ?_
  have hL := Hp.start w0
  refine CW.seq ?_
  refine CW.regionL ?_
  refine OW.cons (S_box (cs := #[(.int .i64 a0.Boats), v1, v3]) hL rfl rfl rfl ?_)
  intro wd5 b6 hL
  refine OW.cons (S_alloc (cs := #[(.int .i64 0), (.slice none 0 0), (.slice none 0 0)]) hL Try_T38 rfl rfl ?_)
  intro wd7 b8 hL
  refine OW.nil ?_
  refine CW.seq ?_
  refine CW.regionL ?_
  refine OW.cons (S_alloc (cs := #[(.int .i64 0), (.slice none 0 0), (.slice none 0 0)]) hL Try_T38 rfl rfl ?_)
  intro wd9 b10 hL
  refine OW.nil ?_
  refine CW.seq ?_
  refine CW.regionL ?_
  refine OW.cons (OP.val (v := (.pointer (some ⟨b6, 0, none⟩))) rfl (x_fieldAddr (fsz := 1) 0 0 0 Try.underlying35 rfl Try_T2 rfl rfl rfl) ?_)
  refine OW.cons (OP.val (v := (.int .i64 a0.Boats)) rfl (x_load1 Try.underlying2 rfl rfl (hL.cellB 2 rfl rfl)) ?_)
  refine OW.cons (OP.val (v := (.pointer (some ⟨b10, 0, none⟩))) rfl (x_fieldAddr (fsz := 1) 0 0 0 Try.underlying38 rfl Try_T2 rfl rfl rfl) ?_)
  refine OW.cons (S_store (cs' := #[(.int .i64 a0.Boats), (.slice none 0 0), (.slice none 0 0)]) hL 0 rfl Try_T2 rfl rfl rfl rfl rfl ?_)
  intro wd11 hL
  refine OW.nil ?_
  refine CW.seq ?_
  refine CW.regionL ?_
  refine OW.cons (OP.val (v := (.pointer (some ⟨b6, 1, none⟩))) rfl (x_fieldAddr (fsz := 1) 0 1 1 Try.underlying35 rfl Try_T33 rfl rfl rfl) ?_)
  refine OW.cons (OP.val (v := v1) rfl (x_load1 Try.underlying33 rfl rfl (hL.cellB 2 rfl rfl)) ?_)
  obtain ⟨x12, hx13, hm⟩ := bndE hm
  refine OW.cons (OP.call rfl (x_call (vs := [v1]) Try_C58 ⟨rfl, trivial⟩) (M.laws_toInt64SS_ok _ a0.Points (hL.rdS 3 rfl h2) hx13) ?_)
  rintro e16 wd17 ⟨v15, S14, rfl, hF18⟩
  refine ⟨_, rfl, ?_⟩
  have hL := hL.pushAll hF18
  simp only [List.cons_append, List.nil_append, List.set_cons_zero, List.set_cons_succ] at hL
  refine OW.cons (OP.val (v := (.pointer (some ⟨b10, 1, none⟩))) rfl (x_fieldAddr (fsz := 1) 0 1 1 Try.underlying38 rfl Try_T33 rfl rfl rfl) ?_)
  refine OW.cons (S_store (cs' := #[(.int .i64 a0.Boats), v15, (.slice none 0 0)]) hL 1 rfl Try_T33 rfl (rdL_one (hL.rdO 0 rfl)) rfl rfl rfl ?_)
  intro wd19 hL
  refine OW.nil ?_
  refine CW.seq ?_
  refine CW.regionL ?_
  refine OW.cons (OP.val (v := (.pointer (some ⟨b6, 2, none⟩))) rfl (x_fieldAddr (fsz := 1) 0 2 2 Try.underlying35 rfl Try_T33 rfl rfl rfl) ?_)
  refine OW.cons (OP.val (v := v3) rfl (x_load1 Try.underlying33 rfl rfl (hL.cellB 3 rfl rfl)) ?_)
  obtain ⟨x20, hx21, hm⟩ := bndE hm
  refine OW.cons (OP.call rfl (x_call (vs := [v3]) Try_C58 ⟨rfl, trivial⟩) (M.laws_toInt64SS_ok _ a0.Codes (hL.rdS 4 rfl h4) hx21) ?_)
  rintro e24 wd25 ⟨v23, S22, rfl, hF26⟩
  refine ⟨_, rfl, ?_⟩
  have hL := hL.pushAll hF26
  simp only [List.cons_append, List.nil_append, List.set_cons_zero, List.set_cons_succ] at hL
  refine OW.cons (OP.val (v := (.pointer (some ⟨b10, 2, none⟩))) rfl (x_fieldAddr (fsz := 1) 0 2 2 Try.underlying38 rfl Try_T33 rfl rfl rfl) ?_)
  refine OW.cons (S_store (cs' := #[(.int .i64 a0.Boats), v15, v23]) hL 2 rfl Try_T33 rfl (rdL_one (hL.rdO 0 rfl)) rfl rfl rfl ?_)
  intro wd27 hL
  refine OW.nil ?_
  refine CW.seq ?_
  refine CW.regionL ?_
  refine OW.cons (OP.val (v := (.agg #[(.int .i64 a0.Boats), v15, v23])) rfl (x_loadN (cs := [(.int .i64 a0.Boats), v15, v23]) Try.underlying38 Try_T38 rfl rfl (hL.cellsB 2 rfl (o := 0) (l := [(.int .i64 a0.Boats), v15, v23]) (by intro j u hj; exact (by simpa using hj)))) ?_)
  refine OW.cons (S_storeN (l := [(.int .i64 a0.Boats), v15, v23]) (cs' := #[(.int .i64 a0.Boats), v15, v23]) hL 3 rfl Try_T38 rfl rfl (List.forall_mem_cons.2 ⟨rfl, (List.forall_mem_cons.2 ⟨rdL_one (hL.rdO 1 rfl), (List.forall_mem_cons.2 ⟨rdL_one (hL.rdO 0 rfl), (fun _ h => by cases h)⟩)⟩)⟩) rfl (by decide) rfl ?_)
  intro wd28 hL
  refine OW.nil ?_
  refine CW.ret ?_
  obtain rfl := Option.some.inj hm
  exact RRc rfl rfl (run_loadBlk Try.underlying38 Try_T38 (hL.get 3 rfl) rfl) ⟨v15, S14, v23, S22, rfl, hL.fresh 5 rfl [1, 0] (by decide) (by decide) rfl⟩

theorem M.spec_IsTable_ok (w0 : World) (a0 : Table) {v1 : Value} {v3 : Value} (h2 : rdL (· < w0.heap.size) w0 v1 a0.Points) (h4 : rdL (· < w0.heap.size) w0 v3 a0.Codes) {r : Bool} (hm : M.spec_IsTable a0 = some r) :
    Calls Try.prog 19 #[(.agg #[(.int .i64 a0.Boats), v1, v3])] w0 fun e w' => e = .returned (.bool r) ∧ Fresh w0 w' [] := by
  unfold M.spec_IsTable at hm
  refine calls_CW (args := [(.agg #[(.int .i64 a0.Boats), v1, v3])]) Try.func19 rfl rfl rfl ?_
  have hL := Hp.start w0
  refine CW.seq ?_
  refine CW.regionL ?_
  refine OW.cons (S_box (cs := #[(.int .i64 a0.Boats), v1, v3]) hL rfl rfl rfl ?_)
  intro wd5 b6 hL
  refine OW.cons (OP.val (v := (.bool false)) rfl (x_assign) ?_)
  refine OW.nil ?_
  refine CW.seq ?_
  refine CW.seqJ (fun (s_j1 : Bool) (F : Fr) (w : World) => F 1 = (.pointer (some ⟨b6, 0, none⟩)) ∧ F 23 = (.bool s_j1) ∧ Hp w0 [Ent.blk b6 38 #[(.int .i64 a0.Boats), v1, v3], Ent.snap w0 w0.heap.size] w) (fun s_j1 => M.spec_IsTable_j1 a0 s_j1 = some r) ?_ ?_
  · refine CW.regionL ?_
    refine OW.cons (OP.val (v := (.pointer (some ⟨b6, 0, none⟩))) rfl (x_fieldAddr (fsz := 1) 0 0 0 Try.underlying38 rfl Try_T2 rfl rfl rfl) ?_)
    refine OW.cons (OP.val (v := (.int .i64 a0.Boats)) rfl (x_load1 Try.underlying2 rfl rfl (hL.cellB 0 rfl rfl)) ?_)
    obtain ⟨x1162, hx1163, hm⟩ := bndE hm
    refine OW.cons (OP.call rfl (x_call (vs := [(.int .i64 a0.Boats), (.int .i64 1), (.int .i64 16)]) Try_C51 ⟨rfl, rfl, rfl, trivial⟩) (M.spec_l01In_ok _ a0.Boats 1 16 hx1163) ?_)
    rintro e1164 wd1165 ⟨rfl, hF1166⟩
    refine ⟨_, rfl, ?_⟩
    have hL := hL.pushAll hF1166
    simp only [List.cons_append, List.nil_append, List.set_cons_zero, List.set_cons_succ] at hL
    refine OW.cons (OP.val (v := (.bool (!x1162))) rfl (x_not rfl) ?_)
    refine OW.cons (OP.val (v := (.bool (!x1162))) rfl (x_move) ?_)
    refine ifB_elim hm (fun hb1167 hm => ?_) (fun hb1167 hm => ?_)
    · refine OW.cons (OP.no' rfl rfl hb1167 rfl ?_)
      refine OW.cons (OP.no' rfl rfl hb1167 rfl ?_)
      refine OW.cons (OP.no' rfl rfl hb1167 rfl ?_)
      refine OW.cons (OP.no' rfl rfl hb1167 rfl ?_)
      refine OW.cons (OP.val (v := (.bool true)) rfl (x_pickT' rfl hb1167 rfl) ?_)
      refine OW.cons (OP.val (v := (.bool true)) rfl (x_move) ?_)
      refine OW.cons (OP.no' rfl rfl rfl rfl ?_)
      refine OW.cons (OP.no' rfl rfl rfl rfl ?_)
      refine OW.cons (OP.no' rfl rfl rfl rfl ?_)
      refine OW.cons (OP.no' rfl rfl rfl rfl ?_)
      refine OW.cons (OP.no' rfl rfl rfl rfl ?_)
      refine OW.cons (OP.no' rfl rfl rfl rfl ?_)
      refine OW.cons (OP.no' rfl rfl rfl rfl ?_)
      refine OW.cons (OP.val (v := (.bool true)) rfl (x_pickT' rfl rfl rfl) ?_)
      refine OW.nil ?_
      exact ⟨true, hm, ⟨rfl, rfl, hL⟩⟩
    · refine OW.cons (OP.yes' rfl rfl hb1167 (OP.val (v := (.pointer (some ⟨b6, 1, none⟩))) rfl (x_fieldAddr (fsz := 1) 0 1 1 Try.underlying38 rfl Try_T33 rfl rfl rfl) ?_))
      refine OW.cons (OP.yes' rfl rfl hb1167 (OP.val (v := v1) rfl (x_load1 Try.underlying33 rfl rfl (hL.cellB 0 rfl rfl)) ?_))
      refine OW.cons (OP.yes' rfl rfl hb1167 (OP.val (v := (.int .i64 (a0.Points.length : Int))) rfl (x_lenR Try.underlying33 rfl (hL.rdS 1 rfl h2)) ?_))
      refine OW.cons (OP.yes' rfl rfl hb1167 (OP.val (v := (.bool (decide (12 < (a0.Points.length : Int))))) rfl (x_gtr rfl rfl) ?_))
      refine OW.cons (OP.val (v := (.bool (decide (12 < (a0.Points.length : Int))))) rfl (x_pickF' rfl hb1167 rfl) ?_)
      refine OW.cons (OP.val (v := (.bool (decide (12 < (a0.Points.length : Int))))) rfl (x_move) ?_)
      refine ifB_elim hm (fun hb1168 hm => ?_) (fun hb1168 hm => ?_)
      · refine OW.cons (OP.no' rfl rfl hb1168 rfl ?_)
        refine OW.cons (OP.no' rfl rfl hb1168 rfl ?_)
        refine OW.cons (OP.no' rfl rfl hb1168 rfl ?_)
        refine OW.cons (OP.no' rfl rfl hb1168 rfl ?_)
        refine OW.cons (OP.no' rfl rfl hb1168 rfl ?_)
        refine OW.cons (OP.no' rfl rfl hb1168 rfl ?_)
        refine OW.cons (OP.no' rfl rfl hb1168 rfl ?_)
        refine OW.cons (OP.val (v := (.bool true)) rfl (x_pickT' rfl hb1168 rfl) ?_)
        refine OW.nil ?_
        exact ⟨true, hm, ⟨rfl, rfl, hL⟩⟩
      · refine OW.cons (OP.yes' rfl rfl hb1168 (OP.val (v := (.pointer (some ⟨b6, 2, none⟩))) rfl (x_fieldAddr (fsz := 1) 0 2 2 Try.underlying38 rfl Try_T33 rfl rfl rfl) ?_))
        refine OW.cons (OP.yes' rfl rfl hb1168 (OP.val (v := v3) rfl (x_load1 Try.underlying33 rfl rfl (hL.cellB 0 rfl rfl)) ?_))
        refine OW.cons (OP.yes' rfl rfl hb1168 (OP.val (v := (.int .i64 (a0.Codes.length : Int))) rfl (x_lenR Try.underlying33 rfl (hL.rdS 1 rfl h4)) ?_))
        refine OW.cons (OP.yes' rfl rfl hb1168 (OP.val (v := (.pointer (some ⟨b6, 1, none⟩))) rfl (x_fieldAddr (fsz := 1) 0 1 1 Try.underlying38 rfl Try_T33 rfl rfl rfl) ?_))
        refine OW.cons (OP.yes' rfl rfl hb1168 (OP.val (v := v1) rfl (x_load1 Try.underlying33 rfl rfl (hL.cellB 0 rfl rfl)) ?_))
        refine OW.cons (OP.yes' rfl rfl hb1168 (OP.val (v := (.int .i64 (a0.Points.length : Int))) rfl (x_lenR Try.underlying33 rfl (hL.rdS 1 rfl h2)) ?_))
        refine OW.cons (OP.yes' rfl rfl hb1168 (OP.val (v := (.bool ((a0.Codes.length : Int) != (a0.Points.length : Int)))) rfl (x_neq rfl rfl) ?_))
        refine OW.cons (OP.val (v := (.bool ((a0.Codes.length : Int) != (a0.Points.length : Int)))) rfl (x_pickF' rfl hb1168 rfl) ?_)
        refine OW.nil ?_
        exact ⟨(a0.Codes.length : Int) != (a0.Points.length : Int), hm, ⟨rfl, rfl, hL⟩⟩
  · intro s_j1 F14 wd15 hJ hm
    unfold M.spec_IsTable_j1 at hm
    obtain ⟨f16, f17, hL⟩ := hJ
    refine CW.condM (t := s_j1) f17 hm (fun hb18 hm => ?_) (fun hb18 hm => ?_)
    · refine CW.seq ?_
      refine CW.regionL ?_
      refine OW.cons (OP.val (v := (.bool false)) rfl (x_assign) ?_)
      refine OW.nil ?_
      refine CW.ret ?_
      obtain rfl := Option.some.inj hm
      exact RR1 rfl rfl ⟨rfl, hL.fresh 1 rfl [] (by decide) (by decide) rfl⟩
    · refine CW.skip ?_
      refine CW.seq ?_
      refine CW.seq ?_
      refine CW.regionL ?_
      refine OW.cons (OP.val (v := (.int .i64 0)) rfl (x_assign) ?_)
      refine OW.nil ?_
      obtain ⟨o775, ho776, hm⟩ := bndE hm
      refine CW.loopB (fun (s_l1 : Int) (F : Fr) (w : World) => F 1 = (.pointer (some ⟨b6, 0, none⟩)) ∧ F 3 = (.int .i64 s_l1) ∧ Hp w0 [Ent.blk b6 38 #[(.int .i64 a0.Boats), v1, v3], Ent.snap w0 w0.heap.size] w) (fun o => outc o (fun x => some x) (fun s => M.spec_IsTable_a1 s) = some r) ho776 hm ⟨f16, rfl, hL⟩ ?_ ?_
      · intro s_l1 F777 wd778 hJ hm
        have hm := outcE hm
        have hm : M.spec_IsTable_a1 s_l1 = some r := hm
        unfold M.spec_IsTable_a1 at hm
        obtain ⟨f779, f780, hL⟩ := hJ
        refine CW.seq ?_
        refine CW.regionL ?_
        refine OW.cons (OP.val (v := (.bool true)) rfl (x_assign) ?_)
        refine OW.nil ?_
        refine CW.ret ?_
        obtain rfl := Option.some.inj hm
        exact RR1 rfl rfl ⟨rfl, hL.fresh 1 rfl [] (by decide) (by decide) rfl⟩
      · intro s_l1 F781 wd782 t773 hJ hm hr774
        unfold M.spec_IsTable_l1 at hm
        obtain ⟨f783, f784, hL⟩ := hJ
        refine CW.seq ?_
        refine CW.seq ?_
        refine CW.regionL ?_
        refine OW.cons (OP.val (v := (.int .i64 s_l1)) rfl (x_mv f784) ?_)
        refine OW.cons (OP.val (v := (.pointer (some ⟨b6, 1, none⟩))) rfl (x_fieldAddr (fsz := 1) 0 1 1 Try.underlying38 rfl Try_T33 rfl f783 rfl) ?_)
        refine OW.cons (OP.val (v := v1) rfl (x_load1 Try.underlying33 rfl rfl (hL.cellB 0 rfl rfl)) ?_)
        refine OW.cons (OP.val (v := (.int .i64 (a0.Points.length : Int))) rfl (x_lenR Try.underlying33 rfl (hL.rdS 1 rfl h2)) ?_)
        refine OW.cons (OP.val (v := (.bool (decide (s_l1 < (a0.Points.length : Int))))) rfl (x_lss rfl rfl) ?_)
        refine OW.nil ?_
        refine CW.condM (t := decide (s_l1 < (a0.Points.length : Int))) rfl hm (fun hb785 hm => ?_) (fun hb785 hm => ?_)
        · refine CW.skip ?_
          refine CW.seq ?_
          refine CW.block ?_
          refine CW.seq ?_
          refine CW.seqJ (fun (s_j2 : Bool) (F : Fr) (w : World) => F 1 = (.pointer (some ⟨b6, 0, none⟩)) ∧ F 3 = (.int .i64 s_l1) ∧ F 50 = (.bool s_j2) ∧ Hp w0 [Ent.blk b6 38 #[(.int .i64 a0.Boats), v1, v3], Ent.snap w0 w0.heap.size] w) (fun s_j2 => M.spec_IsTable_j2 a0 s_l1 s_j2 = some t773) ?_ ?_
          · refine CW.draw Try_mixed ?_
            have hL := hL.call (Mod.drew _)
            refine DW.pre (fuel := 0) (fin := (((((((((((((((((((((Array.replicate 20 false).setIfInBounds 0 true).setIfInBounds 1 true).setIfInBounds 2 true).setIfInBounds 3 true).setIfInBounds 4 true).setIfInBounds 5 true).setIfInBounds 6 true).setIfInBounds 7 true).setIfInBounds 8 true).setIfInBounds 9 true).setIfInBounds 10 true).setIfInBounds 11 true).setIfInBounds 12 true).setIfInBounds 13 true).setIfInBounds 14 true).setIfInBounds 15 true).setIfInBounds 16 true).setIfInBounds 17 true).setIfInBounds 18 true).setIfInBounds 19 true)) (C := fun w' => Mod None_ _ w') [0, 1, 2, 3, 4, 5, 6, 7, 8, 9, 10, 11, 12, 13, 14, 15, 16, 17, 18, 19] (Mod.refl _ _) (by kernel_rfl) (by kernel_rfl) ?_
            refine QW.cons rfl (QP.val (v := (.pointer (some ⟨b6, 1, none⟩))) rfl (fun w' hm' => x_fieldAddr (fsz := 1) 0 1 1 Try.underlying38 rfl Try_T33 rfl f783 rfl) ?_)
            refine QW.cons rfl (QP.val (v := v1) rfl (fun w' hm' => x_load1 Try.underlying33 rfl rfl ((hL.call hm').cellB 0 rfl rfl)) ?_)
            refine QW.cons rfl (QP.val (v := (.int .i64 s_l1)) rfl (fun w' hm' => x_mv f784) ?_)
            obtain ⟨x1137, ha1138, hm⟩ := bndE hm
            obtain ⟨hz1139, ha1147⟩ := idxE ha1138
            obtain ⟨b1140, q1141, v1142, hix1143, hs1144, hc1145, hr1146⟩ := rdN_at h2 hz1139 ha1147
            refine QW.cons rfl (QP.val (v := (.pointer (some ⟨b1140, q1141, none⟩))) rfl (fun w' hm' => x_ix Try.underlying33 Try_T53 rfl rfl hix1143) ?_)
            refine QW.cons rfl (QP.val (v := v1142) rfl (fun w' hm' => x_load1 Try.underlying53 rfl rfl ((hL.call hm').cellS 1 rfl hs1144 hc1145)) ?_)
            refine QW.cons rfl (QP.val (v := (.int .i64 (x1137.length : Int))) rfl (fun w' hm' => x_lenR Try.underlying53 rfl ((hL.call hm').rdS 1 rfl hr1146)) ?_)
            refine QW.cons rfl (QP.val (v := (.pointer (some ⟨b6, 0, none⟩))) rfl (fun w' hm' => x_fieldAddr (fsz := 1) 0 0 0 Try.underlying38 rfl Try_T2 rfl f783 rfl) ?_)
            refine QW.cons rfl (QP.val (v := (.int .i64 a0.Boats)) rfl (fun w' hm' => x_load1 Try.underlying2 rfl rfl ((hL.call hm').cellB 0 rfl rfl)) ?_)
            refine QW.cons rfl (QP.val (v := (.bool ((x1137.length : Int) != a0.Boats))) rfl (fun w' hm' => x_neq rfl rfl) ?_)
            refine QW.cons rfl (QP.val (v := (.bool ((x1137.length : Int) != a0.Boats))) rfl (fun w' hm' => x_move) ?_)
            refine ifB_elim hm (fun hb1148 hm => ?_) (fun hb1148 hm => ?_)
            · refine QW.cons rfl (QP.no' rfl rfl hb1148 rfl ?_)
              refine QW.cons rfl (QP.no' rfl rfl hb1148 rfl ?_)
              refine QW.cons rfl (QP.no' rfl rfl hb1148 rfl ?_)
              refine QW.cons rfl (QP.no' rfl rfl hb1148 rfl ?_)
              refine QW.cons rfl (QP.no' rfl rfl hb1148 rfl ?_)
              refine QW.cons rfl (QP.no' rfl rfl hb1148 rfl ?_)
              refine QW.cons rfl (QP.no' rfl rfl hb1148 rfl ?_)
              refine QW.cons rfl (QP.no' rfl rfl hb1148 rfl ?_)
              refine QW.cons rfl (QP.no' rfl rfl hb1148 rfl ?_)
              refine QW.cons rfl (QP.val (v := (.bool true)) rfl (fun w' hm' => x_pickT' rfl hb1148 rfl) ?_)
              refine QW.nil ?_
              intro wd1149 hmod
              have hL := hL.call hmod
              refine DW.done (by kernel_rfl) ?_
              exact ⟨true, hm, ⟨f783, f784, rfl, hL⟩⟩
            · refine QW.cons rfl (QP.yes' rfl rfl hb1148 (QP.val (v := (.pointer (some ⟨b6, 2, none⟩))) rfl (fun w' hm' => x_fieldAddr (fsz := 1) 0 2 2 Try.underlying38 rfl Try_T33 rfl f783 rfl) ?_))
              refine QW.cons rfl (QP.yes' rfl rfl hb1148 (QP.val (v := v3) rfl (fun w' hm' => x_load1 Try.underlying33 rfl rfl ((hL.call hm').cellB 0 rfl rfl)) ?_))
              refine QW.cons rfl (QP.yes' rfl rfl hb1148 (QP.val (v := (.int .i64 s_l1)) rfl (fun w' hm' => x_mv f784) ?_))
              obtain ⟨x1150, ha1151, hm⟩ := bndE hm
              obtain ⟨hz1152, ha1160⟩ := idxE ha1151
              obtain ⟨b1153, q1154, v1155, hix1156, hs1157, hc1158, hr1159⟩ := rdN_at h4 hz1152 ha1160
              refine QW.cons rfl (QP.yes' rfl rfl hb1148 (QP.val (v := (.pointer (some ⟨b1153, q1154, none⟩))) rfl (fun w' hm' => x_ix Try.underlying33 Try_T53 rfl rfl hix1156) ?_))
              refine QW.cons rfl (QP.yes' rfl rfl hb1148 (QP.val (v := v1155) rfl (fun w' hm' => x_load1 Try.underlying53 rfl rfl ((hL.call hm').cellS 1 rfl hs1157 hc1158)) ?_))
              refine QW.cons rfl (QP.yes' rfl rfl hb1148 (QP.val (v := (.int .i64 (x1150.length : Int))) rfl (fun w' hm' => x_lenR Try.underlying53 rfl ((hL.call hm').rdS 1 rfl hr1159)) ?_))
              refine QW.cons rfl (QP.yes' rfl rfl hb1148 (QP.val (v := (.pointer (some ⟨b6, 0, none⟩))) rfl (fun w' hm' => x_fieldAddr (fsz := 1) 0 0 0 Try.underlying38 rfl Try_T2 rfl f783 rfl) ?_))
              refine QW.cons rfl (QP.yes' rfl rfl hb1148 (QP.val (v := (.int .i64 a0.Boats)) rfl (fun w' hm' => x_load1 Try.underlying2 rfl rfl ((hL.call hm').cellB 0 rfl rfl)) ?_))
              refine QW.cons rfl (QP.yes' rfl rfl hb1148 (QP.val (v := (.bool ((x1150.length : Int) != a0.Boats))) rfl (fun w' hm' => x_neq rfl rfl) ?_))
              refine QW.cons rfl (QP.val (v := (.bool ((x1150.length : Int) != a0.Boats))) rfl (fun w' hm' => x_pickF' rfl hb1148 rfl) ?_)
              refine QW.nil ?_
              intro wd1161 hmod
              have hL := hL.call hmod
              refine DW.done (by kernel_rfl) ?_
              exact ⟨(x1150.length : Int) != a0.Boats, hm, ⟨f783, f784, rfl, hL⟩⟩
          · intro s_j2 F811 wd812 hJ hm
            unfold M.spec_IsTable_j2 at hm
            obtain ⟨f813, f814, f815, hL⟩ := hJ
            refine CW.condM (t := s_j2) f815 hm (fun hb816 hm => ?_) (fun hb816 hm => ?_)
            · refine CW.seq ?_
              refine CW.regionL ?_
              refine OW.cons (OP.val (v := (.bool false)) rfl (x_assign) ?_)
              refine OW.nil ?_
              refine CW.ret ?_
              obtain rfl := Option.some.inj hm
              have hm := hr774 _ rfl
              obtain rfl := Option.some.inj hm
              exact RR1 rfl rfl ⟨rfl, hL.fresh 1 rfl [] (by decide) (by decide) rfl⟩
            · refine CW.skip ?_
              refine CW.seq ?_
              refine CW.regionL ?_
              refine OW.cons (OP.val (v := (.int .i64 0)) rfl (x_assign) ?_)
              refine OW.nil ?_
              obtain ⟨o1023, ho1024, hm⟩ := bndE hm
              refine CW.loopB (fun (s_l2 : Int) (F : Fr) (w : World) => F 1 = (.pointer (some ⟨b6, 0, none⟩)) ∧ F 3 = (.int .i64 s_l1) ∧ F 4 = (.int .i64 s_l2) ∧ Hp w0 [Ent.blk b6 38 #[(.int .i64 a0.Boats), v1, v3], Ent.snap w0 w0.heap.size] w) (fun o => outc o (fun x => some (.ret x)) (fun s => M.spec_IsTable_a2 s_l1 s) = some t773) ho1024 hm ⟨f813, f814, rfl, hL⟩ ?_ ?_
              · intro s_l2 F1025 wd1026 hJ hm
                have hm := outcE hm
                have hm : M.spec_IsTable_a2 s_l1 s_l2 = some t773 := hm
                unfold M.spec_IsTable_a2 at hm
                obtain ⟨f1027, f1028, f1029, hL⟩ := hJ
                refine CW.regionL ?_
                refine OW.cons (OP.val (v := (.int .i64 s_l1)) rfl (x_mv f1028) ?_)
                refine OW.cons (OP.val (v := (.int .i64 (w64 (s_l1 + 1)))) rfl (x_add rfl rfl) ?_)
                refine OW.cons (OP.val (v := (.int .i64 (w64 (s_l1 + 1)))) rfl (x_assign) ?_)
                refine OW.nil ?_
                obtain rfl := Option.some.inj hm
                exact ⟨_, rfl, ⟨f1027, rfl, hL⟩⟩
              · intro s_l2 F1030 wd1031 t1021 hJ hm hr1022
                unfold M.spec_IsTable_l2 at hm
                obtain ⟨f1032, f1033, f1034, hL⟩ := hJ
                refine CW.seq ?_
                refine CW.seq ?_
                refine CW.regionL ?_
                refine OW.cons (OP.val (v := (.int .i64 s_l2)) rfl (x_mv f1034) ?_)
                refine OW.cons (OP.val (v := (.pointer (some ⟨b6, 0, none⟩))) rfl (x_fieldAddr (fsz := 1) 0 0 0 Try.underlying38 rfl Try_T2 rfl f1032 rfl) ?_)
                refine OW.cons (OP.val (v := (.int .i64 a0.Boats)) rfl (x_load1 Try.underlying2 rfl rfl (hL.cellB 0 rfl rfl)) ?_)
                refine OW.cons (OP.val (v := (.bool (decide (s_l2 < a0.Boats)))) rfl (x_lss rfl rfl) ?_)
                refine OW.nil ?_
                refine CW.condM (t := decide (s_l2 < a0.Boats)) rfl hm (fun hb1035 hm => ?_) (fun hb1035 hm => ?_)
                · refine CW.skip ?_
                  refine CW.seq ?_
                  refine CW.block ?_
                  refine CW.seqJ (fun (s_j3 : Bool) (F : Fr) (w : World) => F 1 = (.pointer (some ⟨b6, 0, none⟩)) ∧ F 3 = (.int .i64 s_l1) ∧ F 4 = (.int .i64 s_l2) ∧ F 78 = (.bool s_j3) ∧ Hp w0 [Ent.blk b6 38 #[(.int .i64 a0.Boats), v1, v3], Ent.snap w0 w0.heap.size] w) (fun s_j3 => M.spec_IsTable_j3 s_l2 s_j3 = some t1021) ?_ ?_
                  · refine CW.regionL ?_
                    refine OW.cons (OP.val (v := (.pointer (some ⟨b6, 1, none⟩))) rfl (x_fieldAddr (fsz := 1) 0 1 1 Try.underlying38 rfl Try_T33 rfl f1032 rfl) ?_)
                    refine OW.cons (OP.val (v := v1) rfl (x_load1 Try.underlying33 rfl rfl (hL.cellB 0 rfl rfl)) ?_)
                    refine OW.cons (OP.val (v := (.int .i64 s_l1)) rfl (x_mv f1033) ?_)
                    obtain ⟨x1090, ha1091, hm⟩ := bndE hm
                    obtain ⟨hz1092, ha1100⟩ := idxE ha1091
                    obtain ⟨b1093, q1094, v1095, hix1096, hs1097, hc1098, hr1099⟩ := rdN_at h2 hz1092 ha1100
                    refine OW.cons (OP.val (v := (.pointer (some ⟨b1093, q1094, none⟩))) rfl (x_ix Try.underlying33 Try_T53 rfl rfl hix1096) ?_)
                    refine OW.cons (OP.val (v := v1095) rfl (x_load1 Try.underlying53 rfl rfl (hL.cellS 1 rfl hs1097 hc1098)) ?_)
                    refine OW.cons (OP.val (v := (.int .i64 s_l2)) rfl (x_mv f1034) ?_)
                    obtain ⟨x1101, ha1102, hm⟩ := bndE hm
                    obtain ⟨hz1103, ha1107⟩ := idxE ha1102
                    obtain ⟨b1104, q1105, hix1106⟩ := rdL_ix (hL.rdS 1 rfl hr1099) hz1103 ha1107
                    refine OW.cons (OP.val (v := (.pointer (some ⟨b1104, q1105, none⟩))) rfl (x_ix Try.underlying53 Try_T2 rfl rfl hix1106) ?_)
                    refine OW.cons (OP.val (v := (.int .i64 x1101)) rfl (x_load1 Try.underlying2 rfl rfl (rdF_cells (hL.rdS 1 rfl hr1099) hix1106 ha1107 0 _ rfl)) ?_)
                    obtain ⟨x1108, hx1109, hm⟩ := bndE hm
                    refine OW.cons (OP.call rfl (x_call (vs := [(.int .i64 x1101), (.int .i64 0), (.int .i64 10000)]) Try_C51 ⟨rfl, rfl, rfl, trivial⟩) (M.spec_l01In_ok _ x1101 0 10000 hx1109) ?_)
                    rintro e1110 wd1111 ⟨rfl, hF1112⟩
                    refine ⟨_, rfl, ?_⟩
                    have hL := hL.pushAll hF1112
                    simp only [List.cons_append, List.nil_append, List.set_cons_zero, List.set_cons_succ] at hL
                    refine OW.cons (OP.val (v := (.bool (!x1108))) rfl (x_not rfl) ?_)
                    refine OW.cons (OP.val (v := (.bool (!x1108))) rfl (x_move) ?_)
                    refine ifB_elim hm (fun hb1113 hm => ?_) (fun hb1113 hm => ?_)
                    · refine OW.cons (OP.no' rfl rfl hb1113 rfl ?_)
                      refine OW.cons (OP.no' rfl rfl hb1113 rfl ?_)
                      refine OW.cons (OP.no' rfl rfl hb1113 rfl ?_)
                      refine OW.cons (OP.no' rfl rfl hb1113 rfl ?_)
                      refine OW.cons (OP.no' rfl rfl hb1113 rfl ?_)
                      refine OW.cons (OP.no' rfl rfl hb1113 rfl ?_)
                      refine OW.cons (OP.no' rfl rfl hb1113 rfl ?_)
                      refine OW.cons (OP.no' rfl rfl hb1113 rfl ?_)
                      refine OW.cons (OP.no' rfl rfl hb1113 rfl ?_)
                      refine OW.cons (OP.no' rfl rfl hb1113 rfl ?_)
                      refine OW.cons (OP.val (v := (.bool true)) rfl (x_pickT' rfl hb1113 rfl) ?_)
                      refine OW.nil ?_
                      exact ⟨true, hm, ⟨f1032, f1033, f1034, rfl, hL⟩⟩
                    · refine OW.cons (OP.yes' rfl rfl hb1113 (OP.val (v := (.pointer (some ⟨b6, 2, none⟩))) rfl (x_fieldAddr (fsz := 1) 0 2 2 Try.underlying38 rfl Try_T33 rfl f1032 rfl) ?_))
                      refine OW.cons (OP.yes' rfl rfl hb1113 (OP.val (v := v3) rfl (x_load1 Try.underlying33 rfl rfl (hL.cellB 0 rfl rfl)) ?_))
                      refine OW.cons (OP.yes' rfl rfl hb1113 (OP.val (v := (.int .i64 s_l1)) rfl (x_mv f1033) ?_))
                      obtain ⟨x1114, ha1115, hm⟩ := bndE hm
                      obtain ⟨hz1116, ha1124⟩ := idxE ha1115
                      obtain ⟨b1117, q1118, v1119, hix1120, hs1121, hc1122, hr1123⟩ := rdN_at h4 hz1116 ha1124
                      refine OW.cons (OP.yes' rfl rfl hb1113 (OP.val (v := (.pointer (some ⟨b1117, q1118, none⟩))) rfl (x_ix Try.underlying33 Try_T53 rfl rfl hix1120) ?_))
                      refine OW.cons (OP.yes' rfl rfl hb1113 (OP.val (v := v1119) rfl (x_load1 Try.underlying53 rfl rfl (hL.cellS 1 rfl hs1121 hc1122)) ?_))
                      refine OW.cons (OP.yes' rfl rfl hb1113 (OP.val (v := (.int .i64 s_l2)) rfl (x_mv f1034) ?_))
                      obtain ⟨x1125, ha1126, hm⟩ := bndE hm
                      obtain ⟨hz1127, ha1131⟩ := idxE ha1126
                      obtain ⟨b1128, q1129, hix1130⟩ := rdL_ix (hL.rdS 1 rfl hr1123) hz1127 ha1131
                      refine OW.cons (OP.yes' rfl rfl hb1113 (OP.val (v := (.pointer (some ⟨b1128, q1129, none⟩))) rfl (x_ix Try.underlying53 Try_T2 rfl rfl hix1130) ?_))
                      refine OW.cons (OP.yes' rfl rfl hb1113 (OP.val (v := (.int .i64 x1125)) rfl (x_load1 Try.underlying2 rfl rfl (rdF_cells (hL.rdS 1 rfl hr1123) hix1130 ha1131 0 _ rfl)) ?_))
                      obtain ⟨x1132, hx1133, hm⟩ := bndE hm
                      refine OW.cons (OP.yes' rfl rfl hb1113 (OP.call rfl (x_call (vs := [(.int .i64 x1125)]) Try_C57 ⟨rfl, trivial⟩) (M.spec_l26Code_ok _ x1125 hx1133) ?_))
                      rintro e1134 wd1135 ⟨rfl, hF1136⟩
                      refine ⟨_, rfl, ?_⟩
                      have hL := hL.pushAll hF1136
                      simp only [List.cons_append, List.nil_append, List.set_cons_zero, List.set_cons_succ] at hL
                      refine OW.cons (OP.yes' rfl rfl hb1113 (OP.val (v := (.bool (!x1132))) rfl (x_not rfl) ?_))
                      refine OW.cons (OP.val (v := (.bool (!x1132))) rfl (x_pickF' rfl hb1113 rfl) ?_)
                      refine OW.nil ?_
                      exact ⟨!x1132, hm, ⟨f1032, f1033, f1034, rfl, hL⟩⟩
                  · intro s_j3 F1083 wd1084 hJ hm
                    unfold M.spec_IsTable_j3 at hm
                    obtain ⟨f1085, f1086, f1087, f1088, hL⟩ := hJ
                    refine CW.condM (t := s_j3) f1088 hm (fun hb1089 hm => ?_) (fun hb1089 hm => ?_)
                    · refine CW.seq ?_
                      refine CW.regionL ?_
                      refine OW.cons (OP.val (v := (.bool false)) rfl (x_assign) ?_)
                      refine OW.nil ?_
                      refine CW.ret ?_
                      obtain rfl := Option.some.inj hm
                      have hm := hr1022 _ rfl
                      obtain rfl := Option.some.inj hm
                      have hm := hr774 _ rfl
                      obtain rfl := Option.some.inj hm
                      exact RR1 rfl rfl ⟨rfl, hL.fresh 1 rfl [] (by decide) (by decide) rfl⟩
                    · refine CW.skip ?_
                      refine CW.regionL ?_
                      refine OW.cons (OP.val (v := (.int .i64 s_l2)) rfl (x_mv f1087) ?_)
                      refine OW.cons (OP.val (v := (.int .i64 (w64 (s_l2 + 1)))) rfl (x_add rfl rfl) ?_)
                      refine OW.cons (OP.val (v := (.int .i64 (w64 (s_l2 + 1)))) rfl (x_assign) ?_)
                      refine OW.nil ?_
                      obtain rfl := Option.some.inj hm
                      exact ⟨_, rfl, ⟨f1085, f1086, rfl, hL⟩⟩
                · refine CW.exit ?_
                  refine XJ.hit ?_
                  obtain rfl := Option.some.inj hm
                  exact ⟨_, rfl, ⟨f1032, f1033, f1034, hL⟩⟩
        · refine CW.exit ?_
          refine XJ.hit ?_
          obtain rfl := Option.some.inj hm
          exact ⟨_, rfl, ⟨f783, f784, hL⟩⟩

theorem M.impl_areRow_ok (w0 : World) (a0 : List Int) {v1 : Value} (h2 : rdL (· < w0.heap.size) w0 v1 a0) (a1 : Int) (a2 : Int) {r : Bool} (hm : M.impl_areRow a0 a1 a2 = some r) :
    Calls Try.prog 60 #[v1, (.int .i64 a1), (.int .i64 a2)] w0 fun e w' => e = .returned (.bool r) ∧ Fresh w0 w' [] := by
  unfold M.impl_areRow at hm
  refine calls_CW (args := [v1, (.int .i64 a1), (.int .i64 a2)]) Try.func60 rfl rfl rfl ?_
  have hL := Hp.start w0
  refine CW.seq ?_
  refine CW.regionL ?_
  refine OW.cons (OP.val (v := (.bool false)) rfl (x_assign) ?_)
  refine OW.nil ?_
  refine CW.seq ?_
  refine CW.seq ?_
  refine CW.regionL ?_
  refine OW.cons (OP.val (v := v1) rfl (x_move) ?_)
  refine OW.cons (OP.val (v := (.int .i64 (a0.length : Int))) rfl (x_lenR Try.underlying53 rfl (hL.rdS 0 rfl h2)) ?_)
  refine OW.cons (OP.val (v := (.int .i64 0)) rfl (x_move) ?_)
  refine OW.nil ?_
  obtain ⟨o33, ho34, hm⟩ := bndE hm
  refine CW.loopB (fun (s_l1 : Int) (F : Fr) (w : World) => F 0 = v1 ∧ F 1 = (.int .i64 a1) ∧ F 2 = (.int .i64 a2) ∧ F 9 = v1 ∧ F 10 = (.int .i64 (a0.length : Int)) ∧ F 11 = (.int .i64 s_l1) ∧ Hp w0 [Ent.snap w0 w0.heap.size] w) (fun o => outc o (fun x => some x) (fun s => M.impl_areRow_a1 a0 a1 s) = some r) ho34 hm ⟨rfl, rfl, rfl, rfl, rfl, rfl, hL⟩ ?_ ?_
  · intro s_l1 F35 wd36 hJ hm
    have hm := outcE hm
    have hm : M.impl_areRow_a1 a0 a1 s_l1 = some r := hm
    unfold M.impl_areRow_a1 at hm
    obtain ⟨f37, f38, f39, f40, f41, f42, hL⟩ := hJ
    refine CW.seq ?_
    refine CW.regionL ?_
    refine OW.cons (OP.val (v := v1) rfl (x_mv f37) ?_)
    refine OW.cons (OP.val (v := (.int .i64 (a0.length : Int))) rfl (x_lenR Try.underlying53 rfl (hL.rdS 0 rfl h2)) ?_)
    refine OW.cons (OP.val (v := (.int .i64 a1)) rfl (x_mv f38) ?_)
    refine OW.cons (OP.val (v := (.bool ((a0.length : Int) == a1))) rfl (x_eql rfl rfl) ?_)
    refine OW.cons (OP.val (v := (.bool ((a0.length : Int) == a1))) rfl (x_assign) ?_)
    refine OW.nil ?_
    refine CW.ret ?_
    obtain rfl := Option.some.inj hm
    exact RR1 rfl rfl ⟨rfl, hL.fresh 0 rfl [] (by decide) (by decide) rfl⟩
  · intro s_l1 F43 wd44 t31 hJ hm hr32
    unfold M.impl_areRow_l1 at hm
    obtain ⟨f45, f46, f47, f48, f49, f50, hL⟩ := hJ
    refine CW.seq ?_
    refine CW.regionL ?_
    refine OW.cons (OP.val (v := (.bool (decide (s_l1 < (a0.length : Int))))) rfl (x_lss f50 f49) ?_)
    refine OW.nil ?_
    refine CW.seq ?_
    refine CW.condM (t := decide (s_l1 < (a0.length : Int))) rfl hm (fun hb51 hm => ?_) (fun hb51 hm => ?_)
    · refine CW.skip ?_
      refine CW.seq ?_
      refine CW.block ?_
      refine CW.seq ?_
      refine CW.regionL ?_
      obtain ⟨x52, ha53, hm⟩ := bndE hm
      obtain ⟨hz54, ha58⟩ := idxE ha53
      obtain ⟨b55, q56, hix57⟩ := rdL_ix (hL.rdS 0 rfl h2) hz54 ha58
      refine OW.cons (OP.val (v := (.pointer (some ⟨b55, q56, none⟩))) rfl (x_ix Try.underlying53 Try_T2 f48 f50 hix57) ?_)
      refine OW.cons (OP.val (v := (.int .i64 x52)) rfl (x_load1 Try.underlying2 rfl rfl (rdF_cells (hL.rdS 0 rfl h2) hix57 ha58 0 _ rfl)) ?_)
      refine OW.cons (OP.val (v := (.int .i64 x52)) rfl (x_assign) ?_)
      refine OW.nil ?_
      refine CW.seq ?_
      refine CW.regionL ?_
      refine OW.cons (OP.val (v := (.int .i64 x52)) rfl (x_move) ?_)
      refine OW.cons (OP.val (v := (.int .i64 a2)) rfl (x_mv f47) ?_)
      obtain ⟨x59, hx60, hm⟩ := bndE hm
      refine OW.cons (OP.call rfl (x_call (vs := [(.int .i64 x52), (.int .i64 0), (.int .i64 a2)]) Try_C59 ⟨rfl, rfl, rfl, trivial⟩) (M.impl_within_ok _ x52 0 a2 hx60) ?_)
      rintro e61 wd62 ⟨rfl, hF63⟩
      refine ⟨_, rfl, ?_⟩
      have hL := hL.pushAll hF63
      simp only [List.cons_append, List.nil_append, List.set_cons_zero, List.set_cons_succ] at hL
      refine OW.cons (OP.val (v := (.bool (!x59))) rfl (x_not rfl) ?_)
      refine OW.nil ?_
      refine CW.condM (t := !x59) rfl hm (fun hb64 hm => ?_) (fun hb64 hm => ?_)
      · refine CW.seq ?_
        refine CW.regionL ?_
        refine OW.cons (OP.val (v := (.bool false)) rfl (x_assign) ?_)
        refine OW.nil ?_
        refine CW.ret ?_
        obtain rfl := Option.some.inj hm
        have hm := hr32 _ rfl
        obtain rfl := Option.some.inj hm
        exact RR1 rfl rfl ⟨rfl, hL.fresh 0 rfl [] (by decide) (by decide) rfl⟩
      · refine CW.skip ?_
        refine CW.regionL ?_
        refine OW.cons (OP.val (v := (.int .i64 (w64 (s_l1 + 1)))) rfl (x_add f50 rfl) ?_)
        refine OW.cons (OP.val (v := (.int .i64 (w64 (s_l1 + 1)))) rfl (x_move) ?_)
        refine OW.nil ?_
        obtain rfl := Option.some.inj hm
        exact ⟨_, rfl, ⟨f45, f46, f47, f48, f49, rfl, hL⟩⟩
    · refine CW.exit ?_
      refine XJ.hit ?_
      obtain rfl := Option.some.inj hm
      exact ⟨_, rfl, ⟨f45, f46, f47, f48, f49, f50, hL⟩⟩

theorem M.impl_IsTable_ok (w0 : World) (a0 : Table) {v1 : Value} {v3 : Value} (h2 : rdL (· < w0.heap.size) w0 v1 a0.Points) (h4 : rdL (· < w0.heap.size) w0 v3 a0.Codes) {r : Bool} (hm : M.impl_IsTable a0 = some r) :
    Calls Try.prog 21 #[(.agg #[(.int .i64 a0.Boats), v1, v3])] w0 fun e w' => e = .returned (.bool r) ∧ Fresh w0 w' [] := by
  unfold M.impl_IsTable at hm
  refine calls_CW (args := [(.agg #[(.int .i64 a0.Boats), v1, v3])]) Try.func21 rfl rfl rfl ?_
  have hL := Hp.start w0
  refine CW.seq ?_
  refine CW.regionL ?_
  refine OW.cons (S_box (cs := #[(.int .i64 a0.Boats), v1, v3]) hL rfl rfl rfl ?_)
  intro wd5 b6 hL
  refine OW.cons (OP.val (v := (.bool false)) rfl (x_assign) ?_)
  refine OW.nil ?_
  refine CW.seq ?_
  refine CW.seqJ (fun (s_j1 : Bool) (F : Fr) (w : World) => F 1 = (.pointer (some ⟨b6, 0, none⟩)) ∧ F 22 = (.bool s_j1) ∧ Hp w0 [Ent.blk b6 38 #[(.int .i64 a0.Boats), v1, v3], Ent.snap w0 w0.heap.size] w) (fun s_j1 => M.impl_IsTable_j1 a0 s_j1 = some r) ?_ ?_
  · refine CW.regionL ?_
    refine OW.cons (OP.val (v := (.pointer (some ⟨b6, 0, none⟩))) rfl (x_fieldAddr (fsz := 1) 0 0 0 Try.underlying38 rfl Try_T2 rfl rfl rfl) ?_)
    refine OW.cons (OP.val (v := (.int .i64 a0.Boats)) rfl (x_load1 Try.underlying2 rfl rfl (hL.cellB 0 rfl rfl)) ?_)
    obtain ⟨x231, hx232, hm⟩ := bndE hm
    refine OW.cons (OP.call rfl (x_call (vs := [(.int .i64 a0.Boats), (.int .i64 1), (.int .i64 16)]) Try_C59 ⟨rfl, rfl, rfl, trivial⟩) (M.impl_within_ok _ a0.Boats 1 16 hx232) ?_)
    rintro e233 wd234 ⟨rfl, hF235⟩
    refine ⟨_, rfl, ?_⟩
    have hL := hL.pushAll hF235
    simp only [List.cons_append, List.nil_append, List.set_cons_zero, List.set_cons_succ] at hL
    refine OW.cons (OP.val (v := (.bool (!x231))) rfl (x_not rfl) ?_)
    refine OW.cons (OP.val (v := (.bool (!x231))) rfl (x_move) ?_)
    refine ifB_elim hm (fun hb236 hm => ?_) (fun hb236 hm => ?_)
    · refine OW.cons (OP.no' rfl rfl hb236 rfl ?_)
      refine OW.cons (OP.no' rfl rfl hb236 rfl ?_)
      refine OW.cons (OP.no' rfl rfl hb236 rfl ?_)
      refine OW.cons (OP.no' rfl rfl hb236 rfl ?_)
      refine OW.cons (OP.val (v := (.bool true)) rfl (x_pickT' rfl hb236 rfl) ?_)
      refine OW.cons (OP.val (v := (.bool true)) rfl (x_move) ?_)
      refine OW.cons (OP.no' rfl rfl rfl rfl ?_)
      refine OW.cons (OP.no' rfl rfl rfl rfl ?_)
      refine OW.cons (OP.no' rfl rfl rfl rfl ?_)
      refine OW.cons (OP.no' rfl rfl rfl rfl ?_)
      refine OW.cons (OP.no' rfl rfl rfl rfl ?_)
      refine OW.cons (OP.no' rfl rfl rfl rfl ?_)
      refine OW.cons (OP.no' rfl rfl rfl rfl ?_)
      refine OW.cons (OP.val (v := (.bool true)) rfl (x_pickT' rfl rfl rfl) ?_)
      refine OW.nil ?_
      exact ⟨true, hm, ⟨rfl, rfl, hL⟩⟩
    · refine OW.cons (OP.yes' rfl rfl hb236 (OP.val (v := (.pointer (some ⟨b6, 1, none⟩))) rfl (x_fieldAddr (fsz := 1) 0 1 1 Try.underlying38 rfl Try_T33 rfl rfl rfl) ?_))
      refine OW.cons (OP.yes' rfl rfl hb236 (OP.val (v := v1) rfl (x_load1 Try.underlying33 rfl rfl (hL.cellB 0 rfl rfl)) ?_))
      refine OW.cons (OP.yes' rfl rfl hb236 (OP.val (v := (.int .i64 (a0.Points.length : Int))) rfl (x_lenR Try.underlying33 rfl (hL.rdS 1 rfl h2)) ?_))
      refine OW.cons (OP.yes' rfl rfl hb236 (OP.val (v := (.bool (decide (12 < (a0.Points.length : Int))))) rfl (x_gtr rfl rfl) ?_))
      refine OW.cons (OP.val (v := (.bool (decide (12 < (a0.Points.length : Int))))) rfl (x_pickF' rfl hb236 rfl) ?_)
      refine OW.cons (OP.val (v := (.bool (decide (12 < (a0.Points.length : Int))))) rfl (x_move) ?_)
      refine ifB_elim hm (fun hb237 hm => ?_) (fun hb237 hm => ?_)
      · refine OW.cons (OP.no' rfl rfl hb237 rfl ?_)
        refine OW.cons (OP.no' rfl rfl hb237 rfl ?_)
        refine OW.cons (OP.no' rfl rfl hb237 rfl ?_)
        refine OW.cons (OP.no' rfl rfl hb237 rfl ?_)
        refine OW.cons (OP.no' rfl rfl hb237 rfl ?_)
        refine OW.cons (OP.no' rfl rfl hb237 rfl ?_)
        refine OW.cons (OP.no' rfl rfl hb237 rfl ?_)
        refine OW.cons (OP.val (v := (.bool true)) rfl (x_pickT' rfl hb237 rfl) ?_)
        refine OW.nil ?_
        exact ⟨true, hm, ⟨rfl, rfl, hL⟩⟩
      · refine OW.cons (OP.yes' rfl rfl hb237 (OP.val (v := (.pointer (some ⟨b6, 1, none⟩))) rfl (x_fieldAddr (fsz := 1) 0 1 1 Try.underlying38 rfl Try_T33 rfl rfl rfl) ?_))
        refine OW.cons (OP.yes' rfl rfl hb237 (OP.val (v := v1) rfl (x_load1 Try.underlying33 rfl rfl (hL.cellB 0 rfl rfl)) ?_))
        refine OW.cons (OP.yes' rfl rfl hb237 (OP.val (v := (.int .i64 (a0.Points.length : Int))) rfl (x_lenR Try.underlying33 rfl (hL.rdS 1 rfl h2)) ?_))
        refine OW.cons (OP.yes' rfl rfl hb237 (OP.val (v := (.pointer (some ⟨b6, 2, none⟩))) rfl (x_fieldAddr (fsz := 1) 0 2 2 Try.underlying38 rfl Try_T33 rfl rfl rfl) ?_))
        refine OW.cons (OP.yes' rfl rfl hb237 (OP.val (v := v3) rfl (x_load1 Try.underlying33 rfl rfl (hL.cellB 0 rfl rfl)) ?_))
        refine OW.cons (OP.yes' rfl rfl hb237 (OP.val (v := (.int .i64 (a0.Codes.length : Int))) rfl (x_lenR Try.underlying33 rfl (hL.rdS 1 rfl h4)) ?_))
        refine OW.cons (OP.yes' rfl rfl hb237 (OP.val (v := (.bool ((a0.Points.length : Int) != (a0.Codes.length : Int)))) rfl (x_neq rfl rfl) ?_))
        refine OW.cons (OP.val (v := (.bool ((a0.Points.length : Int) != (a0.Codes.length : Int)))) rfl (x_pickF' rfl hb237 rfl) ?_)
        refine OW.nil ?_
        exact ⟨(a0.Points.length : Int) != (a0.Codes.length : Int), hm, ⟨rfl, rfl, hL⟩⟩
  · intro s_j1 F14 wd15 hJ hm
    unfold M.impl_IsTable_j1 at hm
    obtain ⟨f16, f17, hL⟩ := hJ
    refine CW.condM (t := s_j1) f17 hm (fun hb18 hm => ?_) (fun hb18 hm => ?_)
    · refine CW.seq ?_
      refine CW.regionL ?_
      refine OW.cons (OP.val (v := (.bool false)) rfl (x_assign) ?_)
      refine OW.nil ?_
      refine CW.ret ?_
      obtain rfl := Option.some.inj hm
      exact RR1 rfl rfl ⟨rfl, hL.fresh 1 rfl [] (by decide) (by decide) rfl⟩
    · refine CW.skip ?_
      refine CW.seq ?_
      refine CW.seq ?_
      refine CW.regionL ?_
      refine OW.cons (OP.val (v := (.pointer (some ⟨b6, 1, none⟩))) rfl (x_fieldAddr (fsz := 1) 0 1 1 Try.underlying38 rfl Try_T33 rfl f16 rfl) ?_)
      refine OW.cons (OP.val (v := v1) rfl (x_load1 Try.underlying33 rfl rfl (hL.cellB 0 rfl rfl)) ?_)
      refine OW.cons (OP.val (v := (.int .i64 (a0.Points.length : Int))) rfl (x_lenR Try.underlying33 rfl (hL.rdS 1 rfl h2)) ?_)
      refine OW.cons (OP.val (v := (.int .i64 0)) rfl (x_move) ?_)
      refine OW.nil ?_
      obtain ⟨o153, ho154, hm⟩ := bndE hm
      refine CW.loopB (fun (s_l1 : Int) (F : Fr) (w : World) => F 1 = (.pointer (some ⟨b6, 0, none⟩)) ∧ F 25 = (.int .i64 (a0.Points.length : Int)) ∧ F 26 = (.int .i64 s_l1) ∧ Hp w0 [Ent.blk b6 38 #[(.int .i64 a0.Boats), v1, v3], Ent.snap w0 w0.heap.size] w) (fun o => outc o (fun x => some x) (fun s => M.impl_IsTable_a1 s) = some r) ho154 hm ⟨f16, rfl, rfl, hL⟩ ?_ ?_
      · intro s_l1 F155 wd156 hJ hm
        have hm := outcE hm
        have hm : M.impl_IsTable_a1 s_l1 = some r := hm
        unfold M.impl_IsTable_a1 at hm
        obtain ⟨f157, f158, f159, hL⟩ := hJ
        refine CW.seq ?_
        refine CW.regionL ?_
        refine OW.cons (OP.val (v := (.bool true)) rfl (x_assign) ?_)
        refine OW.nil ?_
        refine CW.ret ?_
        obtain rfl := Option.some.inj hm
        exact RR1 rfl rfl ⟨rfl, hL.fresh 1 rfl [] (by decide) (by decide) rfl⟩
      · intro s_l1 F160 wd161 t151 hJ hm hr152
        unfold M.impl_IsTable_l1 at hm
        obtain ⟨f162, f163, f164, hL⟩ := hJ
        refine CW.seq ?_
        refine CW.regionL ?_
        refine OW.cons (OP.val (v := (.bool (decide (s_l1 < (a0.Points.length : Int))))) rfl (x_lss f164 f163) ?_)
        refine OW.nil ?_
        refine CW.seq ?_
        refine CW.condM (t := decide (s_l1 < (a0.Points.length : Int))) rfl hm (fun hb165 hm => ?_) (fun hb165 hm => ?_)
        · refine CW.skip ?_
          refine CW.seq ?_
          refine CW.block ?_
          refine CW.seq ?_
          refine CW.regionL ?_
          refine OW.cons (OP.val (v := (.int .i64 s_l1)) rfl (x_mv f164) ?_)
          refine OW.cons (OP.val (v := (.int .i64 s_l1)) rfl (x_assign) ?_)
          refine OW.nil ?_
          refine CW.seqJ (fun (s_j2 : Bool) (F : Fr) (w : World) => F 1 = (.pointer (some ⟨b6, 0, none⟩)) ∧ F 25 = (.int .i64 (a0.Points.length : Int)) ∧ F 26 = (.int .i64 s_l1) ∧ F 48 = (.bool s_j2) ∧ Hp w0 [Ent.blk b6 38 #[(.int .i64 a0.Boats), v1, v3], Ent.snap w0 w0.heap.size] w) (fun s_j2 => M.impl_IsTable_j2 s_l1 s_j2 = some t151) ?_ ?_
          · refine CW.draw Try_mixed ?_
            have hL := hL.call (Mod.drew _)
            refine DW.pre (fuel := 0) (fin := (((((((((((((((((((((Array.replicate 20 false).setIfInBounds 0 true).setIfInBounds 1 true).setIfInBounds 2 true).setIfInBounds 3 true).setIfInBounds 4 true).setIfInBounds 5 true).setIfInBounds 6 true).setIfInBounds 7 true).setIfInBounds 8 true).setIfInBounds 9 true).setIfInBounds 10 true).setIfInBounds 11 true).setIfInBounds 12 true).setIfInBounds 13 true).setIfInBounds 14 true).setIfInBounds 15 true).setIfInBounds 16 true).setIfInBounds 17 true).setIfInBounds 18 true).setIfInBounds 19 true)) (C := fun w' => Mod None_ _ w') [0, 1, 2, 3, 4, 5, 6, 7, 8, 9, 10, 11, 12, 13, 14, 15, 16, 17, 18, 19] (Mod.refl _ _) (by kernel_rfl) (by kernel_rfl) ?_
            refine QW.cons rfl (QP.val (v := (.pointer (some ⟨b6, 1, none⟩))) rfl (fun w' hm' => x_fieldAddr (fsz := 1) 0 1 1 Try.underlying38 rfl Try_T33 rfl f162 rfl) ?_)
            refine QW.cons rfl (QP.val (v := v1) rfl (fun w' hm' => x_load1 Try.underlying33 rfl rfl ((hL.call hm').cellB 0 rfl rfl)) ?_)
            refine QW.cons rfl (QP.val (v := (.int .i64 s_l1)) rfl (fun w' hm' => x_move) ?_)
            obtain ⟨x202, ha203, hm⟩ := bndE hm
            obtain ⟨hz204, ha212⟩ := idxE ha203
            obtain ⟨b205, q206, v207, hix208, hs209, hc210, hr211⟩ := rdN_at h2 hz204 ha212
            refine QW.cons rfl (QP.val (v := (.pointer (some ⟨b205, q206, none⟩))) rfl (fun w' hm' => x_ix Try.underlying33 Try_T53 rfl rfl hix208) ?_)
            refine QW.cons rfl (QP.val (v := v207) rfl (fun w' hm' => x_load1 Try.underlying53 rfl rfl ((hL.call hm').cellS 1 rfl hs209 hc210)) ?_)
            refine QW.cons rfl (QP.val (v := (.pointer (some ⟨b6, 0, none⟩))) rfl (fun w' hm' => x_fieldAddr (fsz := 1) 0 0 0 Try.underlying38 rfl Try_T2 rfl f162 rfl) ?_)
            refine QW.cons rfl (QP.val (v := (.int .i64 a0.Boats)) rfl (fun w' hm' => x_load1 Try.underlying2 rfl rfl ((hL.call hm').cellB 0 rfl rfl)) ?_)
            obtain ⟨x213, hx214, hm⟩ := bndE hm
            refine QW.cons rfl (QP.call (v := (.bool x213)) rfl (fun w' hm' => x_call (vs := [v207, (.int .i64 a0.Boats), (.int .i64 10000)]) Try_C60 ⟨rfl, rfl, rfl, trivial⟩) (fun w' hm' => (M.impl_areRow_ok w' x202 ((hL.call hm').rdS 1 rfl hr211) a0.Boats 10000 hx214).mono (fun e w'' h => ⟨h.1, hm'.trans h.2.mod⟩)) ?_)
            refine QW.cons rfl (QP.val (v := (.bool (!x213))) rfl (fun w' hm' => x_not rfl) ?_)
            refine QW.cons rfl (QP.val (v := (.bool (!x213))) rfl (fun w' hm' => x_move) ?_)
            refine ifB_elim hm (fun hb215 hm => ?_) (fun hb215 hm => ?_)
            · refine QW.cons rfl (QP.no' rfl rfl hb215 rfl ?_)
              refine QW.cons rfl (QP.no' rfl rfl hb215 rfl ?_)
              refine QW.cons rfl (QP.no' rfl rfl hb215 rfl ?_)
              refine QW.cons rfl (QP.no' rfl rfl hb215 rfl ?_)
              refine QW.cons rfl (QP.no' rfl rfl hb215 rfl ?_)
              refine QW.cons rfl (QP.no' rfl rfl hb215 rfl ?_)
              refine QW.cons rfl (QP.no' rfl rfl hb215 rfl ?_)
              refine QW.cons rfl (QP.no' rfl rfl hb215 rfl ?_)
              refine QW.cons rfl (QP.no' rfl rfl hb215 rfl ?_)
              refine QW.cons rfl (QP.val (v := (.bool true)) rfl (fun w' hm' => x_pickT' rfl hb215 rfl) ?_)
              refine QW.nil ?_
              intro wd216 hmod
              have hL := hL.call hmod
              refine DW.done (by kernel_rfl) ?_
              exact ⟨true, hm, ⟨f162, f163, f164, rfl, hL⟩⟩
            · refine QW.cons rfl (QP.yes' rfl rfl hb215 (QP.val (v := (.pointer (some ⟨b6, 2, none⟩))) rfl (fun w' hm' => x_fieldAddr (fsz := 1) 0 2 2 Try.underlying38 rfl Try_T33 rfl f162 rfl) ?_))
              refine QW.cons rfl (QP.yes' rfl rfl hb215 (QP.val (v := v3) rfl (fun w' hm' => x_load1 Try.underlying33 rfl rfl ((hL.call hm').cellB 0 rfl rfl)) ?_))
              refine QW.cons rfl (QP.yes' rfl rfl hb215 (QP.val (v := (.int .i64 s_l1)) rfl (fun w' hm' => x_move) ?_))
              obtain ⟨x217, ha218, hm⟩ := bndE hm
              obtain ⟨hz219, ha227⟩ := idxE ha218
              obtain ⟨b220, q221, v222, hix223, hs224, hc225, hr226⟩ := rdN_at h4 hz219 ha227
              refine QW.cons rfl (QP.yes' rfl rfl hb215 (QP.val (v := (.pointer (some ⟨b220, q221, none⟩))) rfl (fun w' hm' => x_ix Try.underlying33 Try_T53 rfl rfl hix223) ?_))
              refine QW.cons rfl (QP.yes' rfl rfl hb215 (QP.val (v := v222) rfl (fun w' hm' => x_load1 Try.underlying53 rfl rfl ((hL.call hm').cellS 1 rfl hs224 hc225)) ?_))
              refine QW.cons rfl (QP.yes' rfl rfl hb215 (QP.val (v := (.pointer (some ⟨b6, 0, none⟩))) rfl (fun w' hm' => x_fieldAddr (fsz := 1) 0 0 0 Try.underlying38 rfl Try_T2 rfl f162 rfl) ?_))
              refine QW.cons rfl (QP.yes' rfl rfl hb215 (QP.val (v := (.int .i64 a0.Boats)) rfl (fun w' hm' => x_load1 Try.underlying2 rfl rfl ((hL.call hm').cellB 0 rfl rfl)) ?_))
              obtain ⟨x228, hx229, hm⟩ := bndE hm
              refine QW.cons rfl (QP.yes' rfl rfl hb215 (QP.call (v := (.bool x228)) rfl (fun w' hm' => x_call (vs := [v222, (.int .i64 a0.Boats), (.int .i64 9)]) Try_C60 ⟨rfl, rfl, rfl, trivial⟩) (fun w' hm' => (M.impl_areRow_ok w' x217 ((hL.call hm').rdS 1 rfl hr226) a0.Boats 9 hx229).mono (fun e w'' h => ⟨h.1, hm'.trans h.2.mod⟩)) ?_))
              refine QW.cons rfl (QP.yes' rfl rfl hb215 (QP.val (v := (.bool (!x228))) rfl (fun w' hm' => x_not rfl) ?_))
              refine QW.cons rfl (QP.val (v := (.bool (!x228))) rfl (fun w' hm' => x_pickF' rfl hb215 rfl) ?_)
              refine QW.nil ?_
              intro wd230 hmod
              have hL := hL.call hmod
              refine DW.done (by kernel_rfl) ?_
              exact ⟨!x228, hm, ⟨f162, f163, f164, rfl, hL⟩⟩
          · intro s_j2 F195 wd196 hJ hm
            unfold M.impl_IsTable_j2 at hm
            obtain ⟨f197, f198, f199, f200, hL⟩ := hJ
            refine CW.condM (t := s_j2) f200 hm (fun hb201 hm => ?_) (fun hb201 hm => ?_)
            · refine CW.seq ?_
              refine CW.regionL ?_
              refine OW.cons (OP.val (v := (.bool false)) rfl (x_assign) ?_)
              refine OW.nil ?_
              refine CW.ret ?_
              obtain rfl := Option.some.inj hm
              have hm := hr152 _ rfl
              obtain rfl := Option.some.inj hm
              exact RR1 rfl rfl ⟨rfl, hL.fresh 1 rfl [] (by decide) (by decide) rfl⟩
            · refine CW.skip ?_
              refine CW.regionL ?_
              refine OW.cons (OP.val (v := (.int .i64 (w64 (s_l1 + 1)))) rfl (x_add f199 rfl) ?_)
              refine OW.cons (OP.val (v := (.int .i64 (w64 (s_l1 + 1)))) rfl (x_move) ?_)
              refine OW.nil ?_
              obtain rfl := Option.some.inj hm
              exact ⟨_, rfl, ⟨f197, f198, rfl, hL⟩⟩
        · refine CW.exit ?_
          refine XJ.hit ?_
          obtain rfl := Option.some.inj hm
          exact ⟨_, rfl, ⟨f162, f163, f164, hL⟩⟩

theorem M.laws_eqInt64S_ok (w0 : World) (a0 : List Int) {v1 : Value} (h2 : rdL (· < w0.heap.size) w0 v1 a0) (a1 : List Int) {v3 : Value} (h4 : rdL (· < w0.heap.size) w0 v3 a1) {r : Bool} (hm : M.laws_eqInt64S a0 a1 = some r) :
    Calls Try.prog 30 #[v1, v3] w0 fun e w' => e = .returned (.bool r) ∧ Fresh w0 w' [] := by
  unfold M.laws_eqInt64S at hm
  refine calls_CW (args := [v1, v3]) Try.func30 rfl rfl rfl ?_
  have hL := Hp.start w0
  refine CW.seq ?_
  refine CW.regionL ?_
  refine OW.cons (OP.val (v := (.bool false)) rfl (x_assign) ?_)
  refine OW.nil ?_
  refine CW.seq ?_
  refine CW.seq ?_
  refine CW.regionL ?_
  refine OW.cons (OP.val (v := v1) rfl (x_move) ?_)
  refine OW.cons (OP.val (v := (.int .i64 (a0.length : Int))) rfl (x_lenR Try.underlying53 rfl (hL.rdS 0 rfl h2)) ?_)
  refine OW.cons (OP.val (v := v3) rfl (x_move) ?_)
  refine OW.cons (OP.val (v := (.int .i64 (a1.length : Int))) rfl (x_lenR Try.underlying53 rfl (hL.rdS 0 rfl h4)) ?_)
  refine OW.cons (OP.val (v := (.bool ((a0.length : Int) != (a1.length : Int)))) rfl (x_neq rfl rfl) ?_)
  refine OW.nil ?_
  refine CW.condM (t := (a0.length : Int) != (a1.length : Int)) rfl hm (fun hb5 hm => ?_) (fun hb5 hm => ?_)
  · refine CW.seq ?_
    refine CW.regionL ?_
    refine OW.cons (OP.val (v := (.bool false)) rfl (x_assign) ?_)
    refine OW.nil ?_
    refine CW.ret ?_
    obtain rfl := Option.some.inj hm
    exact RR1 rfl rfl ⟨rfl, hL.fresh 0 rfl [] (by decide) (by decide) rfl⟩
  · refine CW.skip ?_
    refine CW.seq ?_
    refine CW.seq ?_
    refine CW.regionL ?_
    refine OW.cons (OP.val (v := (.int .i64 0)) rfl (x_assign) ?_)
    refine OW.nil ?_
    obtain ⟨o42, ho43, hm⟩ := bndE hm
    refine CW.loopB (fun (s_l1 : Int) (F : Fr) (w : World) => F 0 = v1 ∧ F 1 = v3 ∧ F 5 = (.int .i64 s_l1) ∧ Hp w0 [Ent.snap w0 w0.heap.size] w) (fun o => outc o (fun x => some x) (fun s => M.laws_eqInt64S_a1 s) = some r) ho43 hm ⟨rfl, rfl, rfl, hL⟩ ?_ ?_
    · intro s_l1 F44 wd45 hJ hm
      have hm := outcE hm
      have hm : M.laws_eqInt64S_a1 s_l1 = some r := hm
      unfold M.laws_eqInt64S_a1 at hm
      obtain ⟨f46, f47, f48, hL⟩ := hJ
      refine CW.seq ?_
      refine CW.regionL ?_
      refine OW.cons (OP.val (v := (.bool true)) rfl (x_assign) ?_)
      refine OW.nil ?_
      refine CW.ret ?_
      obtain rfl := Option.some.inj hm
      exact RR1 rfl rfl ⟨rfl, hL.fresh 0 rfl [] (by decide) (by decide) rfl⟩
    · intro s_l1 F49 wd50 t40 hJ hm hr41
      unfold M.laws_eqInt64S_l1 at hm
      obtain ⟨f51, f52, f53, hL⟩ := hJ
      refine CW.seq ?_
      refine CW.seq ?_
      refine CW.regionL ?_
      refine OW.cons (OP.val (v := (.int .i64 s_l1)) rfl (x_mv f53) ?_)
      refine OW.cons (OP.val (v := v1) rfl (x_mv f51) ?_)
      refine OW.cons (OP.val (v := (.int .i64 (a0.length : Int))) rfl (x_lenR Try.underlying53 rfl (hL.rdS 0 rfl h2)) ?_)
      refine OW.cons (OP.val (v := (.bool (decide (s_l1 < (a0.length : Int))))) rfl (x_lss rfl rfl) ?_)
      refine OW.nil ?_
      refine CW.condM (t := decide (s_l1 < (a0.length : Int))) rfl hm (fun hb54 hm => ?_) (fun hb54 hm => ?_)
      · refine CW.skip ?_
        refine CW.seq ?_
        refine CW.block ?_
        refine CW.seq ?_
        refine CW.draw Try_mixed ?_
        have hL := hL.call (Mod.drew _)
        refine DW.pre (fuel := 0) (fin := ((((((((((Array.replicate 9 false).setIfInBounds 0 true).setIfInBounds 1 true).setIfInBounds 2 true).setIfInBounds 3 true).setIfInBounds 4 true).setIfInBounds 5 true).setIfInBounds 6 true).setIfInBounds 7 true).setIfInBounds 8 true)) (C := fun w' => Mod None_ _ w') [0, 1, 2, 3, 4, 5, 6, 7, 8] (Mod.refl _ _) (by kernel_rfl) (by kernel_rfl) ?_
        refine QW.cons rfl (QP.val (v := v1) rfl (fun w' hm' => x_mv f51) ?_)
        refine QW.cons rfl (QP.val (v := (.int .i64 s_l1)) rfl (fun w' hm' => x_mv f53) ?_)
        obtain ⟨x55, ha56, hm⟩ := bndE hm
        obtain ⟨hz57, ha61⟩ := idxE ha56
        obtain ⟨b58, q59, hix60⟩ := rdL_ix (hL.rdS 0 rfl h2) hz57 ha61
        refine QW.cons rfl (QP.val (v := (.pointer (some ⟨b58, q59, none⟩))) rfl (fun w' hm' => x_ix Try.underlying53 Try_T2 rfl rfl hix60) ?_)
        refine QW.cons rfl (QP.val (v := (.int .i64 x55)) rfl (fun w' hm' => x_load1 Try.underlying2 rfl rfl (rdF_cells ((hL.call hm').rdS 0 rfl h2) hix60 ha61 0 _ rfl)) ?_)
        refine QW.cons rfl (QP.val (v := v3) rfl (fun w' hm' => x_mv f52) ?_)
        refine QW.cons rfl (QP.val (v := (.int .i64 s_l1)) rfl (fun w' hm' => x_mv f53) ?_)
        obtain ⟨x62, ha63, hm⟩ := bndE hm
        obtain ⟨hz64, ha68⟩ := idxE ha63
        obtain ⟨b65, q66, hix67⟩ := rdL_ix (hL.rdS 0 rfl h4) hz64 ha68
        refine QW.cons rfl (QP.val (v := (.pointer (some ⟨b65, q66, none⟩))) rfl (fun w' hm' => x_ix Try.underlying53 Try_T2 rfl rfl hix67) ?_)
        refine QW.cons rfl (QP.val (v := (.int .i64 x62)) rfl (fun w' hm' => x_load1 Try.underlying2 rfl rfl (rdF_cells ((hL.call hm').rdS 0 rfl h4) hix67 ha68 0 _ rfl)) ?_)
        refine QW.cons rfl (QP.val (v := (.bool (x55 != x62))) rfl (fun w' hm' => x_neq rfl rfl) ?_)
        refine QW.nil ?_
        intro wd69 hmod
        have hL := hL.call hmod
        refine DW.done (by kernel_rfl) ?_
        refine CW.condM (t := x55 != x62) rfl hm (fun hb70 hm => ?_) (fun hb70 hm => ?_)
        · refine CW.seq ?_
          refine CW.regionL ?_
          refine OW.cons (OP.val (v := (.bool false)) rfl (x_assign) ?_)
          refine OW.nil ?_
          refine CW.ret ?_
          obtain rfl := Option.some.inj hm
          have hm := hr41 _ rfl
          obtain rfl := Option.some.inj hm
          exact RR1 rfl rfl ⟨rfl, hL.fresh 0 rfl [] (by decide) (by decide) rfl⟩
        · refine CW.skip ?_
          refine CW.regionL ?_
          refine OW.cons (OP.val (v := (.int .i64 s_l1)) rfl (x_mv f53) ?_)
          refine OW.cons (OP.val (v := (.int .i64 (w64 (s_l1 + 1)))) rfl (x_add rfl rfl) ?_)
          refine OW.cons (OP.val (v := (.int .i64 (w64 (s_l1 + 1)))) rfl (x_assign) ?_)
          refine OW.nil ?_
          obtain rfl := Option.some.inj hm
          exact ⟨_, rfl, ⟨f51, f52, rfl, hL⟩⟩
      · refine CW.exit ?_
        refine XJ.hit ?_
        obtain rfl := Option.some.inj hm
        exact ⟨_, rfl, ⟨f51, f52, f53, hL⟩⟩

theorem M.laws_eqInt64SS_ok (w0 : World) (a0 : List (List Int)) {v1 : Value} (h2 : rdL (· < w0.heap.size) w0 v1 a0) (a1 : List (List Int)) {v3 : Value} (h4 : rdL (· < w0.heap.size) w0 v3 a1) {r : Bool} (hm : M.laws_eqInt64SS a0 a1 = some r) :
    Calls Try.prog 61 #[v1, v3] w0 fun e w' => e = .returned (.bool r) ∧ Fresh w0 w' [] := by
  unfold M.laws_eqInt64SS at hm
  refine calls_CW (args := [v1, v3]) Try.func61 rfl rfl rfl ?_
  have hL := Hp.start w0
  refine CW.seq ?_
  refine CW.regionL ?_
  refine OW.cons (OP.val (v := (.bool false)) rfl (x_assign) ?_)
  refine OW.nil ?_
  refine CW.seq ?_
  refine CW.seq ?_
  refine CW.regionL ?_
  refine OW.cons (OP.val (v := v1) rfl (x_move) ?_)
  refine OW.cons (OP.val (v := (.int .i64 (a0.length : Int))) rfl (x_lenR Try.underlying33 rfl (hL.rdS 0 rfl h2)) ?_)
  refine OW.cons (OP.val (v := v3) rfl (x_move) ?_)
  refine OW.cons (OP.val (v := (.int .i64 (a1.length : Int))) rfl (x_lenR Try.underlying33 rfl (hL.rdS 0 rfl h4)) ?_)
  refine OW.cons (OP.val (v := (.bool ((a0.length : Int) != (a1.length : Int)))) rfl (x_neq rfl rfl) ?_)
  refine OW.nil ?_
  refine CW.condM (t := (a0.length : Int) != (a1.length : Int)) rfl hm (fun hb5 hm => ?_) (fun hb5 hm => ?_)
  · refine CW.seq ?_
    refine CW.regionL ?_
    refine OW.cons (OP.val (v := (.bool false)) rfl (x_assign) ?_)
    refine OW.nil ?_
    refine CW.ret ?_
    obtain rfl := Option.some.inj hm
    exact RR1 rfl rfl ⟨rfl, hL.fresh 0 rfl [] (by decide) (by decide) rfl⟩
  · refine CW.skip ?_
    refine CW.seq ?_
    refine CW.seq ?_
    refine CW.regionL ?_
    refine OW.cons (OP.val (v := (.int .i64 0)) rfl (x_assign) ?_)
    refine OW.nil ?_
    obtain ⟨o62, ho63, hm⟩ := bndE hm
    refine CW.loopB (fun (s_l1 : Int) (F : Fr) (w : World) => F 0 = v1 ∧ F 1 = v3 ∧ F 5 = (.int .i64 s_l1) ∧ Hp w0 [Ent.snap w0 w0.heap.size] w) (fun o => outc o (fun x => some x) (fun s => M.laws_eqInt64SS_a1 s) = some r) ho63 hm ⟨rfl, rfl, rfl, hL⟩ ?_ ?_
    · intro s_l1 F64 wd65 hJ hm
      have hm := outcE hm
      have hm : M.laws_eqInt64SS_a1 s_l1 = some r := hm
      unfold M.laws_eqInt64SS_a1 at hm
      obtain ⟨f66, f67, f68, hL⟩ := hJ
      refine CW.seq ?_
      refine CW.regionL ?_
      refine OW.cons (OP.val (v := (.bool true)) rfl (x_assign) ?_)
      refine OW.nil ?_
      refine CW.ret ?_
      obtain rfl := Option.some.inj hm
      exact RR1 rfl rfl ⟨rfl, hL.fresh 0 rfl [] (by decide) (by decide) rfl⟩
    · intro s_l1 F69 wd70 t60 hJ hm hr61
      unfold M.laws_eqInt64SS_l1 at hm
      obtain ⟨f71, f72, f73, hL⟩ := hJ
      refine CW.seq ?_
      refine CW.seq ?_
      refine CW.regionL ?_
      refine OW.cons (OP.val (v := (.int .i64 s_l1)) rfl (x_mv f73) ?_)
      refine OW.cons (OP.val (v := v1) rfl (x_mv f71) ?_)
      refine OW.cons (OP.val (v := (.int .i64 (a0.length : Int))) rfl (x_lenR Try.underlying33 rfl (hL.rdS 0 rfl h2)) ?_)
      refine OW.cons (OP.val (v := (.bool (decide (s_l1 < (a0.length : Int))))) rfl (x_lss rfl rfl) ?_)
      refine OW.nil ?_
      refine CW.condM (t := decide (s_l1 < (a0.length : Int))) rfl hm (fun hb74 hm => ?_) (fun hb74 hm => ?_)
      · refine CW.skip ?_
        refine CW.seq ?_
        refine CW.block ?_
        refine CW.seq ?_
        refine CW.draw Try_mixed ?_
        have hL := hL.call (Mod.drew _)
        refine DW.pre (fuel := 0) (fin := (((((((((((Array.replicate 10 false).setIfInBounds 0 true).setIfInBounds 1 true).setIfInBounds 2 true).setIfInBounds 3 true).setIfInBounds 4 true).setIfInBounds 5 true).setIfInBounds 6 true).setIfInBounds 7 true).setIfInBounds 8 true).setIfInBounds 9 true)) (C := fun w' => Mod None_ _ w') [0, 1, 2, 3, 4, 5, 6, 7, 8, 9] (Mod.refl _ _) (by kernel_rfl) (by kernel_rfl) ?_
        refine QW.cons rfl (QP.val (v := v1) rfl (fun w' hm' => x_mv f71) ?_)
        refine QW.cons rfl (QP.val (v := (.int .i64 s_l1)) rfl (fun w' hm' => x_mv f73) ?_)
        obtain ⟨x75, ha76, hm⟩ := bndE hm
        obtain ⟨hz77, ha85⟩ := idxE ha76
        obtain ⟨b78, q79, v80, hix81, hs82, hc83, hr84⟩ := rdN_at h2 hz77 ha85
        refine QW.cons rfl (QP.val (v := (.pointer (some ⟨b78, q79, none⟩))) rfl (fun w' hm' => x_ix Try.underlying33 Try_T53 rfl rfl hix81) ?_)
        refine QW.cons rfl (QP.val (v := v80) rfl (fun w' hm' => x_load1 Try.underlying53 rfl rfl ((hL.call hm').cellS 0 rfl hs82 hc83)) ?_)
        refine QW.cons rfl (QP.val (v := v3) rfl (fun w' hm' => x_mv f72) ?_)
        refine QW.cons rfl (QP.val (v := (.int .i64 s_l1)) rfl (fun w' hm' => x_mv f73) ?_)
        obtain ⟨x86, ha87, hm⟩ := bndE hm
        obtain ⟨hz88, ha96⟩ := idxE ha87
        obtain ⟨b89, q90, v91, hix92, hs93, hc94, hr95⟩ := rdN_at h4 hz88 ha96
        refine QW.cons rfl (QP.val (v := (.pointer (some ⟨b89, q90, none⟩))) rfl (fun w' hm' => x_ix Try.underlying33 Try_T53 rfl rfl hix92) ?_)
        refine QW.cons rfl (QP.val (v := v91) rfl (fun w' hm' => x_load1 Try.underlying53 rfl rfl ((hL.call hm').cellS 0 rfl hs93 hc94)) ?_)
        obtain ⟨x97, hx98, hm⟩ := bndE hm
        refine QW.cons rfl (QP.call (v := (.bool x97)) rfl (fun w' hm' => x_call (vs := [v80, v91]) Try_C30 ⟨rfl, rfl, trivial⟩) (fun w' hm' => (M.laws_eqInt64S_ok w' x75 ((hL.call hm').rdS 0 rfl hr84) x86 ((hL.call hm').rdS 0 rfl hr95) hx98).mono (fun e w'' h => ⟨h.1, hm'.trans h.2.mod⟩)) ?_)
        refine QW.cons rfl (QP.val (v := (.bool (!x97))) rfl (fun w' hm' => x_not rfl) ?_)
        refine QW.nil ?_
        intro wd99 hmod
        have hL := hL.call hmod
        refine DW.done (by kernel_rfl) ?_
        refine CW.condM (t := !x97) rfl hm (fun hb100 hm => ?_) (fun hb100 hm => ?_)
        · refine CW.seq ?_
          refine CW.regionL ?_
          refine OW.cons (OP.val (v := (.bool false)) rfl (x_assign) ?_)
          refine OW.nil ?_
          refine CW.ret ?_
          obtain rfl := Option.some.inj hm
          have hm := hr61 _ rfl
          obtain rfl := Option.some.inj hm
          exact RR1 rfl rfl ⟨rfl, hL.fresh 0 rfl [] (by decide) (by decide) rfl⟩
        · refine CW.skip ?_
          refine CW.regionL ?_
          refine OW.cons (OP.val (v := (.int .i64 s_l1)) rfl (x_mv f73) ?_)
          refine OW.cons (OP.val (v := (.int .i64 (w64 (s_l1 + 1)))) rfl (x_add rfl rfl) ?_)
          refine OW.cons (OP.val (v := (.int .i64 (w64 (s_l1 + 1)))) rfl (x_assign) ?_)
          refine OW.nil ?_
          obtain rfl := Option.some.inj hm
          exact ⟨_, rfl, ⟨f71, f72, rfl, hL⟩⟩
      · refine CW.exit ?_
        refine XJ.hit ?_
        obtain rfl := Option.some.inj hm
        exact ⟨_, rfl, ⟨f71, f72, f73, hL⟩⟩

theorem M.laws_eqTable_ok (w0 : World) (a0 : Table) {v1 : Value} {v3 : Value} (h2 : rdL (· < w0.heap.size) w0 v1 a0.Points) (h4 : rdL (· < w0.heap.size) w0 v3 a0.Codes) (a1 : Table) {v5 : Value} {v7 : Value} (h6 : rdL (· < w0.heap.size) w0 v5 a1.Points) (h8 : rdL (· < w0.heap.size) w0 v7 a1.Codes) {r : Bool} (hm : M.laws_eqTable a0 a1 = some r) :
    Calls Try.prog 22 #[(.agg #[(.int .i64 a0.Boats), v1, v3]), (.agg #[(.int .i64 a1.Boats), v5, v7])] w0 fun e w' => e = .returned (.bool r) ∧ Fresh w0 w' [] := by
  unfold M.laws_eqTable at hm
  refine calls_CW (args := [(.agg #[(.int .i64 a0.Boats), v1, v3]), (.agg #[(.int .i64 a1.Boats), v5, v7])]) Try.func22 rfl rfl rfl ?_
  have hL := Hp.start w0
  refine CW.seq ?_
  refine CW.regionL ?_
  refine OW.cons (S_box (cs := #[(.int .i64 a0.Boats), v1, v3]) hL rfl rfl rfl ?_)
  intro wd9 b10 hL
  refine OW.cons (S_box (cs := #[(.int .i64 a1.Boats), v5, v7]) hL rfl rfl rfl ?_)
  intro wd11 b12 hL
  refine OW.cons (OP.val (v := (.bool false)) rfl (x_assign) ?_)
  refine OW.nil ?_
  refine CW.seq ?_
  refine CW.seq ?_
  refine CW.regionL ?_
  refine OW.cons (OP.val (v := (.pointer (some ⟨b10, 0, none⟩))) rfl (x_fieldAddr (fsz := 1) 0 0 0 Try.underlying38 rfl Try_T2 rfl rfl rfl) ?_)
  refine OW.cons (OP.val (v := (.int .i64 a0.Boats)) rfl (x_load1 Try.underlying2 rfl rfl (hL.cellB 1 rfl rfl)) ?_)
  refine OW.cons (OP.val (v := (.pointer (some ⟨b12, 0, none⟩))) rfl (x_fieldAddr (fsz := 1) 0 0 0 Try.underlying38 rfl Try_T2 rfl rfl rfl) ?_)
  refine OW.cons (OP.val (v := (.int .i64 a1.Boats)) rfl (x_load1 Try.underlying2 rfl rfl (hL.cellB 0 rfl rfl)) ?_)
  refine OW.cons (OP.val (v := (.bool (a0.Boats != a1.Boats))) rfl (x_neq rfl rfl) ?_)
  refine OW.nil ?_
  refine CW.condM (t := a0.Boats != a1.Boats) rfl hm (fun hb13 hm => ?_) (fun hb13 hm => ?_)
  · refine CW.seq ?_
    refine CW.regionL ?_
    refine OW.cons (OP.val (v := (.bool false)) rfl (x_assign) ?_)
    refine OW.nil ?_
    refine CW.ret ?_
    obtain rfl := Option.some.inj hm
    exact RR1 rfl rfl ⟨rfl, hL.fresh 2 rfl [] (by decide) (by decide) rfl⟩
  · refine CW.skip ?_
    refine CW.seq ?_
    refine CW.seq ?_
    refine CW.regionL ?_
    refine OW.cons (OP.val (v := (.pointer (some ⟨b10, 1, none⟩))) rfl (x_fieldAddr (fsz := 1) 0 1 1 Try.underlying38 rfl Try_T33 rfl rfl rfl) ?_)
    refine OW.cons (OP.val (v := v1) rfl (x_load1 Try.underlying33 rfl rfl (hL.cellB 1 rfl rfl)) ?_)
    refine OW.cons (OP.val (v := (.pointer (some ⟨b12, 1, none⟩))) rfl (x_fieldAddr (fsz := 1) 0 1 1 Try.underlying38 rfl Try_T33 rfl rfl rfl) ?_)
    refine OW.cons (OP.val (v := v5) rfl (x_load1 Try.underlying33 rfl rfl (hL.cellB 0 rfl rfl)) ?_)
    obtain ⟨x14, hx15, hm⟩ := bndE hm
    refine OW.cons (OP.call rfl (x_call (vs := [v1, v5]) Try_C61 ⟨rfl, rfl, trivial⟩) (M.laws_eqInt64SS_ok _ a0.Points (hL.rdS 2 rfl h2) a1.Points (hL.rdS 2 rfl h6) hx15) ?_)
    rintro e16 wd17 ⟨rfl, hF18⟩
    refine ⟨_, rfl, ?_⟩
    have hL := hL.pushAll hF18
    simp only [List.cons_append, List.nil_append, List.set_cons_zero, List.set_cons_succ] at hL
    refine OW.cons (OP.val (v := (.bool (!x14))) rfl (x_not rfl) ?_)
    refine OW.nil ?_
    refine CW.condM (t := !x14) rfl hm (fun hb19 hm => ?_) (fun hb19 hm => ?_)
    · refine CW.seq ?_
      refine CW.regionL ?_
      refine OW.cons (OP.val (v := (.bool false)) rfl (x_assign) ?_)
      refine OW.nil ?_
      refine CW.ret ?_
      obtain rfl := Option.some.inj hm
      exact RR1 rfl rfl ⟨rfl, hL.fresh 2 rfl [] (by decide) (by decide) rfl⟩
    · refine CW.skip ?_
      refine CW.seq ?_
      refine CW.seq ?_
      refine CW.regionL ?_
      refine OW.cons (OP.val (v := (.pointer (some ⟨b10, 2, none⟩))) rfl (x_fieldAddr (fsz := 1) 0 2 2 Try.underlying38 rfl Try_T33 rfl rfl rfl) ?_)
      refine OW.cons (OP.val (v := v3) rfl (x_load1 Try.underlying33 rfl rfl (hL.cellB 1 rfl rfl)) ?_)
      refine OW.cons (OP.val (v := (.pointer (some ⟨b12, 2, none⟩))) rfl (x_fieldAddr (fsz := 1) 0 2 2 Try.underlying38 rfl Try_T33 rfl rfl rfl) ?_)
      refine OW.cons (OP.val (v := v7) rfl (x_load1 Try.underlying33 rfl rfl (hL.cellB 0 rfl rfl)) ?_)
      obtain ⟨x20, hx21, hm⟩ := bndE hm
      refine OW.cons (OP.call rfl (x_call (vs := [v3, v7]) Try_C61 ⟨rfl, rfl, trivial⟩) (M.laws_eqInt64SS_ok _ a0.Codes (hL.rdS 2 rfl h4) a1.Codes (hL.rdS 2 rfl h8) hx21) ?_)
      rintro e22 wd23 ⟨rfl, hF24⟩
      refine ⟨_, rfl, ?_⟩
      have hL := hL.pushAll hF24
      simp only [List.cons_append, List.nil_append, List.set_cons_zero, List.set_cons_succ] at hL
      refine OW.cons (OP.val (v := (.bool (!x20))) rfl (x_not rfl) ?_)
      refine OW.nil ?_
      refine CW.condM (t := !x20) rfl hm (fun hb25 hm => ?_) (fun hb25 hm => ?_)
      · refine CW.seq ?_
        refine CW.regionL ?_
        refine OW.cons (OP.val (v := (.bool false)) rfl (x_assign) ?_)
        refine OW.nil ?_
        refine CW.ret ?_
        obtain rfl := Option.some.inj hm
        exact RR1 rfl rfl ⟨rfl, hL.fresh 2 rfl [] (by decide) (by decide) rfl⟩
      · refine CW.skip ?_
        refine CW.seq ?_
        refine CW.regionL ?_
        refine OW.cons (OP.val (v := (.bool true)) rfl (x_assign) ?_)
        refine OW.nil ?_
        refine CW.ret ?_
        obtain rfl := Option.some.inj hm
        exact RR1 rfl rfl ⟨rfl, hL.fresh 2 rfl [] (by decide) (by decide) rfl⟩

theorem M.laws_FnExactIsTable_ok (w0 : World) (a0 : Table) {v1 : Value} {v3 : Value} (h2 : rdL (· < w0.heap.size) w0 v1 a0.Points) (h4 : rdL (· < w0.heap.size) w0 v3 a0.Codes) {r : Bool} (hm : M.laws_FnExactIsTable a0 = some r) :
    Calls Try.prog 4 #[(.agg #[(.int .i64 a0.Boats), v1, v3])] w0 fun e w' => e = .returned (.bool r) ∧ Fresh w0 w' [] := by
  unfold M.laws_FnExactIsTable at hm
  refine calls_CW (args := [(.agg #[(.int .i64 a0.Boats), v1, v3])]) Try.func4 rfl rfl rfl ?_
  have hL := Hp.start w0
  refine CW.seq ?_
  refine CW.regionL ?_
  refine OW.cons (S_box (cs := #[(.int .i64 a0.Boats), v1, v3]) hL rfl rfl rfl ?_)
  intro wd5 b6 hL
  refine OW.cons (OP.val (v := (.bool false)) rfl (x_assign) ?_)
  refine OW.nil ?_
  refine CW.seq ?_
  refine CW.regionL ?_
  refine OW.cons (OP.val (v := (.int .i64 1048576)) rfl (x_assign) ?_)
  refine OW.nil ?_
  refine CW.seq ?_
  refine CW.regionL ?_
  refine OW.cons (OP.val (v := (.agg #[(.int .i64 a0.Boats), v1, v3])) rfl (x_loadN (cs := [(.int .i64 a0.Boats), v1, v3]) Try.underlying35 Try_T35 rfl rfl (hL.cellsB 0 rfl (o := 0) (l := [(.int .i64 a0.Boats), v1, v3]) (by intro j u hj; exact (by simpa using hj)))) ?_)
  refine OW.cons (OP.val (v := (.int .i64 1048576)) rfl (x_move) ?_)
  obtain ⟨x7, hx8, hm⟩ := bndE hm
  refine OW.cons (OP.call rfl (x_call (vs := [(.agg #[(.int .i64 a0.Boats), v1, v3]), (.int .i64 1048576)]) Try_C18 ⟨rfl, rfl, trivial⟩) (M.laws_szTable_ok _ a0 (hL.rdS 1 rfl h2) (hL.rdS 1 rfl h4) 1048576 hx8) ?_)
  rintro e9 wd10 ⟨rfl, hF11⟩
  refine ⟨_, rfl, ?_⟩
  have hL := hL.pushAll hF11
  simp only [List.cons_append, List.nil_append, List.set_cons_zero, List.set_cons_succ] at hL
  refine OW.cons (OP.val (v := (.int .i64 x7)) rfl (x_assign) ?_)
  refine OW.nil ?_
  refine CW.seq ?_
  refine CW.seq ?_
  refine CW.regionL ?_
  refine OW.cons (OP.val (v := (.int .i64 x7)) rfl (x_move) ?_)
  refine OW.cons (OP.val (v := (.bool (decide (x7 < 0)))) rfl (x_lss rfl rfl) ?_)
  refine OW.nil ?_
  refine CW.condM (t := decide (x7 < 0)) rfl hm (fun hb12 hm => ?_) (fun hb12 hm => ?_)
  · refine CW.seq ?_
    refine CW.regionL ?_
    refine OW.cons (OP.val (v := (.bool true)) rfl (x_assign) ?_)
    refine OW.nil ?_
    refine CW.ret ?_
    obtain rfl := Option.some.inj hm
    exact RR1 rfl rfl ⟨rfl, hL.fresh 1 rfl [] (by decide) (by decide) rfl⟩
  · refine CW.skip ?_
    refine CW.seq ?_
    refine CW.regionL ?_
    refine OW.cons (OP.val (v := (.agg #[(.int .i64 a0.Boats), v1, v3])) rfl (x_loadN (cs := [(.int .i64 a0.Boats), v1, v3]) Try.underlying35 Try_T35 rfl rfl (hL.cellsB 0 rfl (o := 0) (l := [(.int .i64 a0.Boats), v1, v3]) (by intro j u hj; exact (by simpa using hj)))) ?_)
    obtain ⟨x13, hx14, hm⟩ := bndE hm
    refine OW.cons (OP.call rfl (x_call (vs := [(.agg #[(.int .i64 a0.Boats), v1, v3])]) Try_C20 ⟨rfl, trivial⟩) (M.laws_toTable_ok _ a0 (hL.rdS 1 rfl h2) (hL.rdS 1 rfl h4) hx14) ?_)
    rintro e19 wd20 ⟨v16, S15, v18, S17, rfl, hF21⟩
    refine ⟨_, rfl, ?_⟩
    have hL := hL.pushAll hF21
    simp only [List.cons_append, List.nil_append, List.set_cons_zero, List.set_cons_succ] at hL
    obtain ⟨x22, hx23, hm⟩ := bndE hm
    refine OW.cons (OP.call rfl (x_call (vs := [(.agg #[(.int .i64 x13.Boats), v16, v18])]) Try_C19 ⟨rfl, trivial⟩) (M.spec_IsTable_ok _ x13 (hL.rdO 0 rfl) (hL.rdO 1 rfl) hx23) ?_)
    rintro e24 wd25 ⟨rfl, hF26⟩
    refine ⟨_, rfl, ?_⟩
    have hL := hL.pushAll hF26
    simp only [List.cons_append, List.nil_append, List.set_cons_zero, List.set_cons_succ] at hL
    refine OW.cons (OP.val (v := (.bool x22)) rfl (x_assign) ?_)
    refine OW.nil ?_
    refine CW.seq ?_
    refine CW.regionL ?_
    refine OW.cons (OP.val (v := (.agg #[(.int .i64 a0.Boats), v1, v3])) rfl (x_loadN (cs := [(.int .i64 a0.Boats), v1, v3]) Try.underlying35 Try_T35 rfl rfl (hL.cellsB 2 rfl (o := 0) (l := [(.int .i64 a0.Boats), v1, v3]) (by intro j u hj; exact (by simpa using hj)))) ?_)
    obtain ⟨x27, hx28, hm⟩ := bndE hm
    refine OW.cons (OP.call rfl (x_call (vs := [(.agg #[(.int .i64 a0.Boats), v1, v3])]) Try_C20 ⟨rfl, trivial⟩) (M.laws_toTable_ok _ a0 (hL.rdS 3 rfl h2) (hL.rdS 3 rfl h4) hx28) ?_)
    rintro e33 wd34 ⟨v30, S29, v32, S31, rfl, hF35⟩
    refine ⟨_, rfl, ?_⟩
    have hL := hL.pushAll hF35
    simp only [List.cons_append, List.nil_append, List.set_cons_zero, List.set_cons_succ] at hL
    refine OW.cons (S_alloc (cs := #[(.int .i64 0), (.slice none 0 0), (.slice none 0 0)]) hL Try_T38 rfl rfl ?_)
    intro wd36 b37 hL
    refine OW.cons (S_storeN (l := [(.int .i64 x27.Boats), v30, v32]) (cs' := #[(.int .i64 x27.Boats), v30, v32]) hL 0 rfl Try_T38 rfl rfl (List.forall_mem_cons.2 ⟨rfl, (List.forall_mem_cons.2 ⟨rdL_one (hL.rdO 1 rfl), (List.forall_mem_cons.2 ⟨rdL_one (hL.rdO 2 rfl), (fun _ h => by cases h)⟩)⟩)⟩) rfl (by decide) rfl ?_)
    intro wd38 hL
    refine OW.nil ?_
    refine CW.seq ?_
    refine CW.regionL ?_
    refine OW.cons (OP.val (v := (.agg #[(.int .i64 x27.Boats), v30, v32])) rfl (x_loadN (cs := [(.int .i64 x27.Boats), v30, v32]) Try.underlying38 Try_T38 rfl rfl (hL.cellsB 0 rfl (o := 0) (l := [(.int .i64 x27.Boats), v30, v32]) (by intro j u hj; exact (by simpa using hj)))) ?_)
    obtain ⟨x39, hx40, hm⟩ := bndE hm
    refine OW.cons (OP.call rfl (x_call (vs := [(.agg #[(.int .i64 x27.Boats), v30, v32])]) Try_C21 ⟨rfl, trivial⟩) (M.impl_IsTable_ok _ x27 (hL.rdO 1 rfl) (hL.rdO 2 rfl) hx40) ?_)
    rintro e41 wd42 ⟨rfl, hF43⟩
    refine ⟨_, rfl, ?_⟩
    have hL := hL.pushAll hF43
    simp only [List.cons_append, List.nil_append, List.set_cons_zero, List.set_cons_succ] at hL
    refine OW.cons (OP.val (v := (.bool x39)) rfl (x_assign) ?_)
    refine OW.nil ?_
    refine CW.seq ?_
    refine CW.seq ?_
    refine CW.regionL ?_
    refine OW.cons (OP.val (v := (.bool x39)) rfl (x_move) ?_)
    refine OW.cons (OP.val (v := (.bool x22)) rfl (x_move) ?_)
    refine OW.cons (OP.val (v := (.bool (x39 != x22))) rfl (x_neqB Try.underlying4 rfl rfl) ?_)
    refine OW.nil ?_
    refine CW.condM (t := x39 != x22) rfl hm (fun hb44 hm => ?_) (fun hb44 hm => ?_)
    · refine CW.seq ?_
      refine CW.regionL ?_
      refine OW.cons (OP.val (v := (.bool false)) rfl (x_assign) ?_)
      refine OW.nil ?_
      refine CW.ret ?_
      obtain rfl := Option.some.inj hm
      exact RR1 rfl rfl ⟨rfl, hL.fresh 6 rfl [] (by decide) (by decide) rfl⟩
    · refine CW.skip ?_
      refine CW.seq ?_
      refine CW.seq ?_
      refine CW.drawH (fun w' => Hp w0 [Ent.blk b37 38 #[(.int .i64 x27.Boats), v30, v32], Ent.own 53 S29 v30 x27.Points, Ent.own 53 S31 v32 x27.Codes, Ent.own 53 S15 v16 x13.Points, Ent.own 53 S17 v18 x13.Codes, Ent.blk b6 35 #[(.int .i64 a0.Boats), v1, v3], Ent.snap w0 w0.heap.size] w') Try_mixed ?_
      have hL := hL.call (Mod.drew _)
      have hS := (hL.sel [0, 1, 2, 3, 4, 5, 6] (by decide) rfl)
      refine DH.take 0 rfl (by kernel_rfl) (by kernel_rfl) (by kernel_rfl) rfl rfl hS (YH.val (v := (.agg #[(.int .i64 x27.Boats), v30, v32])) (fun w' hS' => x_loadN (cs := [(.int .i64 x27.Boats), v30, v32]) Try.underlying38 Try_T38 rfl rfl (hS'.cellsB 0 rfl (o := 0) (l := [(.int .i64 x27.Boats), v30, v32]) (by intro j u hj; exact (by simpa using hj))))) ?_
      have hS := (hL.sel [0, 1, 2, 3, 4, 5, 6] (by decide) rfl)
      refine DH.take 1 rfl (by kernel_rfl) (by kernel_rfl) (by kernel_rfl) rfl rfl hS (YH.val (v := (.agg #[(.int .i64 a0.Boats), v1, v3])) (fun w' hS' => x_loadN (cs := [(.int .i64 a0.Boats), v1, v3]) Try.underlying35 Try_T35 rfl rfl (hS'.cellsB 5 rfl (o := 0) (l := [(.int .i64 a0.Boats), v1, v3]) (by intro j u hj; exact (by simpa using hj))))) ?_
      obtain ⟨x59, hx60, hm⟩ := bndE hm
      refine DH.only 2 rfl (by kernel_rfl) (OP.call rfl (x_call (vs := [(.agg #[(.int .i64 a0.Boats), v1, v3])]) Try_C20 ⟨rfl, trivial⟩) (M.laws_toTable_ok _ a0 (hL.rdS 6 rfl h2) (hL.rdS 6 rfl h4) hx60) ?_)
      rintro e65 wd66 ⟨v62, S61, v64, S63, rfl, hF67⟩
      refine ⟨_, rfl, ?_⟩
      have hL := hL.pushAll hF67
      simp only [List.cons_append, List.nil_append, List.set_cons_zero, List.set_cons_succ] at hL
      refine ⟨(hL.sel [2, 3, 4, 5, 6, 7, 8] (by decide) rfl), ?_⟩
      obtain ⟨x68, hx69, hm⟩ := bndE hm
      refine DH.only 3 rfl (by kernel_rfl) (OP.call rfl (x_call (vs := [(.agg #[(.int .i64 x27.Boats), v30, v32]), (.agg #[(.int .i64 x59.Boats), v62, v64])]) Try_C22 ⟨rfl, rfl, trivial⟩) (M.laws_eqTable_ok _ x27 (hL.rdO 3 rfl) (hL.rdO 4 rfl) x59 (hL.rdO 0 rfl) (hL.rdO 1 rfl) hx69) ?_)
      rintro e70 wd71 ⟨rfl, hF72⟩
      refine ⟨_, rfl, ?_⟩
      have hL := hL.pushAll hF72
      simp only [List.cons_append, List.nil_append, List.set_cons_zero, List.set_cons_succ] at hL
      refine ⟨(hL.sel [2, 3, 4, 5, 6, 7, 8] (by decide) rfl), ?_⟩
      have hS := (hL.sel [2, 3, 4, 5, 6, 7, 8] (by decide) rfl)
      refine DH.take 4 rfl (by kernel_rfl) (by kernel_rfl) (by kernel_rfl) rfl rfl hS (YH.val (v := (.bool (!x68))) (fun w' hS' => x_not rfl)) ?_
      refine DH.done (by kernel_rfl) ?_
      refine CW.condM (t := !x68) rfl hm (fun hb73 hm => ?_) (fun hb73 hm => ?_)
      · refine CW.seq ?_
        refine CW.regionL ?_
        refine OW.cons (OP.val (v := (.bool false)) rfl (x_assign) ?_)
        refine OW.nil ?_
        refine CW.ret ?_
        obtain rfl := Option.some.inj hm
        exact RR1 rfl rfl ⟨rfl, hL.fresh 8 rfl [] (by decide) (by decide) rfl⟩
      · refine CW.skip ?_
        refine CW.seq ?_
        refine CW.regionL ?_
        refine OW.cons (OP.val (v := (.bool true)) rfl (x_assign) ?_)
        refine OW.nil ?_
        refine CW.ret ?_
        obtain rfl := Option.some.inj hm
        exact RR1 rfl rfl ⟨rfl, hL.fresh 8 rfl [] (by decide) (by decide) rfl⟩

end Go.Proofs.Ytblljgcbffkahaa
