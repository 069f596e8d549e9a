/- Links: each Go function returns what its model computes and leaves what was there. Printed by my generator. -/
import Derived.Test.YtbkpfcpbpnmjaaaMod3
import Derived.Test.YtbkpfcpbpnmjaaaBase8
import Derived.Test.YtbkpfcpbpnmjaaaProg
import Derived.KernelRfl
import Derived.Test.YtbkpfcpbpnmjaaaLayS25
namespace Go.Proofs.Ytbkpfcpbpnmjaaa
set_option maxRecDepth 10000
open Go Go.RowKit Go.ChangeShapes Go.WideShapes
set_option linter.unusedVariables false
set_option linter.unusedSimpArgs false

theorem Try_mixed : Try.prog.follows .mixedOrders = true := by kernel_rfl
theorem Try_T2 : TyI Try.prog 2 1 8 (.int .i64 0) := by unfold TyI; kernel_rfl
theorem Try_T3 : TyI Try.prog 3 1 8 (.int .i64 0) := by unfold TyI; kernel_rfl
theorem Try_T5 : TyI Try.prog 5 1 1 (.int .u8 0) := by unfold TyI; kernel_rfl
theorem Try_T22 : TyI Try.prog 22 1 24 (.slice none 0 0) := by unfold TyI; kernel_rfl
theorem Try_T28 : TyI Try.prog 28 1 24 (.slice none 0 0) := by unfold TyI; kernel_rfl
theorem Try_T30 : TyI Try.prog 30 1 24 (.slice none 0 0) := by unfold TyI; kernel_rfl
theorem Try_T43 : TyI Try.prog 43 4 32 (.agg #[.int .i64 0, .int .i64 0, .int .i64 0, .int .i64 0]) := by unfold TyI; kernel_rfl
theorem Try_T46 : TyI Try.prog 46 4 32 (.agg #[.int .i64 0, .int .i64 0, .int .i64 0, .int .i64 0]) := by unfold TyI; kernel_rfl
theorem Try_T49 : TyI Try.prog 49 1 24 (.slice none 0 0) := by unfold TyI; kernel_rfl
theorem Try_T56 : TyI Try.prog 56 3 24 (.agg #[.int .i64 0, .int .i64 0, .int .i64 0]) := by unfold TyI; kernel_rfl
theorem Try_T61 : TyI Try.prog 61 2 16 (.agg #[.int .i64 0, .int .i64 0]) := by unfold TyI; kernel_rfl
theorem Try_T81 : TyI Try.prog 81 3 24 (.agg #[.int .i64 0, .int .i64 0, .int .i64 0]) := by unfold TyI; kernel_rfl
theorem Try_T83 : TyI Try.prog 83 2 16 (.agg #[.int .i64 0, .int .i64 0]) := by unfold TyI; kernel_rfl
theorem Try_B46 : BuildI Try.prog 46 [(0, 1), (1, 1), (2, 1), (3, 1)] #[.int .i64 0, .int .i64 0, .int .i64 0, .int .i64 0] := by unfold BuildI; kernel_rfl
theorem Try_B56 : BuildI Try.prog 56 [(0, 1), (1, 1), (2, 1)] #[.int .i64 0, .int .i64 0, .int .i64 0] := by unfold BuildI; kernel_rfl
theorem Try_B61 : BuildI Try.prog 61 [(0, 1), (1, 1)] #[.int .i64 0, .int .i64 0] := by unfold BuildI; kernel_rfl
theorem Try_B111 : BuildI Try.prog 111 [(0, 1), (1, 1), (2, 1)] #[.slice none 0 0, .int .i64 0, .int .i64 0] := by unfold BuildI; kernel_rfl
theorem Try_C11 : CallOK Try.prog 11 := ⟨_, _, Try.func11, rfl, by kernel_rfl⟩
theorem Try_C12 : CallOK Try.prog 12 := ⟨_, _, Try.func12, rfl, by kernel_rfl⟩
theorem Try_C13 : CallOK Try.prog 13 := ⟨_, _, Try.func13, rfl, by kernel_rfl⟩
theorem Try_C14 : CallOK Try.prog 14 := ⟨_, _, Try.func14, rfl, by kernel_rfl⟩
theorem Try_C15 : CallOK Try.prog 15 := ⟨_, _, Try.func15, rfl, by kernel_rfl⟩
theorem Try_C16 : CallOK Try.prog 16 := ⟨_, _, Try.func16, rfl, by kernel_rfl⟩
theorem Try_C17 : CallOK Try.prog 17 := ⟨_, _, Try.func17, rfl, by kernel_rfl⟩
theorem Try_C18 : CallOK Try.prog 18 := ⟨_, _, Try.func18, rfl, by kernel_rfl⟩
theorem Try_C19 : CallOK Try.prog 19 := ⟨_, _, Try.func19, rfl, by kernel_rfl⟩
theorem Try_C20 : CallOK Try.prog 20 := ⟨_, _, Try.func20, rfl, by kernel_rfl⟩
theorem Try_C21 : CallOK Try.prog 21 := ⟨_, _, Try.func21, rfl, by kernel_rfl⟩
theorem Try_C22 : CallOK Try.prog 22 := ⟨_, _, Try.func22, rfl, by kernel_rfl⟩
theorem Try_C23 : CallOK Try.prog 23 := ⟨_, _, Try.func23, rfl, by kernel_rfl⟩
theorem Try_C24 : CallOK Try.prog 24 := ⟨_, _, Try.func24, rfl, by kernel_rfl⟩
theorem Try_C25 : CallOK Try.prog 25 := ⟨_, _, Try.func25, rfl, by kernel_rfl⟩
theorem Try_C26 : CallOK Try.prog 26 := ⟨_, _, Try.func26, rfl, by kernel_rfl⟩
theorem Try_C27 : CallOK Try.prog 27 := ⟨_, _, Try.func27, rfl, by kernel_rfl⟩
theorem Try_C28 : CallOK Try.prog 28 := ⟨_, _, Try.func28, rfl, by kernel_rfl⟩
theorem Try_C29 : CallOK Try.prog 29 := ⟨_, _, Try.func29, rfl, by kernel_rfl⟩
theorem Try_C30 : CallOK Try.prog 30 := ⟨_, _, Try.func30, rfl, by kernel_rfl⟩
theorem Try_C31 : CallOK Try.prog 31 := ⟨_, _, Try.func31, rfl, by kernel_rfl⟩
theorem Try_C32 : CallOK Try.prog 32 := ⟨_, _, Try.func32, rfl, by kernel_rfl⟩
theorem Try_C33 : CallOK Try.prog 33 := ⟨_, _, Try.func33, rfl, by kernel_rfl⟩
theorem Try_C34 : CallOK Try.prog 34 := ⟨_, _, Try.func34, rfl, by kernel_rfl⟩
theorem Try_C35 : CallOK Try.prog 35 := ⟨_, _, Try.func35, rfl, by kernel_rfl⟩
theorem Try_C36 : CallOK Try.prog 36 := ⟨_, _, Try.func36, rfl, by kernel_rfl⟩
theorem Try_C37 : CallOK Try.prog 37 := ⟨_, _, Try.func37, rfl, by kernel_rfl⟩
theorem Try_C38 : CallOK Try.prog 38 := ⟨_, _, Try.func38, rfl, by kernel_rfl⟩
theorem Try_C39 : CallOK Try.prog 39 := ⟨_, _, Try.func39, rfl, by kernel_rfl⟩
theorem Try_C40 : CallOK Try.prog 40 := ⟨_, _, Try.func40, rfl, by kernel_rfl⟩
theorem Try_C41 : CallOK Try.prog 41 := ⟨_, _, Try.func41, rfl, by kernel_rfl⟩
theorem Try_C42 : CallOK Try.prog 42 := ⟨_, _, Try.func42, rfl, by kernel_rfl⟩
theorem Try_C43 : CallOK Try.prog 43 := ⟨_, _, Try.func43, rfl, by kernel_rfl⟩
theorem Try_C44 : CallOK Try.prog 44 := ⟨_, _, Try.func44, rfl, by kernel_rfl⟩
theorem Try_C45 : CallOK Try.prog 45 := ⟨_, _, Try.func45, rfl, by kernel_rfl⟩
theorem Try_C46 : CallOK Try.prog 46 := ⟨_, _, Try.func46, rfl, by kernel_rfl⟩
theorem Try_C47 : CallOK Try.prog 47 := ⟨_, _, Try.func47, rfl, by kernel_rfl⟩
theorem Try_C48 : CallOK Try.prog 48 := ⟨_, _, Try.func48, rfl, by kernel_rfl⟩
theorem Try_C49 : CallOK Try.prog 49 := ⟨_, _, Try.func49, rfl, by kernel_rfl⟩
theorem Try_C50 : CallOK Try.prog 50 := ⟨_, _, Try.func50, rfl, by kernel_rfl⟩
theorem Try_C51 : CallOK Try.prog 51 := ⟨_, _, Try.func51, rfl, by kernel_rfl⟩
theorem Try_C52 : CallOK Try.prog 52 := ⟨_, _, Try.func52, rfl, by kernel_rfl⟩
theorem Try_C53 : CallOK Try.prog 53 := ⟨_, _, Try.func53, rfl, by kernel_rfl⟩
theorem Try_C54 : CallOK Try.prog 54 := ⟨_, _, Try.func54, rfl, by kernel_rfl⟩
theorem Try_C55 : CallOK Try.prog 55 := ⟨_, _, Try.func55, rfl, by kernel_rfl⟩
theorem Try_C56 : CallOK Try.prog 56 := ⟨_, _, Try.func56, rfl, by kernel_rfl⟩
theorem Try_C57 : CallOK Try.prog 57 := ⟨_, _, Try.func57, rfl, by kernel_rfl⟩
theorem Try_C58 : CallOK Try.prog 58 := ⟨_, _, Try.func58, rfl, by kernel_rfl⟩
theorem Try_C59 : CallOK Try.prog 59 := ⟨_, _, Try.func59, rfl, by kernel_rfl⟩
theorem Try_C60 : CallOK Try.prog 60 := ⟨_, _, Try.func60, rfl, by kernel_rfl⟩
theorem Try_C61 : CallOK Try.prog 61 := ⟨_, _, Try.func61, rfl, by kernel_rfl⟩
theorem Try_C62 : CallOK Try.prog 62 := ⟨_, _, Try.func62, rfl, by kernel_rfl⟩
theorem Try_C63 : CallOK Try.prog 63 := ⟨_, _, Try.func63, rfl, by kernel_rfl⟩
theorem Try_C64 : CallOK Try.prog 64 := ⟨_, _, Try.func64, rfl, by kernel_rfl⟩
theorem Try_C65 : CallOK Try.prog 65 := ⟨_, _, Try.func65, rfl, by kernel_rfl⟩
theorem Try_C66 : CallOK Try.prog 66 := ⟨_, _, Try.func66, rfl, by kernel_rfl⟩
theorem Try_C67 : CallOK Try.prog 67 := ⟨_, _, Try.func67, rfl, by kernel_rfl⟩
theorem Try_C68 : CallOK Try.prog 68 := ⟨_, _, Try.func68, rfl, by kernel_rfl⟩
theorem Try_C69 : CallOK Try.prog 69 := ⟨_, _, Try.func69, rfl, by kernel_rfl⟩
theorem Try_C70 : CallOK Try.prog 70 := ⟨_, _, Try.func70, rfl, by kernel_rfl⟩
theorem Try_C71 : CallOK Try.prog 71 := ⟨_, _, Try.func71, rfl, by kernel_rfl⟩
theorem Try_C72 : CallOK Try.prog 72 := ⟨_, _, Try.func72, rfl, by kernel_rfl⟩
theorem Try_C73 : CallOK Try.prog 73 := ⟨_, _, Try.func73, rfl, by kernel_rfl⟩
theorem Try_C74 : CallOK Try.prog 74 := ⟨_, _, Try.func74, rfl, by kernel_rfl⟩
theorem Try_C75 : CallOK Try.prog 75 := ⟨_, _, Try.func75, rfl, by kernel_rfl⟩
theorem Try_C76 : CallOK Try.prog 76 := ⟨_, _, Try.func76, rfl, by kernel_rfl⟩
theorem Try_C77 : CallOK Try.prog 77 := ⟨_, _, Try.func77, rfl, by kernel_rfl⟩
theorem Try_C78 : CallOK Try.prog 78 := ⟨_, _, Try.func78, rfl, by kernel_rfl⟩
theorem Try_C79 : CallOK Try.prog 79 := ⟨_, _, Try.func79, rfl, by kernel_rfl⟩
theorem Try_C80 : CallOK Try.prog 80 := ⟨_, _, Try.func80, rfl, by kernel_rfl⟩
theorem Try_C81 : CallOK Try.prog 81 := ⟨_, _, Try.func81, rfl, by kernel_rfl⟩
theorem Try_C82 : CallOK Try.prog 82 := ⟨_, _, Try.func82, rfl, by kernel_rfl⟩
theorem Try_C83 : CallOK Try.prog 83 := ⟨_, _, Try.func83, rfl, by kernel_rfl⟩
theorem Try_C84 : CallOK Try.prog 84 := ⟨_, _, Try.func84, rfl, by kernel_rfl⟩
theorem Try_C85 : CallOK Try.prog 85 := ⟨_, _, Try.func85, rfl, by kernel_rfl⟩
theorem Try_C86 : CallOK Try.prog 86 := ⟨_, _, Try.func86, rfl, by kernel_rfl⟩
theorem Try_C87 : CallOK Try.prog 87 := ⟨_, _, Try.func87, rfl, by kernel_rfl⟩
theorem Try_C88 : CallOK Try.prog 88 := ⟨_, _, Try.func88, rfl, by kernel_rfl⟩
theorem Try_C89 : CallOK Try.prog 89 := ⟨_, _, Try.func89, rfl, by kernel_rfl⟩
theorem Try_C90 : CallOK Try.prog 90 := ⟨_, _, Try.func90, rfl, by kernel_rfl⟩
theorem Try_C93 : CallOK Try.prog 93 := ⟨_, _, Try.func93, rfl, by kernel_rfl⟩
theorem Try_C94 : CallOK Try.prog 94 := ⟨_, _, Try.func94, rfl, by kernel_rfl⟩
theorem Try_C95 : CallOK Try.prog 95 := ⟨_, _, Try.func95, rfl, by kernel_rfl⟩
theorem Try_C101 : CallOK Try.prog 101 := ⟨_, _, Try.func101, rfl, by kernel_rfl⟩
theorem Try_C105 : CallOK Try.prog 105 := ⟨_, _, Try.func105, rfl, by kernel_rfl⟩
theorem Try_C111 : CallOK Try.prog 111 := ⟨_, _, Try.func111, rfl, by kernel_rfl⟩

theorem M.spec_l01In_ok (w0 : World) (a0 : Int) (a1 : Int) (a2 : Int) {r : Bool} (hm : M.spec_l01In a0 a1 a2 = some r) :
    Calls Try.prog 75 #[(.int .i64 a0), (.int .i64 a1), (.int .i64 a2)] w0 fun e w' => e = .returned (.bool r) ∧ Fresh w0 w' [] := by
  unfold M.spec_l01In at hm
  refine calls_CW (args := [(.int .i64 a0), (.int .i64 a1), (.int .i64 a2)]) Try.func75 rfl rfl rfl ?_
  have hL := Hp.start w0
  refine CW.seq ?_
  refine CW.regionL ?_
  refine OW.cons (OP.val (v := (.bool false)) rfl (x_assign) ?_)
  refine OW.nil ?_
  refine CW.seqJ (fun (s_j1 : Bool) (F : Fr) (w : World) => F 6 = (.bool s_j1) ∧ Hp w0 [Ent.snap w0 w0.heap.size] w) (fun s_j1 => M.spec_l01In_j1 s_j1 = some r) ?_ ?_
  · refine CW.regionL ?_
    refine OW.cons (OP.val (v := (.int .i64 a0)) rfl (x_move) ?_)
    refine OW.cons (OP.val (v := (.int .i64 a1)) rfl (x_move) ?_)
    refine OW.cons (OP.val (v := (.bool (decide (a1 ≤ a0)))) rfl (x_geq rfl rfl) ?_)
    refine OW.cons (OP.val (v := (.bool (decide (a1 ≤ a0)))) rfl (x_move) ?_)
    refine ifB_elim hm (fun hb5 hm => ?_) (fun hb5 hm => ?_)
    · refine OW.cons (OP.yes' rfl rfl hb5 (OP.val (v := (.int .i64 a0)) rfl (x_move) ?_))
      refine OW.cons (OP.yes' rfl rfl hb5 (OP.val (v := (.int .i64 a2)) rfl (x_move) ?_))
      refine OW.cons (OP.yes' rfl rfl hb5 (OP.val (v := (.bool (decide (a0 ≤ a2)))) rfl (x_leq rfl rfl) ?_))
      refine OW.cons (OP.val (v := (.bool (decide (a0 ≤ a2)))) rfl (x_pickT' rfl hb5 rfl) ?_)
      refine OW.cons (OP.val (v := (.bool (decide (a0 ≤ a2)))) rfl (x_assign) ?_)
      refine OW.nil ?_
      exact ⟨decide (a0 ≤ a2), hm, ⟨rfl, hL⟩⟩
    · refine OW.cons (OP.no' rfl rfl hb5 rfl ?_)
      refine OW.cons (OP.no' rfl rfl hb5 rfl ?_)
      refine OW.cons (OP.no' rfl rfl hb5 rfl ?_)
      refine OW.cons (OP.val (v := (.bool false)) rfl (x_pickF' rfl hb5 rfl) ?_)
      refine OW.cons (OP.val (v := (.bool false)) rfl (x_assign) ?_)
      refine OW.nil ?_
      exact ⟨false, hm, ⟨rfl, hL⟩⟩
  · intro s_j1 F2 wd3 hJ hm
    unfold M.spec_l01In_j1 at hm
    obtain ⟨f4, hL⟩ := hJ
    refine CW.ret ?_
    obtain rfl := Option.some.inj hm
    exact RR1 rfl f4 ⟨rfl, hL.fresh 0 rfl [] (by decide) (by decide) rfl⟩

theorem M.spec_IsFinish_ok (w0 : World) (a0 : Finish) {r : Bool} (hm : M.spec_IsFinish a0 = some r) :
    Calls Try.prog 90 #[(.agg #[(.int .i64 a0.Boat), (.int .i64 a0.Code), (.int .i64 a0.Time)])] w0 fun e w' => e = .returned (.bool r) ∧ Fresh w0 w' [] := by
  unfold M.spec_IsFinish at hm
  refine calls_CW (args := [(.agg #[(.int .i64 a0.Boat), (.int .i64 a0.Code), (.int .i64 a0.Time)])]) Try.func90 rfl rfl rfl ?_
  have hL := Hp.start w0
  refine CW.seq ?_
  refine CW.regionL ?_
  refine OW.cons (S_box (cs := #[(.int .i64 a0.Boat), (.int .i64 a0.Code), (.int .i64 a0.Time)]) hL rfl rfl rfl ?_)
  intro wd1 b2 hL
  refine OW.cons (OP.val (v := (.bool false)) rfl (x_assign) ?_)
  refine OW.nil ?_
  refine CW.seq ?_
  refine CW.seqJ (fun (s_j1 : Bool) (F : Fr) (w : World) => F 1 = (.pointer (some ⟨b2, 0, none⟩)) ∧ F 12 = (.bool s_j1) ∧ Hp w0 [Ent.blk b2 56 #[(.int .i64 a0.Boat), (.int .i64 a0.Code), (.int .i64 a0.Time)], Ent.snap w0 w0.heap.size] w) (fun s_j1 => M.spec_IsFinish_j1 a0 s_j1 = some r) ?_ ?_
  · refine CW.regionL ?_
    refine OW.cons (OP.val (v := (.pointer (some ⟨b2, 0, none⟩))) rfl (x_fieldAddr (fsz := 1) 0 0 0 Try.underlying56 rfl Try_T2 rfl rfl rfl) ?_)
    refine OW.cons (OP.val (v := (.int .i64 a0.Boat)) rfl (x_load1 Try.underlying2 rfl rfl (hL.cellB 0 rfl rfl)) ?_)
    obtain ⟨x25, hx26, hm⟩ := bndE hm
    refine OW.cons (OP.call rfl (x_call (vs := [(.int .i64 a0.Boat), (.int .i64 0), (.int .i64 15)]) Try_C75 ⟨rfl, rfl, rfl, trivial⟩) (M.spec_l01In_ok _ a0.Boat 0 15 hx26) ?_)
    rintro e27 wd28 ⟨rfl, hF29⟩
    refine ⟨_, rfl, ?_⟩
    have hL := hL.pushAll hF29
    simp only [lA, lB, lC, lD] at hL
    refine OW.cons (OP.val (v := (.bool (!x25))) rfl (x_not rfl) ?_)
    refine OW.cons (OP.val (v := (.bool (!x25))) rfl (x_move) ?_)
    refine ifB_elim hm (fun hb30 hm => ?_) (fun hb30 hm => ?_)
    · refine OW.cons (OP.no' rfl rfl hb30 rfl ?_)
      refine OW.cons (OP.no' rfl rfl hb30 rfl ?_)
      refine OW.cons (OP.no' rfl rfl hb30 rfl ?_)
      refine OW.cons (OP.no' rfl rfl hb30 rfl ?_)
      refine OW.cons (OP.val (v := (.bool true)) rfl (x_pickT' rfl hb30 rfl) ?_)
      refine OW.nil ?_
      exact ⟨true, hm, ⟨rfl, rfl, hL⟩⟩
    · refine OW.cons (OP.yes' rfl rfl hb30 (OP.val (v := (.pointer (some ⟨b2, 1, none⟩))) rfl (x_fieldAddr (fsz := 1) 0 1 1 Try.underlying56 rfl Try_T2 rfl rfl rfl) ?_))
      refine OW.cons (OP.yes' rfl rfl hb30 (OP.val (v := (.int .i64 a0.Code)) rfl (x_load1 Try.underlying2 rfl rfl (hL.cellB 0 rfl rfl)) ?_))
      obtain ⟨x31, hx32, hm⟩ := bndE hm
      refine OW.cons (OP.yes' rfl rfl hb30 (OP.call rfl (x_call (vs := [(.int .i64 a0.Code), (.int .i64 0), (.int .i64 9)]) Try_C75 ⟨rfl, rfl, rfl, trivial⟩) (M.spec_l01In_ok _ a0.Code 0 9 hx32) ?_))
      rintro e33 wd34 ⟨rfl, hF35⟩
      refine ⟨_, rfl, ?_⟩
      have hL := hL.pushAll hF35
      simp only [lA, lB, lC, lD] at hL
      refine OW.cons (OP.yes' rfl rfl hb30 (OP.val (v := (.bool (!x31))) rfl (x_not rfl) ?_))
      refine OW.cons (OP.val (v := (.bool (!x31))) rfl (x_pickF' rfl hb30 rfl) ?_)
      refine OW.nil ?_
      exact ⟨!x31, hm, ⟨rfl, rfl, hL⟩⟩
  · intro s_j1 F14 wd15 hJ hm
    unfold M.spec_IsFinish_j1 at hm
    obtain ⟨f16, f17, hL⟩ := hJ
    refine CW.condM (t := s_j1) f17 hm (fun hb18 hm => ?_) (fun hb18 hm => ?_)
    · refine CW.seq ?_
      refine CW.regionL ?_
      refine OW.cons (OP.val (v := (.bool false)) rfl (x_assign) ?_)
      refine OW.nil ?_
      refine CW.ret ?_
      obtain rfl := Option.some.inj hm
      exact RR1 rfl rfl ⟨rfl, hL.fresh 1 rfl [] (by decide) (by decide) rfl⟩
    · refine CW.skip ?_
      refine CW.seq ?_
      refine CW.seq ?_
      refine CW.regionL ?_
      refine OW.cons (OP.val (v := (.pointer (some ⟨b2, 1, none⟩))) rfl (x_fieldAddr (fsz := 1) 0 1 1 Try.underlying56 rfl Try_T2 rfl f16 rfl) ?_)
      refine OW.cons (OP.val (v := (.int .i64 a0.Code)) rfl (x_load1 Try.underlying2 rfl rfl (hL.cellB 0 rfl rfl)) ?_)
      refine OW.cons (OP.val (v := (.bool (a0.Code == 0))) rfl (x_eql rfl rfl) ?_)
      refine OW.nil ?_
      refine CW.condM (t := a0.Code == 0) rfl hm (fun hb19 hm => ?_) (fun hb19 hm => ?_)
      · refine CW.seq ?_
        refine CW.regionL ?_
        refine OW.cons (OP.val (v := (.pointer (some ⟨b2, 2, none⟩))) rfl (x_fieldAddr (fsz := 1) 0 2 2 Try.underlying56 rfl Try_T2 rfl f16 rfl) ?_)
        refine OW.cons (OP.val (v := (.int .i64 a0.Time)) rfl (x_load1 Try.underlying2 rfl rfl (hL.cellB 0 rfl rfl)) ?_)
        obtain ⟨x20, hx21, hm⟩ := bndE hm
        refine OW.cons (OP.call rfl (x_call (vs := [(.int .i64 a0.Time), (.int .i64 1), (.int .i64 1000000000)]) Try_C75 ⟨rfl, rfl, rfl, trivial⟩) (M.spec_l01In_ok _ a0.Time 1 1000000000 hx21) ?_)
        rintro e22 wd23 ⟨rfl, hF24⟩
        refine ⟨_, rfl, ?_⟩
        have hL := hL.pushAll hF24
        simp only [lA, lB, lC, lD] at hL
        refine OW.cons (OP.val (v := (.bool x20)) rfl (x_assign) ?_)
        refine OW.nil ?_
        refine CW.ret ?_
        obtain rfl := Option.some.inj hm
        exact RR1 rfl rfl ⟨rfl, hL.fresh 1 rfl [] (by decide) (by decide) rfl⟩
      · refine CW.skip ?_
        refine CW.seq ?_
        refine CW.regionL ?_
        refine OW.cons (OP.val (v := (.pointer (some ⟨b2, 2, none⟩))) rfl (x_fieldAddr (fsz := 1) 0 2 2 Try.underlying56 rfl Try_T2 rfl f16 rfl) ?_)
        refine OW.cons (OP.val (v := (.int .i64 a0.Time)) rfl (x_load1 Try.underlying2 rfl rfl (hL.cellB 0 rfl rfl)) ?_)
        refine OW.cons (OP.val (v := (.bool (a0.Time == 0))) rfl (x_eql rfl rfl) ?_)
        refine OW.cons (OP.val (v := (.bool (a0.Time == 0))) rfl (x_assign) ?_)
        refine OW.nil ?_
        refine CW.ret ?_
        obtain rfl := Option.some.inj hm
        exact RR1 rfl rfl ⟨rfl, hL.fresh 1 rfl [] (by decide) (by decide) rfl⟩

theorem M.spec_l22Race_ok (w0 : World) (a0 : Int) (a1 : List Finish) {v1 : Value} (h2 : rdL (· < w0.heap.size) w0 v1 a1) {r : Bool} (hm : M.spec_l22Race a0 a1 = some r) :
    Calls Try.prog 76 #[(.int .i64 a0), v1] w0 fun e w' => e = .returned (.bool r) ∧ Fresh w0 w' [] := by
  unfold M.spec_l22Race at hm
  refine calls_CW (args := [(.int .i64 a0), v1]) Try.func76 rfl rfl rfl ?_
  have hL := Hp.start w0
  refine CW.seq ?_
  refine CW.regionL ?_
  refine OW.cons (OP.val (v := (.bool false)) rfl (x_assign) ?_)
  refine OW.nil ?_
  refine CW.seq ?_
  refine CW.seqJ (fun (s_j1 : Bool) (F : Fr) (w : World) => F 1 = v1 ∧ F 14 = (.bool s_j1) ∧ Hp w0 [Ent.snap w0 w0.heap.size] w) (fun s_j1 => M.spec_l22Race_j1 a1 s_j1 = some r) ?_ ?_
  · refine CW.regionL ?_
    refine OW.cons (OP.val (v := (.int .i64 a0)) rfl (x_move) ?_)
    obtain ⟨x167, hx168, hm⟩ := bndE hm
    refine OW.cons (OP.call rfl (x_call (vs := [(.int .i64 a0), (.int .i64 1), (.int .i64 16)]) Try_C75 ⟨rfl, rfl, rfl, trivial⟩) (M.spec_l01In_ok _ a0 1 16 hx168) ?_)
    rintro e169 wd170 ⟨rfl, hF171⟩
    refine ⟨_, rfl, ?_⟩
    have hL := hL.pushAll hF171
    simp only [lA, lB, lC, lD] at hL
    refine OW.cons (OP.val (v := (.bool (!x167))) rfl (x_not rfl) ?_)
    refine OW.cons (OP.val (v := (.bool (!x167))) rfl (x_move) ?_)
    refine ifB_elim hm (fun hb172 hm => ?_) (fun hb172 hm => ?_)
    · refine OW.cons (OP.no' rfl rfl hb172 rfl ?_)
      refine OW.cons (OP.no' rfl rfl hb172 rfl ?_)
      refine OW.cons (OP.no' rfl rfl hb172 rfl ?_)
      refine OW.cons (OP.no' rfl rfl hb172 rfl ?_)
      refine OW.cons (OP.val (v := (.bool true)) rfl (x_pickT' rfl hb172 rfl) ?_)
      refine OW.nil ?_
      exact ⟨true, hm, ⟨rfl, rfl, hL⟩⟩
    · refine OW.cons (OP.yes' rfl rfl hb172 (OP.val (v := v1) rfl (x_move) ?_))
      refine OW.cons (OP.yes' rfl rfl hb172 (OP.val (v := (.int .i64 (a1.length : Int))) rfl (x_lenR Try.underlying28 rfl (hL.rdS 0 rfl h2)) ?_))
      refine OW.cons (OP.yes' rfl rfl hb172 (OP.val (v := (.int .i64 a0)) rfl (x_move) ?_))
      refine OW.cons (OP.yes' rfl rfl hb172 (OP.val (v := (.bool ((a1.length : Int) != a0))) rfl (x_neq rfl rfl) ?_))
      refine OW.cons (OP.val (v := (.bool ((a1.length : Int) != a0))) rfl (x_pickF' rfl hb172 rfl) ?_)
      refine OW.nil ?_
      exact ⟨(a1.length : Int) != a0, hm, ⟨rfl, rfl, hL⟩⟩
  · intro s_j1 F9 wd10 hJ hm
    unfold M.spec_l22Race_j1 at hm
    obtain ⟨f11, f12, hL⟩ := hJ
    refine CW.condM (t := s_j1) f12 hm (fun hb13 hm => ?_) (fun hb13 hm => ?_)
    · refine CW.seq ?_
      refine CW.regionL ?_
      refine OW.cons (OP.val (v := (.bool false)) rfl (x_assign) ?_)
      refine OW.nil ?_
      refine CW.ret ?_
      obtain rfl := Option.some.inj hm
      exact RR1 rfl rfl ⟨rfl, hL.fresh 0 rfl [] (by decide) (by decide) rfl⟩
    · refine CW.skip ?_
      refine CW.seq ?_
      refine CW.seq ?_
      refine CW.regionL ?_
      refine OW.cons (OP.val (v := (.int .i64 0)) rfl (x_assign) ?_)
      refine OW.nil ?_
      obtain ⟨o110, ho111, hm⟩ := bndE hm
      refine CW.loopB (fun (s_l1 : Int) (F : Fr) (w : World) => F 1 = v1 ∧ F 5 = (.int .i64 s_l1) ∧ Hp w0 [Ent.snap w0 w0.heap.size] w) (fun o => outc o (fun x => some x) (fun s => M.spec_l22Race_a1 s) = some r) ho111 hm ⟨f11, rfl, hL⟩ ?_ ?_
      · intro s_l1 F112 wd113 hJ hm
        have hm := outcE hm
        have hm : M.spec_l22Race_a1 s_l1 = some r := hm
        unfold M.spec_l22Race_a1 at hm
        obtain ⟨f114, f115, hL⟩ := hJ
        refine CW.seq ?_
        refine CW.regionL ?_
        refine OW.cons (OP.val (v := (.bool true)) rfl (x_assign) ?_)
        refine OW.nil ?_
        refine CW.ret ?_
        obtain rfl := Option.some.inj hm
        exact RR1 rfl rfl ⟨rfl, hL.fresh 0 rfl [] (by decide) (by decide) rfl⟩
      · intro s_l1 F116 wd117 t108 hJ hm hr109
        unfold M.spec_l22Race_l1 at hm
        obtain ⟨f118, f119, hL⟩ := hJ
        refine CW.seq ?_
        refine CW.seq ?_
        refine CW.regionL ?_
        refine OW.cons (OP.val (v := (.int .i64 s_l1)) rfl (x_mv f119) ?_)
        refine OW.cons (OP.val (v := v1) rfl (x_mv f118) ?_)
        refine OW.cons (OP.val (v := (.int .i64 (a1.length : Int))) rfl (x_lenR Try.underlying28 rfl (hL.rdS 0 rfl h2)) ?_)
        refine OW.cons (OP.val (v := (.bool (decide (s_l1 < (a1.length : Int))))) rfl (x_lss rfl rfl) ?_)
        refine OW.nil ?_
        refine CW.condM (t := decide (s_l1 < (a1.length : Int))) rfl hm (fun hb120 hm => ?_) (fun hb120 hm => ?_)
        · refine CW.skip ?_
          refine CW.seq ?_
          refine CW.block ?_
          refine CW.seqJ (fun (s_j2 : Bool) (F : Fr) (w : World) => F 1 = v1 ∧ F 5 = (.int .i64 s_l1) ∧ F 35 = (.bool s_j2) ∧ Hp w0 [Ent.snap w0 w0.heap.size] w) (fun s_j2 => M.spec_l22Race_j2 s_l1 s_j2 = some t108) ?_ ?_
          · refine CW.regionL ?_
            refine OW.cons (OP.val (v := v1) rfl (x_mv f118) ?_)
            refine OW.cons (OP.val (v := (.int .i64 s_l1)) rfl (x_mv f119) ?_)
            obtain ⟨x147, ha148, hm⟩ := bndE hm
            obtain ⟨hz149, ha153⟩ := idxE ha148
            obtain ⟨b150, q151, hix152⟩ := rdL_ix (hL.rdS 0 rfl h2) hz149 ha153
            refine OW.cons (OP.val (v := (.pointer (some ⟨b150, q151, none⟩))) rfl (x_ix Try.underlying28 Try_T56 rfl rfl hix152) ?_)
            refine OW.cons (OP.val (v := (.pointer (some ⟨b150, q151, none⟩))) rfl (x_fieldAddr (fsz := 1) q151 0 q151 Try.underlying56 rfl Try_T2 rfl rfl rfl) ?_)
            refine OW.cons (OP.val (v := (.int .i64 x147.Boat)) rfl (x_load1 Try.underlying2 rfl rfl (rdF_cells (hL.rdS 0 rfl h2) hix152 ha153 0 _ rfl)) ?_)
            refine OW.cons (OP.val (v := (.int .i64 s_l1)) rfl (x_mv f119) ?_)
            refine OW.cons (OP.val (v := (.bool (x147.Boat != s_l1))) rfl (x_neq rfl rfl) ?_)
            refine OW.cons (OP.val (v := (.bool (x147.Boat != s_l1))) rfl (x_move) ?_)
            refine ifB_elim hm (fun hb154 hm => ?_) (fun hb154 hm => ?_)
            · refine OW.cons (OP.no' rfl rfl hb154 rfl ?_)
              refine OW.cons (OP.no' rfl rfl hb154 rfl ?_)
              refine OW.cons (OP.no' rfl rfl hb154 rfl ?_)
              refine OW.cons (OP.no' rfl rfl hb154 rfl ?_)
              refine OW.cons (OP.no' rfl rfl hb154 rfl ?_)
              refine OW.cons (OP.no' rfl rfl hb154 rfl ?_)
              refine OW.cons (OP.val (v := (.bool true)) rfl (x_pickT' rfl hb154 rfl) ?_)
              refine OW.nil ?_
              exact ⟨true, hm, ⟨f118, f119, rfl, hL⟩⟩
            · refine OW.cons (OP.yes' rfl rfl hb154 (OP.val (v := v1) rfl (x_mv f118) ?_))
              refine OW.cons (OP.yes' rfl rfl hb154 (OP.val (v := (.int .i64 s_l1)) rfl (x_mv f119) ?_))
              obtain ⟨x155, ha156, hm⟩ := bndE hm
              obtain ⟨hz157, ha161⟩ := idxE ha156
              obtain ⟨b158, q159, hix160⟩ := rdL_ix (hL.rdS 0 rfl h2) hz157 ha161
              refine OW.cons (OP.yes' rfl rfl hb154 (OP.val (v := (.pointer (some ⟨b158, q159, none⟩))) rfl (x_ix Try.underlying28 Try_T56 rfl rfl hix160) ?_))
              refine OW.cons (OP.yes' rfl rfl hb154 (OP.val (v := (.agg #[(.int .i64 x155.Boat), (.int .i64 x155.Code), (.int .i64 x155.Time)])) rfl (x_loadN (cs := [(.int .i64 x155.Boat), (.int .i64 x155.Code), (.int .i64 x155.Time)]) Try.underlying56 Try_T56 rfl rfl (rdF_cells (hL.rdS 0 rfl h2) hix160 ha161)) ?_))
              obtain ⟨x162, hx163, hm⟩ := bndE hm
              refine OW.cons (OP.yes' rfl rfl hb154 (OP.call rfl (x_call (vs := [(.agg #[(.int .i64 x155.Boat), (.int .i64 x155.Code), (.int .i64 x155.Time)])]) Try_C90 ⟨rfl, trivial⟩) (M.spec_IsFinish_ok _ x155 hx163) ?_))
              rintro e164 wd165 ⟨rfl, hF166⟩
              refine ⟨_, rfl, ?_⟩
              have hL := hL.pushAll hF166
              simp only [lA, lB, lC, lD] at hL
              refine OW.cons (OP.yes' rfl rfl hb154 (OP.val (v := (.bool (!x162))) rfl (x_not rfl) ?_))
              refine OW.cons (OP.val (v := (.bool (!x162))) rfl (x_pickF' rfl hb154 rfl) ?_)
              refine OW.nil ?_
              exact ⟨!x162, hm, ⟨f118, f119, rfl, hL⟩⟩
          · intro s_j2 F141 wd142 hJ hm
            unfold M.spec_l22Race_j2 at hm
            obtain ⟨f143, f144, f145, hL⟩ := hJ
            refine CW.condM (t := s_j2) f145 hm (fun hb146 hm => ?_) (fun hb146 hm => ?_)
            · refine CW.seq ?_
              refine CW.regionL ?_
              refine OW.cons (OP.val (v := (.bool false)) rfl (x_assign) ?_)
              refine OW.nil ?_
              refine CW.ret ?_
              obtain rfl := Option.some.inj hm
              have hm := hr109 _ rfl
              obtain rfl := Option.some.inj hm
              exact RR1 rfl rfl ⟨rfl, hL.fresh 0 rfl [] (by decide) (by decide) rfl⟩
            · refine CW.skip ?_
              refine CW.regionL ?_
              refine OW.cons (OP.val (v := (.int .i64 s_l1)) rfl (x_mv f144) ?_)
              refine OW.cons (OP.val (v := (.int .i64 (w64 (s_l1 + 1)))) rfl (x_add rfl rfl) ?_)
              refine OW.cons (OP.val (v := (.int .i64 (w64 (s_l1 + 1)))) rfl (x_assign) ?_)
              refine OW.nil ?_
              obtain rfl := Option.some.inj hm
              exact ⟨_, rfl, ⟨f143, rfl, hL⟩⟩
        · refine CW.exit ?_
          refine XJ.hit ?_
          obtain rfl := Option.some.inj hm
          exact ⟨_, rfl, ⟨f118, f119, hL⟩⟩

theorem M.spec_l22Factor_ok (w0 : World) (a0 : Int) {r : Bool} (hm : M.spec_l22Factor a0 = some r) :
    Calls Try.prog 81 #[(.int .i64 a0)] w0 fun e w' => e = .returned (.bool r) ∧ Fresh w0 w' [] := by
  unfold M.spec_l22Factor at hm
  refine calls_CW (args := [(.int .i64 a0)]) Try.func81 rfl rfl rfl ?_
  have hL := Hp.start w0
  refine CW.seq ?_
  refine CW.regionL ?_
  refine OW.cons (OP.val (v := (.bool false)) rfl (x_assign) ?_)
  refine OW.nil ?_
  refine CW.seq ?_
  refine CW.regionL ?_
  refine OW.cons (OP.val (v := (.int .i64 a0)) rfl (x_move) ?_)
  obtain ⟨x1, hx2, hm⟩ := bndE hm
  refine OW.cons (OP.call rfl (x_call (vs := [(.int .i64 a0), (.int .i64 1), (.int .i64 3000)]) Try_C75 ⟨rfl, rfl, rfl, trivial⟩) (M.spec_l01In_ok _ a0 1 3000 hx2) ?_)
  rintro e3 wd4 ⟨rfl, hF5⟩
  refine ⟨_, rfl, ?_⟩
  have hL := hL.pushAll hF5
  simp only [lA, lB, lC, lD] at hL
  refine OW.cons (OP.val (v := (.bool x1)) rfl (x_assign) ?_)
  refine OW.nil ?_
  refine CW.ret ?_
  obtain rfl := Option.some.inj hm
  exact RR1 rfl rfl ⟨rfl, hL.fresh 0 rfl [] (by decide) (by decide) rfl⟩

theorem M.spec_IsRatings_ok (w0 : World) (a0 : Int) (a1 : List Rating) {v1 : Value} (h2 : rdL (· < w0.heap.size) w0 v1 a1) {r : Bool} (hm : M.spec_IsRatings a0 a1 = some r) :
    Calls Try.prog 77 #[(.int .i64 a0), v1] w0 fun e w' => e = .returned (.bool r) ∧ Fresh w0 w' [] := by
  unfold M.spec_IsRatings at hm
  refine calls_CW (args := [(.int .i64 a0), v1]) Try.func77 rfl rfl rfl ?_
  have hL := Hp.start w0
  refine CW.seq ?_
  refine CW.regionL ?_
  refine OW.cons (OP.val (v := (.bool false)) rfl (x_assign) ?_)
  refine OW.nil ?_
  refine CW.seq ?_
  refine CW.seqJ (fun (s_j1 : Bool) (F : Fr) (w : World) => F 1 = v1 ∧ F 14 = (.bool s_j1) ∧ Hp w0 [Ent.snap w0 w0.heap.size] w) (fun s_j1 => M.spec_IsRatings_j1 a1 s_j1 = some r) ?_ ?_
  · refine CW.regionL ?_
    refine OW.cons (OP.val (v := (.int .i64 a0)) rfl (x_move) ?_)
    obtain ⟨x167, hx168, hm⟩ := bndE hm
    refine OW.cons (OP.call rfl (x_call (vs := [(.int .i64 a0), (.int .i64 1), (.int .i64 16)]) Try_C75 ⟨rfl, rfl, rfl, trivial⟩) (M.spec_l01In_ok _ a0 1 16 hx168) ?_)
    rintro e169 wd170 ⟨rfl, hF171⟩
    refine ⟨_, rfl, ?_⟩
    have hL := hL.pushAll hF171
    simp only [lA, lB, lC, lD] at hL
    refine OW.cons (OP.val (v := (.bool (!x167))) rfl (x_not rfl) ?_)
    refine OW.cons (OP.val (v := (.bool (!x167))) rfl (x_move) ?_)
    refine ifB_elim hm (fun hb172 hm => ?_) (fun hb172 hm => ?_)
    · refine OW.cons (OP.no' rfl rfl hb172 rfl ?_)
      refine OW.cons (OP.no' rfl rfl hb172 rfl ?_)
      refine OW.cons (OP.no' rfl rfl hb172 rfl ?_)
      refine OW.cons (OP.no' rfl rfl hb172 rfl ?_)
      refine OW.cons (OP.val (v := (.bool true)) rfl (x_pickT' rfl hb172 rfl) ?_)
      refine OW.nil ?_
      exact ⟨true, hm, ⟨rfl, rfl, hL⟩⟩
    · refine OW.cons (OP.yes' rfl rfl hb172 (OP.val (v := v1) rfl (x_move) ?_))
      refine OW.cons (OP.yes' rfl rfl hb172 (OP.val (v := (.int .i64 (a1.length : Int))) rfl (x_lenR Try.underlying30 rfl (hL.rdS 0 rfl h2)) ?_))
      refine OW.cons (OP.yes' rfl rfl hb172 (OP.val (v := (.int .i64 a0)) rfl (x_move) ?_))
      refine OW.cons (OP.yes' rfl rfl hb172 (OP.val (v := (.bool ((a1.length : Int) != a0))) rfl (x_neq rfl rfl) ?_))
      refine OW.cons (OP.val (v := (.bool ((a1.length : Int) != a0))) rfl (x_pickF' rfl hb172 rfl) ?_)
      refine OW.nil ?_
      exact ⟨(a1.length : Int) != a0, hm, ⟨rfl, rfl, hL⟩⟩
  · intro s_j1 F9 wd10 hJ hm
    unfold M.spec_IsRatings_j1 at hm
    obtain ⟨f11, f12, hL⟩ := hJ
    refine CW.condM (t := s_j1) f12 hm (fun hb13 hm => ?_) (fun hb13 hm => ?_)
    · refine CW.seq ?_
      refine CW.regionL ?_
      refine OW.cons (OP.val (v := (.bool false)) rfl (x_assign) ?_)
      refine OW.nil ?_
      refine CW.ret ?_
      obtain rfl := Option.some.inj hm
      exact RR1 rfl rfl ⟨rfl, hL.fresh 0 rfl [] (by decide) (by decide) rfl⟩
    · refine CW.skip ?_
      refine CW.seq ?_
      refine CW.seq ?_
      refine CW.regionL ?_
      refine OW.cons (OP.val (v := (.int .i64 0)) rfl (x_assign) ?_)
      refine OW.nil ?_
      obtain ⟨o110, ho111, hm⟩ := bndE hm
      refine CW.loopB (fun (s_l1 : Int) (F : Fr) (w : World) => F 1 = v1 ∧ F 5 = (.int .i64 s_l1) ∧ Hp w0 [Ent.snap w0 w0.heap.size] w) (fun o => outc o (fun x => some x) (fun s => M.spec_IsRatings_a1 s) = some r) ho111 hm ⟨f11, rfl, hL⟩ ?_ ?_
      · intro s_l1 F112 wd113 hJ hm
        have hm := outcE hm
        have hm : M.spec_IsRatings_a1 s_l1 = some r := hm
        unfold M.spec_IsRatings_a1 at hm
        obtain ⟨f114, f115, hL⟩ := hJ
        refine CW.seq ?_
        refine CW.regionL ?_
        refine OW.cons (OP.val (v := (.bool true)) rfl (x_assign) ?_)
        refine OW.nil ?_
        refine CW.ret ?_
        obtain rfl := Option.some.inj hm
        exact RR1 rfl rfl ⟨rfl, hL.fresh 0 rfl [] (by decide) (by decide) rfl⟩
      · intro s_l1 F116 wd117 t108 hJ hm hr109
        unfold M.spec_IsRatings_l1 at hm
        obtain ⟨f118, f119, hL⟩ := hJ
        refine CW.seq ?_
        refine CW.seq ?_
        refine CW.regionL ?_
        refine OW.cons (OP.val (v := (.int .i64 s_l1)) rfl (x_mv f119) ?_)
        refine OW.cons (OP.val (v := v1) rfl (x_mv f118) ?_)
        refine OW.cons (OP.val (v := (.int .i64 (a1.length : Int))) rfl (x_lenR Try.underlying30 rfl (hL.rdS 0 rfl h2)) ?_)
        refine OW.cons (OP.val (v := (.bool (decide (s_l1 < (a1.length : Int))))) rfl (x_lss rfl rfl) ?_)
        refine OW.nil ?_
        refine CW.condM (t := decide (s_l1 < (a1.length : Int))) rfl hm (fun hb120 hm => ?_) (fun hb120 hm => ?_)
        · refine CW.skip ?_
          refine CW.seq ?_
          refine CW.block ?_
          refine CW.seqJ (fun (s_j2 : Bool) (F : Fr) (w : World) => F 1 = v1 ∧ F 5 = (.int .i64 s_l1) ∧ F 36 = (.bool s_j2) ∧ Hp w0 [Ent.snap w0 w0.heap.size] w) (fun s_j2 => M.spec_IsRatings_j2 s_l1 s_j2 = some t108) ?_ ?_
          · refine CW.regionL ?_
            refine OW.cons (OP.val (v := v1) rfl (x_mv f118) ?_)
            refine OW.cons (OP.val (v := (.int .i64 s_l1)) rfl (x_mv f119) ?_)
            obtain ⟨x147, ha148, hm⟩ := bndE hm
            obtain ⟨hz149, ha153⟩ := idxE ha148
            obtain ⟨b150, q151, hix152⟩ := rdL_ix (hL.rdS 0 rfl h2) hz149 ha153
            refine OW.cons (OP.val (v := (.pointer (some ⟨b150, q151, none⟩))) rfl (x_ix Try.underlying30 Try_T61 rfl rfl hix152) ?_)
            refine OW.cons (OP.val (v := (.pointer (some ⟨b150, q151, none⟩))) rfl (x_fieldAddr (fsz := 1) q151 0 q151 Try.underlying61 rfl Try_T2 rfl rfl rfl) ?_)
            refine OW.cons (OP.val (v := (.int .i64 x147.Boat)) rfl (x_load1 Try.underlying2 rfl rfl (rdF_cells (hL.rdS 0 rfl h2) hix152 ha153 0 _ rfl)) ?_)
            refine OW.cons (OP.val (v := (.int .i64 s_l1)) rfl (x_mv f119) ?_)
            refine OW.cons (OP.val (v := (.bool (x147.Boat != s_l1))) rfl (x_neq rfl rfl) ?_)
            refine OW.cons (OP.val (v := (.bool (x147.Boat != s_l1))) rfl (x_move) ?_)
            refine ifB_elim hm (fun hb154 hm => ?_) (fun hb154 hm => ?_)
            · refine OW.cons (OP.no' rfl rfl hb154 rfl ?_)
              refine OW.cons (OP.no' rfl rfl hb154 rfl ?_)
              refine OW.cons (OP.no' rfl rfl hb154 rfl ?_)
              refine OW.cons (OP.no' rfl rfl hb154 rfl ?_)
              refine OW.cons (OP.no' rfl rfl hb154 rfl ?_)
              refine OW.cons (OP.no' rfl rfl hb154 rfl ?_)
              refine OW.cons (OP.no' rfl rfl hb154 rfl ?_)
              refine OW.cons (OP.val (v := (.bool true)) rfl (x_pickT' rfl hb154 rfl) ?_)
              refine OW.nil ?_
              exact ⟨true, hm, ⟨f118, f119, rfl, hL⟩⟩
            · refine OW.cons (OP.yes' rfl rfl hb154 (OP.val (v := v1) rfl (x_mv f118) ?_))
              refine OW.cons (OP.yes' rfl rfl hb154 (OP.val (v := (.int .i64 s_l1)) rfl (x_mv f119) ?_))
              obtain ⟨x155, ha156, hm⟩ := bndE hm
              obtain ⟨hz157, ha161⟩ := idxE ha156
              obtain ⟨b158, q159, hix160⟩ := rdL_ix (hL.rdS 0 rfl h2) hz157 ha161
              refine OW.cons (OP.yes' rfl rfl hb154 (OP.val (v := (.pointer (some ⟨b158, q159, none⟩))) rfl (x_ix Try.underlying30 Try_T61 rfl rfl hix160) ?_))
              refine OW.cons (OP.yes' rfl rfl hb154 (OP.val (v := (.pointer (some ⟨b158, q159 + 1, none⟩))) rfl (x_fieldAddr (fsz := 1) q159 1 (q159 + 1) Try.underlying61 rfl Try_T2 rfl rfl rfl) ?_))
              refine OW.cons (OP.yes' rfl rfl hb154 (OP.val (v := (.int .i64 x155.Value)) rfl (x_load1 Try.underlying2 rfl rfl (rdF_cells (hL.rdS 0 rfl h2) hix160 ha161 1 _ rfl)) ?_))
              obtain ⟨x162, hx163, hm⟩ := bndE hm
              refine OW.cons (OP.yes' rfl rfl hb154 (OP.call rfl (x_call (vs := [(.int .i64 x155.Value)]) Try_C81 ⟨rfl, trivial⟩) (M.spec_l22Factor_ok _ x155.Value hx163) ?_))
              rintro e164 wd165 ⟨rfl, hF166⟩
              refine ⟨_, rfl, ?_⟩
              have hL := hL.pushAll hF166
              simp only [lA, lB, lC, lD] at hL
              refine OW.cons (OP.yes' rfl rfl hb154 (OP.val (v := (.bool (!x162))) rfl (x_not rfl) ?_))
              refine OW.cons (OP.val (v := (.bool (!x162))) rfl (x_pickF' rfl hb154 rfl) ?_)
              refine OW.nil ?_
              exact ⟨!x162, hm, ⟨f118, f119, rfl, hL⟩⟩
          · intro s_j2 F141 wd142 hJ hm
            unfold M.spec_IsRatings_j2 at hm
            obtain ⟨f143, f144, f145, hL⟩ := hJ
            refine CW.condM (t := s_j2) f145 hm (fun hb146 hm => ?_) (fun hb146 hm => ?_)
            · refine CW.seq ?_
              refine CW.regionL ?_
              refine OW.cons (OP.val (v := (.bool false)) rfl (x_assign) ?_)
              refine OW.nil ?_
              refine CW.ret ?_
              obtain rfl := Option.some.inj hm
              have hm := hr109 _ rfl
              obtain rfl := Option.some.inj hm
              exact RR1 rfl rfl ⟨rfl, hL.fresh 0 rfl [] (by decide) (by decide) rfl⟩
            · refine CW.skip ?_
              refine CW.regionL ?_
              refine OW.cons (OP.val (v := (.int .i64 s_l1)) rfl (x_mv f144) ?_)
              refine OW.cons (OP.val (v := (.int .i64 (w64 (s_l1 + 1)))) rfl (x_add rfl rfl) ?_)
              refine OW.cons (OP.val (v := (.int .i64 (w64 (s_l1 + 1)))) rfl (x_assign) ?_)
              refine OW.nil ?_
              obtain rfl := Option.some.inj hm
              exact ⟨_, rfl, ⟨f143, rfl, hL⟩⟩
        · refine CW.exit ?_
          refine XJ.hit ?_
          obtain rfl := Option.some.inj hm
          exact ⟨_, rfl, ⟨f118, f119, hL⟩⟩

theorem M.spec_l22Corrected_ok (w0 : World) (a0 : Int) (a1 : Int) {r : Int} (hm : M.spec_l22Corrected a0 a1 = some r) :
    Calls Try.prog 78 #[(.int .i64 a0), (.int .i64 a1)] w0 fun e w' => e = .returned (.int .i64 r) ∧ Fresh w0 w' [] := by
  unfold M.spec_l22Corrected at hm
  refine calls_CW (args := [(.int .i64 a0), (.int .i64 a1)]) Try.func78 rfl rfl rfl ?_
  have hL := Hp.start w0
  refine CW.seq ?_
  refine CW.regionL ?_
  refine OW.cons (OP.val (v := (.int .i64 0)) rfl (x_assign) ?_)
  refine OW.nil ?_
  refine CW.seq ?_
  refine CW.regionL ?_
  refine OW.cons (OP.val (v := (.int .i64 a0)) rfl (x_move) ?_)
  refine OW.cons (OP.val (v := (.int .i64 a1)) rfl (x_move) ?_)
  refine OW.cons (OP.val (v := (.int .i64 (w64 (a0 * a1)))) rfl (x_mul rfl rfl) ?_)
  refine OW.cons (OP.val (v := (.int .i64 (w64 ((w64 (a0 * a1)) + 500)))) rfl (x_add rfl rfl) ?_)
  refine OW.cons (OP.val (v := (.int .i64 (w64 ((w64 ((w64 (a0 * a1)) + 500)).tdiv 1000)))) rfl (x_quo rfl rfl (by decide)) ?_)
  refine OW.cons (OP.val (v := (.int .i64 (min 1000000000 (w64 ((w64 ((w64 (a0 * a1)) + 500)).tdiv 1000))))) rfl (x_min2 rfl rfl) ?_)
  refine OW.cons (OP.val (v := (.int .i64 (max 1 (min 1000000000 (w64 ((w64 ((w64 (a0 * a1)) + 500)).tdiv 1000)))))) rfl (x_max2 rfl rfl) ?_)
  refine OW.cons (OP.val (v := (.int .i64 (max 1 (min 1000000000 (w64 ((w64 ((w64 (a0 * a1)) + 500)).tdiv 1000)))))) rfl (x_assign) ?_)
  refine OW.nil ?_
  refine CW.ret ?_
  obtain rfl := Option.some.inj hm
  exact RR1 rfl rfl ⟨rfl, hL.fresh 0 rfl [] (by decide) (by decide) rfl⟩

theorem M.spec_l25Par_ok (w0 : World) (a0 : List Finish) {v1 : Value} (h2 : rdL (· < w0.heap.size) w0 v1 a0) (a1 : List Rating) {v3 : Value} (h4 : rdL (· < w0.heap.size) w0 v3 a1) {r : Int × Int} (hm : M.spec_l25Par a0 a1 = some r) :
    Calls Try.prog 48 #[v1, v3] w0 fun e w' => e = .returned (.tuple #[(.int .i64 r.1), (.int .i64 r.2)]) ∧ Fresh w0 w' [] := by
  unfold M.spec_l25Par at hm
  refine calls_CW (args := [v1, v3]) Try.func48 rfl rfl rfl ?_
  have hL := Hp.start w0
  refine CW.seq ?_
  refine CW.regionL ?_
  refine OW.cons (OP.val (v := (.int .i64 0)) rfl (x_assign) ?_)
  refine OW.cons (OP.val (v := (.int .i64 0)) rfl (x_assign) ?_)
  refine OW.nil ?_
  refine CW.seq ?_
  refine CW.regionL ?_
  refine OW.cons (S_lit ([] : List Int) hL Try.underlying35 Try_T2 rfl (by decide) (by first | (simp [Instr.fill, madeCells, Value.cells, ev, upd, Flat.enc, Flat.sz]; done) | rfl | kernel_rfl) rfl rfl ?_)
  intro wd5 v6 S7 hL
  refine OW.cons (OP.val (v := v6) rfl (x_assign) ?_)
  refine OW.nil ?_
  refine CW.seq ?_
  refine CW.seq ?_
  refine CW.regionL ?_
  refine OW.cons (OP.val (v := (.int .i64 0)) rfl (x_assign) ?_)
  refine OW.nil ?_
  obtain ⟨o1240, ho1241, hm⟩ := bndE hm
  refine CW.loopB (fun (s_l1 : (List Int) × Int) (F : Fr) (w : World) => ∃ (v1236 : Value) (S1237 : Nat → Prop), F 0 = v1 ∧ F 1 = v3 ∧ F 6 = v1236 ∧ F 7 = (.int .i64 s_l1.2) ∧ Hp w0 [Ent.own 2 S1237 v1236 s_l1.1, Ent.snap w0 w0.heap.size] w) (fun o => outc o (fun x => some x) (fun s => M.spec_l25Par_a1 s) = some r) ho1241 hm ⟨v6, S7, rfl, rfl, rfl, rfl, hL⟩ ?_ ?_
  · intro s_l1 F1242 wd1243 hJ hm
    have hm := outcE hm
    have hm : M.spec_l25Par_a1 s_l1 = some r := hm
    unfold M.spec_l25Par_a1 at hm
    obtain ⟨v1236, S1237, f1244, f1245, f1246, f1247, hL⟩ := hJ
    refine CW.seq ?_
    refine CW.seq ?_
    refine CW.regionL ?_
    refine OW.cons (OP.val (v := v1236) rfl (x_mv f1246) ?_)
    refine OW.cons (OP.val (v := (.int .i64 (s_l1.1.length : Int))) rfl (x_lenR Try.underlying35 rfl (hL.rdO 0 rfl)) ?_)
    refine OW.cons (OP.val (v := (.bool ((s_l1.1.length : Int) == 0))) rfl (x_eql rfl rfl) ?_)
    refine OW.nil ?_
    refine CW.condM (t := (s_l1.1.length : Int) == 0) rfl hm (fun hb1248 hm => ?_) (fun hb1248 hm => ?_)
    · refine CW.seq ?_
      refine CW.regionL ?_
      refine OW.cons (OP.val (v := (.int .i64 0)) rfl (x_assign) ?_)
      refine OW.cons (OP.val (v := (.int .i64 0)) rfl (x_assign) ?_)
      refine OW.nil ?_
      refine CW.ret ?_
      obtain rfl := Option.some.inj hm
      exact RR2 rfl rfl rfl ⟨rfl, hL.fresh 1 rfl [] (by decide) (by decide) rfl⟩
    · refine CW.skip ?_
      refine CW.seq ?_
      refine CW.regionL ?_
      refine OW.cons (OP.val (v := v1236) rfl (x_mv f1246) ?_)
      refine OW.cons (OP.val (v := v1236) rfl (x_mv f1246) ?_)
      refine OW.cons (OP.val (v := (.int .i64 (s_l1.1.length : Int))) rfl (x_lenR Try.underlying35 rfl (hL.rdO 0 rfl)) ?_)
      refine OW.cons (OP.val (v := (.int .i64 (w64 ((s_l1.1.length : Int) - 1)))) rfl (x_sub rfl rfl) ?_)
      refine OW.cons (OP.val (v := (.int .i64 (w64 ((w64 ((s_l1.1.length : Int) - 1)).tdiv 2)))) rfl (x_quo rfl rfl (by decide)) ?_)
      obtain ⟨x1249, ha1250, hm⟩ := bndE hm
      obtain ⟨hz1251, ha1255⟩ := idxE ha1250
      obtain ⟨b1252, q1253, hix1254⟩ := rdL_ix (hL.rdO 0 rfl) hz1251 ha1255
      refine OW.cons (OP.val (v := (.pointer (some ⟨b1252, q1253, none⟩))) rfl (x_ix Try.underlying35 Try_T2 rfl rfl hix1254) ?_)
      refine OW.cons (OP.val (v := (.int .i64 x1249)) rfl (x_load1 Try.underlying2 rfl rfl (rdF_cells (hL.rdO 0 rfl) hix1254 ha1255 0 _ rfl)) ?_)
      refine OW.cons (OP.val (v := v1236) rfl (x_mv f1246) ?_)
      refine OW.cons (OP.val (v := (.int .i64 (s_l1.1.length : Int))) rfl (x_lenR Try.underlying35 rfl (hL.rdO 0 rfl)) ?_)
      refine OW.cons (OP.val (v := (.int .i64 x1249)) rfl (x_assign) ?_)
      refine OW.cons (OP.val (v := (.int .i64 (s_l1.1.length : Int))) rfl (x_assign) ?_)
      refine OW.nil ?_
      refine CW.ret ?_
      obtain rfl := Option.some.inj hm
      exact RR2 rfl rfl rfl ⟨rfl, hL.fresh 1 rfl [] (by decide) (by decide) rfl⟩
  · intro s_l1 F1256 wd1257 t1238 hJ hm hr1239
    unfold M.spec_l25Par_l1 at hm
    obtain ⟨v1236, S1237, f1258, f1259, f1260, f1261, hL⟩ := hJ
    refine CW.seq ?_
    refine CW.seq ?_
    refine CW.regionL ?_
    refine OW.cons (OP.val (v := (.int .i64 s_l1.2)) rfl (x_mv f1261) ?_)
    refine OW.cons (OP.val (v := v1) rfl (x_mv f1258) ?_)
    refine OW.cons (OP.val (v := (.int .i64 (a0.length : Int))) rfl (x_lenR Try.underlying28 rfl (hL.rdS 1 rfl h2)) ?_)
    refine OW.cons (OP.val (v := (.bool (decide (s_l1.2 < (a0.length : Int))))) rfl (x_lss rfl rfl) ?_)
    refine OW.nil ?_
    refine CW.condM (t := decide (s_l1.2 < (a0.length : Int))) rfl hm (fun hb1262 hm => ?_) (fun hb1262 hm => ?_)
    · refine CW.skip ?_
      refine CW.seqJ (fun (s_j1 : (List Int)) (F : Fr) (w : World) => ∃ (v1565 : Value) (S1566 : Nat → Prop), F 0 = v1 ∧ F 1 = v3 ∧ F 6 = v1565 ∧ F 7 = (.int .i64 s_l1.2) ∧ Hp w0 [Ent.own 2 S1566 v1565 s_j1, Ent.snap w0 w0.heap.size] w) (fun s_j1 => M.spec_l25Par_j1 s_l1 s_j1 = some t1238) ?_ ?_
      · refine CW.blockJ (fun (s_j2 : (List Int)) (F : Fr) (w : World) => ∃ (v1720 : Value) (S1721 : Nat → Prop), F 0 = v1 ∧ F 1 = v3 ∧ F 6 = v1720 ∧ F 7 = (.int .i64 s_l1.2) ∧ Hp w0 [Ent.own 2 S1721 v1720 s_j2, Ent.snap w0 w0.heap.size] w) (fun s_j2 => M.spec_l25Par_j2 s_l1 s_j2 = some t1238) ?_ ?_
        · refine CW.seq ?_
          refine CW.seq ?_
          refine CW.regionL ?_
          refine OW.cons (OP.val (v := v1) rfl (x_mv f1258) ?_)
          refine OW.cons (OP.val (v := (.int .i64 s_l1.2)) rfl (x_mv f1261) ?_)
          obtain ⟨x1728, ha1729, hm⟩ := bndE hm
          obtain ⟨hz1730, ha1734⟩ := idxE ha1729
          obtain ⟨b1731, q1732, hix1733⟩ := rdL_ix (hL.rdS 1 rfl h2) hz1730 ha1734
          refine OW.cons (OP.val (v := (.pointer (some ⟨b1731, q1732, none⟩))) rfl (x_ix Try.underlying28 Try_T56 rfl rfl hix1733) ?_)
          refine OW.cons (OP.val (v := (.pointer (some ⟨b1731, q1732 + 1, none⟩))) rfl (x_fieldAddr (fsz := 1) q1732 1 (q1732 + 1) Try.underlying56 rfl Try_T2 rfl rfl rfl) ?_)
          refine OW.cons (OP.val (v := (.int .i64 x1728.Code)) rfl (x_load1 Try.underlying2 rfl rfl (rdF_cells (hL.rdS 1 rfl h2) hix1733 ha1734 1 _ rfl)) ?_)
          refine OW.cons (OP.val (v := (.bool (x1728.Code != 0))) rfl (x_neq rfl rfl) ?_)
          refine OW.nil ?_
          refine CW.condM (t := x1728.Code != 0) rfl hm (fun hb1735 hm => ?_) (fun hb1735 hm => ?_)
          · refine CW.exit ?_
            refine XJ.hit ?_
            exact ⟨s_l1.1, hm, ⟨v1236, S1237, f1258, f1259, f1260, f1261, hL⟩⟩
          · refine CW.skip ?_
            refine CW.seq ?_
            refine CW.draw Try_mixed ?_
            have hL := hL.call (Mod.drew _)
            refine DW.pre (fuel := 0) (fin := (((((((((((((Array.replicate 12 false).setIfInBounds 0 true).setIfInBounds 1 true).setIfInBounds 2 true).setIfInBounds 3 true).setIfInBounds 4 true).setIfInBounds 5 true).setIfInBounds 6 true).setIfInBounds 7 true).setIfInBounds 8 true).setIfInBounds 9 true).setIfInBounds 10 true).setIfInBounds 11 true)) (C := fun w' => Mod None_ _ w') [0, 1, 2, 3, 4, 5, 6, 7, 8, 9, 10, 11] (Mod.refl _ _) (by kernel_rfl) (by kernel_rfl) ?_
            refine QW.cons rfl (QP.val (v := v1) rfl (fun w' hm' => x_mv f1258) ?_)
            refine QW.cons rfl (QP.val (v := (.int .i64 s_l1.2)) rfl (fun w' hm' => x_mv f1261) ?_)
            obtain ⟨x1736, ha1737, hm⟩ := bndE hm
            obtain ⟨hz1738, ha1742⟩ := idxE ha1737
            obtain ⟨b1739, q1740, hix1741⟩ := rdL_ix (hL.rdS 1 rfl h2) hz1738 ha1742
            refine QW.cons rfl (QP.val (v := (.pointer (some ⟨b1739, q1740, none⟩))) rfl (fun w' hm' => x_ix Try.underlying28 Try_T56 rfl rfl hix1741) ?_)
            refine QW.cons rfl (QP.val (v := (.pointer (some ⟨b1739, q1740 + 2, none⟩))) rfl (fun w' hm' => x_fieldAddr (fsz := 1) q1740 2 (q1740 + 2) Try.underlying56 rfl Try_T2 rfl rfl rfl) ?_)
            refine QW.cons rfl (QP.val (v := (.int .i64 x1736.Time)) rfl (fun w' hm' => x_load1 Try.underlying2 rfl rfl (rdF_cells ((hL.call hm').rdS 1 rfl h2) hix1741 ha1742 2 _ rfl)) ?_)
            refine QW.cons rfl (QP.val (v := v3) rfl (fun w' hm' => x_mv f1259) ?_)
            refine QW.cons rfl (QP.val (v := (.int .i64 s_l1.2)) rfl (fun w' hm' => x_mv f1261) ?_)
            obtain ⟨x1743, ha1744, hm⟩ := bndE hm
            obtain ⟨hz1745, ha1749⟩ := idxE ha1744
            obtain ⟨b1746, q1747, hix1748⟩ := rdL_ix (hL.rdS 1 rfl h4) hz1745 ha1749
            refine QW.cons rfl (QP.val (v := (.pointer (some ⟨b1746, q1747, none⟩))) rfl (fun w' hm' => x_ix Try.underlying30 Try_T61 rfl rfl hix1748) ?_)
            refine QW.cons rfl (QP.val (v := (.pointer (some ⟨b1746, q1747 + 1, none⟩))) rfl (fun w' hm' => x_fieldAddr (fsz := 1) q1747 1 (q1747 + 1) Try.underlying61 rfl Try_T2 rfl rfl rfl) ?_)
            refine QW.cons rfl (QP.val (v := (.int .i64 x1743.Value)) rfl (fun w' hm' => x_load1 Try.underlying2 rfl rfl (rdF_cells ((hL.call hm').rdS 1 rfl h4) hix1748 ha1749 1 _ rfl)) ?_)
            obtain ⟨x1750, hx1751, hm⟩ := bndE hm
            refine QW.cons rfl (QP.call (v := (.int .i64 x1750)) rfl (fun w' hm' => x_call (vs := [(.int .i64 x1736.Time), (.int .i64 x1743.Value)]) Try_C78 ⟨rfl, rfl, trivial⟩) (fun w' hm' => (M.spec_l22Corrected_ok w' x1736.Time x1743.Value hx1751).mono (fun e w'' h => ⟨h.1, hm'.trans h.2.mod⟩)) ?_)
            refine QW.cons rfl (QP.val (v := (.int .i64 x1750)) rfl (fun w' hm' => x_assign) ?_)
            refine QW.nil ?_
            intro wd1752 hmod
            have hL := hL.call hmod
            refine DW.done (by kernel_rfl) ?_
            refine CW.seq ?_
            refine CW.regionL ?_
            refine OW.cons (OP.val (v := v1236) rfl (x_mv f1260) ?_)
            refine OW.cons (OP.val (v := (.int .i64 (s_l1.1.length : Int))) rfl (x_lenR Try.underlying35 rfl (hL.rdO 0 rfl)) ?_)
            refine OW.cons (OP.val (v := (.int .i64 (s_l1.1.length : Int))) rfl (x_assign) ?_)
            refine OW.nil ?_
            refine CW.seq ?_
            obtain ⟨o1807, ho1808, hm⟩ := bndE hm
            refine CW.loopB (fun (s_l2 : Int) (F : Fr) (w : World) => F 0 = v1 ∧ F 1 = v3 ∧ F 6 = v1236 ∧ F 7 = (.int .i64 s_l1.2) ∧ F 8 = (.int .i64 x1750) ∧ F 9 = (.int .i64 s_l2) ∧ Hp w0 [Ent.own 2 S1237 v1236 s_l1.1, Ent.snap w0 w0.heap.size] w) (fun o => outc o (fun x => some (.ret x)) (fun s => M.spec_l25Par_a2 s_l1 x1750 s) = some t1238) ho1808 hm ⟨f1258, f1259, f1260, f1261, rfl, rfl, hL⟩ ?_ ?_
            · intro s_l2 F1809 wd1810 hJ hm
              have hm := outcE hm
              have hm : M.spec_l25Par_a2 s_l1 x1750 s_l2 = some t1238 := hm
              unfold M.spec_l25Par_a2 at hm
              obtain ⟨f1811, f1812, f1813, f1814, f1815, f1816, hL⟩ := hJ
              refine CW.seq ?_
              refine CW.regionL ?_
              refine OW.cons (OP.val (v := (.int .i64 x1750)) rfl (x_mv f1815) ?_)
              refine OW.cons (S_lit ([x1750] : List Int) hL Try.underlying35 Try_T2 rfl (by decide) (by first | (simp [Instr.fill, madeCells, Value.cells, ev, upd, Flat.enc, Flat.sz]; done) | rfl | kernel_rfl) rfl rfl ?_)
              intro wd1817 v1818 S1819 hL
              refine OW.cons (OP.val (v := v1236) rfl (x_mv f1813) ?_)
              refine OW.cons (OP.val (v := (.int .i64 s_l2)) rfl (x_mv f1816) ?_)
              obtain ⟨hc1822, hm⟩ := chkE hm
              obtain ⟨v1820, hs1821⟩ := subV_of (hL.rdO 1 rfl) hc1822
              refine OW.cons (OP.val (v := v1820) rfl (x_slice1 Try.underlying35 Try_T2 rfl rfl (subV_len (hL.rdO 1 rfl)) hs1821) ?_)
              obtain ⟨hc1826, hm⟩ := chkE hm
              refine OW.cons (S_append (ys := subL s_l1.1 s_l2 (s_l1.1.length : Int)) hL 0 rfl Try.underlying35 Try_T2 rfl rfl rfl (SubV.rdL hs1821 (hL.rdO 1 rfl)) hc1826 (by decide) rfl ?_)
              intro wd1823 v1824 S1825 hL
              refine OW.cons (OP.val (v := v1824) rfl (x_assign) ?_)
              refine OW.nil ?_
              refine CW.regionL ?_
              refine OW.cons (S_lit ([] : List Int) hL Try.underlying35 Try_T2 rfl (by decide) (by first | (simp [Instr.fill, madeCells, Value.cells, ev, upd, Flat.enc, Flat.sz]; done) | rfl | kernel_rfl) rfl rfl ?_)
              intro wd1827 v1828 S1829 hL
              refine OW.cons (OP.val (v := v1236) rfl (x_mv f1813) ?_)
              refine OW.cons (OP.val (v := (.int .i64 s_l2)) rfl (x_mv f1816) ?_)
              obtain ⟨hc1832, hm⟩ := chkE hm
              obtain ⟨v1830, hs1831⟩ := subV_of (hL.rdO 2 rfl) hc1832
              refine OW.cons (OP.val (v := v1830) rfl (x_slice0 Try.underlying35 Try_T2 rfl rfl hs1831) ?_)
              obtain ⟨hc1836, hm⟩ := chkE hm
              refine OW.cons (S_append (ys := subL s_l1.1 0 s_l2) hL 0 rfl Try.underlying35 Try_T2 rfl rfl rfl (SubV.rdL hs1831 (hL.rdO 2 rfl)) hc1836 (by decide) rfl ?_)
              intro wd1833 v1834 S1835 hL
              refine OW.cons (OP.val (v := v1824) rfl (x_move) ?_)
              obtain ⟨hc1840, hm⟩ := chkE hm
              refine OW.cons (S_append (ys := ([x1750] : List Int) ++ (subL s_l1.1 s_l2 (s_l1.1.length : Int))) hL 0 rfl Try.underlying35 Try_T2 rfl rfl rfl (hL.rdO 1 rfl) hc1840 (by decide) rfl ?_)
              intro wd1837 v1838 S1839 hL
              refine OW.cons (OP.val (v := v1838) rfl (x_assign) ?_)
              refine OW.nil ?_
              have hL := hL.sel [0, 3] (by decide) rfl
              exact ⟨(([] : List Int) ++ (subL s_l1.1 0 s_l2)) ++ (([x1750] : List Int) ++ (subL s_l1.1 s_l2 (s_l1.1.length : Int))), hm, ⟨v1838, S1839, f1811, f1812, rfl, f1814, hL⟩⟩
            · intro s_l2 F1841 wd1842 t1805 hJ hm hr1806
              unfold M.spec_l25Par_l2 at hm
              obtain ⟨f1843, f1844, f1845, f1846, f1847, f1848, hL⟩ := hJ
              refine CW.seq ?_
              refine CW.seqJ (fun (s_j3 : Bool) (F : Fr) (w : World) => F 0 = v1 ∧ F 1 = v3 ∧ F 6 = v1236 ∧ F 7 = (.int .i64 s_l1.2) ∧ F 8 = (.int .i64 x1750) ∧ F 9 = (.int .i64 s_l2) ∧ F 47 = (.bool s_j3) ∧ Hp w0 [Ent.own 2 S1237 v1236 s_l1.1, Ent.snap w0 w0.heap.size] w) (fun s_j3 => M.spec_l25Par_j3 s_l2 s_j3 = some t1805) ?_ ?_
              · refine CW.regionL ?_
                refine OW.cons (OP.val (v := (.int .i64 s_l2)) rfl (x_mv f1848) ?_)
                refine OW.cons (OP.val (v := (.bool (decide (0 < s_l2)))) rfl (x_gtr rfl rfl) ?_)
                refine OW.cons (OP.val (v := (.bool (decide (0 < s_l2)))) rfl (x_move) ?_)
                refine ifB_elim hm (fun hb1867 hm => ?_) (fun hb1867 hm => ?_)
                · refine OW.cons (OP.yes' rfl rfl hb1867 (OP.val (v := v1236) rfl (x_mv f1845) ?_))
                  refine OW.cons (OP.yes' rfl rfl hb1867 (OP.val (v := (.int .i64 s_l2)) rfl (x_mv f1848) ?_))
                  refine OW.cons (OP.yes' rfl rfl hb1867 (OP.val (v := (.int .i64 (w64 (s_l2 - 1)))) rfl (x_sub rfl rfl) ?_))
                  obtain ⟨x1868, ha1869, hm⟩ := bndE hm
                  obtain ⟨hz1870, ha1874⟩ := idxE ha1869
                  obtain ⟨b1871, q1872, hix1873⟩ := rdL_ix (hL.rdO 0 rfl) hz1870 ha1874
                  refine OW.cons (OP.yes' rfl rfl hb1867 (OP.val (v := (.pointer (some ⟨b1871, q1872, none⟩))) rfl (x_ix Try.underlying35 Try_T2 rfl rfl hix1873) ?_))
                  refine OW.cons (OP.yes' rfl rfl hb1867 (OP.val (v := (.int .i64 x1868)) rfl (x_load1 Try.underlying2 rfl rfl (rdF_cells (hL.rdO 0 rfl) hix1873 ha1874 0 _ rfl)) ?_))
                  refine OW.cons (OP.yes' rfl rfl hb1867 (OP.val (v := (.int .i64 x1750)) rfl (x_mv f1847) ?_))
                  refine OW.cons (OP.yes' rfl rfl hb1867 (OP.val (v := (.bool (decide (x1750 < x1868)))) rfl (x_gtr rfl rfl) ?_))
                  refine OW.cons (OP.val (v := (.bool (decide (x1750 < x1868)))) rfl (x_pickT' rfl hb1867 rfl) ?_)
                  refine OW.nil ?_
                  exact ⟨decide (x1750 < x1868), hm, ⟨f1843, f1844, f1845, f1846, f1847, f1848, rfl, hL⟩⟩
                · refine OW.cons (OP.no' rfl rfl hb1867 rfl ?_)
                  refine OW.cons (OP.no' rfl rfl hb1867 rfl ?_)
                  refine OW.cons (OP.no' rfl rfl hb1867 rfl ?_)
                  refine OW.cons (OP.no' rfl rfl hb1867 rfl ?_)
                  refine OW.cons (OP.no' rfl rfl hb1867 rfl ?_)
                  refine OW.cons (OP.no' rfl rfl hb1867 rfl ?_)
                  refine OW.cons (OP.no' rfl rfl hb1867 rfl ?_)
                  refine OW.cons (OP.val (v := (.bool false)) rfl (x_pickF' rfl hb1867 rfl) ?_)
                  refine OW.nil ?_
                  exact ⟨false, hm, ⟨f1843, f1844, f1845, f1846, f1847, f1848, rfl, hL⟩⟩
              · intro s_j3 F1857 wd1858 hJ hm
                unfold M.spec_l25Par_j3 at hm
                obtain ⟨f1859, f1860, f1861, f1862, f1863, f1864, f1865, hL⟩ := hJ
                refine CW.condM (t := s_j3) f1865 hm (fun hb1866 hm => ?_) (fun hb1866 hm => ?_)
                · refine CW.skip ?_
                  refine CW.block ?_
                  refine CW.regionL ?_
                  refine OW.cons (OP.val (v := (.int .i64 s_l2)) rfl (x_mv f1864) ?_)
                  refine OW.cons (OP.val (v := (.int .i64 (w64 (s_l2 - 1)))) rfl (x_sub rfl rfl) ?_)
                  refine OW.cons (OP.val (v := (.int .i64 (w64 (s_l2 - 1)))) rfl (x_assign) ?_)
                  refine OW.nil ?_
                  obtain rfl := Option.some.inj hm
                  exact ⟨_, rfl, ⟨f1859, f1860, f1861, f1862, f1863, rfl, hL⟩⟩
                · refine CW.exit ?_
                  refine XJ.hit ?_
                  obtain rfl := Option.some.inj hm
                  exact ⟨_, rfl, ⟨f1859, f1860, f1861, f1862, f1863, f1864, hL⟩⟩
        · intro s_j2 F1722 wd1723 hJ hm
          unfold M.spec_l25Par_j2 at hm
          obtain ⟨v1720, S1721, f1724, f1725, f1726, f1727, hL⟩ := hJ
          exact ⟨s_j2, hm, ⟨v1720, S1721, f1724, f1725, f1726, f1727, hL⟩⟩
      · intro s_j1 F1567 wd1568 hJ hm
        unfold M.spec_l25Par_j1 at hm
        obtain ⟨v1565, S1566, f1569, f1570, f1571, f1572, hL⟩ := hJ
        refine CW.regionL ?_
        refine OW.cons (OP.val (v := (.int .i64 s_l1.2)) rfl (x_mv f1572) ?_)
        refine OW.cons (OP.val (v := (.int .i64 (w64 (s_l1.2 + 1)))) rfl (x_add rfl rfl) ?_)
        refine OW.cons (OP.val (v := (.int .i64 (w64 (s_l1.2 + 1)))) rfl (x_assign) ?_)
        refine OW.nil ?_
        obtain rfl := Option.some.inj hm
        exact ⟨_, rfl, ⟨v1565, S1566, f1569, f1570, f1571, rfl, hL⟩⟩
    · refine CW.exit ?_
      refine XJ.hit ?_
      obtain rfl := Option.some.inj hm
      exact ⟨_, rfl, ⟨v1236, S1237, f1258, f1259, f1260, f1261, hL⟩⟩

theorem M.impl_within_ok (w0 : World) (a0 : Int) (a1 : Int) (a2 : Int) {r : Bool} (hm : M.impl_within a0 a1 a2 = some r) :
    Calls Try.prog 74 #[(.int .i64 a0), (.int .i64 a1), (.int .i64 a2)] w0 fun e w' => e = .returned (.bool r) ∧ Fresh w0 w' [] := by
  unfold M.impl_within at hm
  refine calls_CW (args := [(.int .i64 a0), (.int .i64 a1), (.int .i64 a2)]) Try.func74 rfl rfl rfl ?_
  have hL := Hp.start w0
  refine CW.seq ?_
  refine CW.regionL ?_
  refine OW.cons (OP.val (v := (.bool false)) rfl (x_assign) ?_)
  refine OW.nil ?_
  refine CW.seqJ (fun (s_j1 : Bool) (F : Fr) (w : World) => F 6 = (.bool s_j1) ∧ Hp w0 [Ent.snap w0 w0.heap.size] w) (fun s_j1 => M.impl_within_j1 s_j1 = some r) ?_ ?_
  · refine CW.regionL ?_
    refine OW.cons (OP.val (v := (.int .i64 a0)) rfl (x_move) ?_)
    refine OW.cons (OP.val (v := (.int .i64 a1)) rfl (x_move) ?_)
    refine OW.cons (OP.val (v := (.bool (decide (a1 ≤ a0)))) rfl (x_geq rfl rfl) ?_)
    refine OW.cons (OP.val (v := (.bool (decide (a1 ≤ a0)))) rfl (x_move) ?_)
    refine ifB_elim hm (fun hb5 hm => ?_) (fun hb5 hm => ?_)
    · refine OW.cons (OP.yes' rfl rfl hb5 (OP.val (v := (.int .i64 a0)) rfl (x_move) ?_))
      refine OW.cons (OP.yes' rfl rfl hb5 (OP.val (v := (.int .i64 a2)) rfl (x_move) ?_))
      refine OW.cons (OP.yes' rfl rfl hb5 (OP.val (v := (.bool (decide (a0 ≤ a2)))) rfl (x_leq rfl rfl) ?_))
      refine OW.cons (OP.val (v := (.bool (decide (a0 ≤ a2)))) rfl (x_pickT' rfl hb5 rfl) ?_)
      refine OW.cons (OP.val (v := (.bool (decide (a0 ≤ a2)))) rfl (x_assign) ?_)
      refine OW.nil ?_
      exact ⟨decide (a0 ≤ a2), hm, ⟨rfl, hL⟩⟩
    · refine OW.cons (OP.no' rfl rfl hb5 rfl ?_)
      refine OW.cons (OP.no' rfl rfl hb5 rfl ?_)
      refine OW.cons (OP.no' rfl rfl hb5 rfl ?_)
      refine OW.cons (OP.val (v := (.bool false)) rfl (x_pickF' rfl hb5 rfl) ?_)
      refine OW.cons (OP.val (v := (.bool false)) rfl (x_assign) ?_)
      refine OW.nil ?_
      exact ⟨false, hm, ⟨rfl, hL⟩⟩
  · intro s_j1 F2 wd3 hJ hm
    unfold M.impl_within_j1 at hm
    obtain ⟨f4, hL⟩ := hJ
    refine CW.ret ?_
    obtain rfl := Option.some.inj hm
    exact RR1 rfl f4 ⟨rfl, hL.fresh 0 rfl [] (by decide) (by decide) rfl⟩

theorem M.impl_isBoat_ok (w0 : World) (a0 : Int) {r : Bool} (hm : M.impl_isBoat a0 = some r) :
    Calls Try.prog 93 #[(.int .i64 a0)] w0 fun e w' => e = .returned (.bool r) ∧ Fresh w0 w' [] := by
  unfold M.impl_isBoat at hm
  refine calls_CW (args := [(.int .i64 a0)]) Try.func93 rfl rfl rfl ?_
  have hL := Hp.start w0
  refine CW.seq ?_
  refine CW.regionL ?_
  refine OW.cons (OP.val (v := (.bool false)) rfl (x_assign) ?_)
  refine OW.nil ?_
  refine CW.seq ?_
  refine CW.regionL ?_
  refine OW.cons (OP.val (v := (.int .i64 a0)) rfl (x_move) ?_)
  obtain ⟨x1, hx2, hm⟩ := bndE hm
  refine OW.cons (OP.call rfl (x_call (vs := [(.int .i64 a0), (.int .i64 0), (.int .i64 15)]) Try_C74 ⟨rfl, rfl, rfl, trivial⟩) (M.impl_within_ok _ a0 0 15 hx2) ?_)
  rintro e3 wd4 ⟨rfl, hF5⟩
  refine ⟨_, rfl, ?_⟩
  have hL := hL.pushAll hF5
  simp only [lA, lB, lC, lD] at hL
  refine OW.cons (OP.val (v := (.bool x1)) rfl (x_assign) ?_)
  refine OW.nil ?_
  refine CW.ret ?_
  obtain rfl := Option.some.inj hm
  exact RR1 rfl rfl ⟨rfl, hL.fresh 0 rfl [] (by decide) (by decide) rfl⟩

theorem M.impl_IsFinish_ok (w0 : World) (a0 : Finish) {r : Bool} (hm : M.impl_IsFinish a0 = some r) :
    Calls Try.prog 86 #[(.agg #[(.int .i64 a0.Boat), (.int .i64 a0.Code), (.int .i64 a0.Time)])] w0 fun e w' => e = .returned (.bool r) ∧ Fresh w0 w' [] := by
  unfold M.impl_IsFinish at hm
  refine calls_CW (args := [(.agg #[(.int .i64 a0.Boat), (.int .i64 a0.Code), (.int .i64 a0.Time)])]) Try.func86 rfl rfl rfl ?_
  have hL := Hp.start w0
  refine CW.seq ?_
  refine CW.regionL ?_
  refine OW.cons (S_box (cs := #[(.int .i64 a0.Boat), (.int .i64 a0.Code), (.int .i64 a0.Time)]) hL rfl rfl rfl ?_)
  intro wd1 b2 hL
  refine OW.cons (OP.val (v := (.bool false)) rfl (x_assign) ?_)
  refine OW.nil ?_
  refine CW.seq ?_
  refine CW.seq ?_
  refine CW.regionL ?_
  refine OW.cons (OP.val (v := (.pointer (some ⟨b2, 1, none⟩))) rfl (x_fieldAddr (fsz := 1) 0 1 1 Try.underlying56 rfl Try_T2 rfl rfl rfl) ?_)
  refine OW.cons (OP.val (v := (.int .i64 a0.Code)) rfl (x_load1 Try.underlying2 rfl rfl (hL.cellB 0 rfl rfl)) ?_)
  refine OW.cons (OP.val (v := (.bool (a0.Code == 0))) rfl (x_eql rfl rfl) ?_)
  refine OW.nil ?_
  refine CW.condM (t := a0.Code == 0) rfl hm (fun hb3 hm => ?_) (fun hb3 hm => ?_)
  · refine CW.seqJ (fun (s_j1 : Bool) (F : Fr) (w : World) => F 2 = (.bool s_j1) ∧ Hp w0 [Ent.blk b2 56 #[(.int .i64 a0.Boat), (.int .i64 a0.Code), (.int .i64 a0.Time)], Ent.snap w0 w0.heap.size] w) (fun s_j1 => M.impl_IsFinish_j1 s_j1 = some r) ?_ ?_
    · refine CW.regionL ?_
      refine OW.cons (OP.val (v := (.pointer (some ⟨b2, 0, none⟩))) rfl (x_fieldAddr (fsz := 1) 0 0 0 Try.underlying56 rfl Try_T2 rfl rfl rfl) ?_)
      refine OW.cons (OP.val (v := (.int .i64 a0.Boat)) rfl (x_load1 Try.underlying2 rfl rfl (hL.cellB 0 rfl rfl)) ?_)
      obtain ⟨x18, hx19, hm⟩ := bndE hm
      refine OW.cons (OP.call rfl (x_call (vs := [(.int .i64 a0.Boat)]) Try_C93 ⟨rfl, trivial⟩) (M.impl_isBoat_ok _ a0.Boat hx19) ?_)
      rintro e20 wd21 ⟨rfl, hF22⟩
      refine ⟨_, rfl, ?_⟩
      have hL := hL.pushAll hF22
      simp only [lA, lB, lC, lD] at hL
      refine OW.cons (OP.val (v := (.bool x18)) rfl (x_move) ?_)
      refine ifB_elim hm (fun hb23 hm => ?_) (fun hb23 hm => ?_)
      · refine OW.cons (OP.yes' rfl rfl hb23 (OP.val (v := (.pointer (some ⟨b2, 2, none⟩))) rfl (x_fieldAddr (fsz := 1) 0 2 2 Try.underlying56 rfl Try_T2 rfl rfl rfl) ?_))
        refine OW.cons (OP.yes' rfl rfl hb23 (OP.val (v := (.int .i64 a0.Time)) rfl (x_load1 Try.underlying2 rfl rfl (hL.cellB 0 rfl rfl)) ?_))
        obtain ⟨x24, hx25, hm⟩ := bndE hm
        refine OW.cons (OP.yes' rfl rfl hb23 (OP.call rfl (x_call (vs := [(.int .i64 a0.Time), (.int .i64 1), (.int .i64 1000000000)]) Try_C74 ⟨rfl, rfl, rfl, trivial⟩) (M.impl_within_ok _ a0.Time 1 1000000000 hx25) ?_))
        rintro e26 wd27 ⟨rfl, hF28⟩
        refine ⟨_, rfl, ?_⟩
        have hL := hL.pushAll hF28
        simp only [lA, lB, lC, lD] at hL
        refine OW.cons (OP.val (v := (.bool x24)) rfl (x_pickT' rfl hb23 rfl) ?_)
        refine OW.cons (OP.val (v := (.bool x24)) rfl (x_assign) ?_)
        refine OW.nil ?_
        exact ⟨x24, hm, ⟨rfl, hL⟩⟩
      · refine OW.cons (OP.no' rfl rfl hb23 rfl ?_)
        refine OW.cons (OP.no' rfl rfl hb23 rfl ?_)
        refine OW.cons (OP.no' rfl rfl hb23 rfl ?_)
        refine OW.cons (OP.val (v := (.bool false)) rfl (x_pickF' rfl hb23 rfl) ?_)
        refine OW.cons (OP.val (v := (.bool false)) rfl (x_assign) ?_)
        refine OW.nil ?_
        exact ⟨false, hm, ⟨rfl, hL⟩⟩
    · intro s_j1 F15 wd16 hJ hm
      unfold M.impl_IsFinish_j1 at hm
      obtain ⟨f17, hL⟩ := hJ
      refine CW.ret ?_
      obtain rfl := Option.some.inj hm
      exact RR1 rfl f17 ⟨rfl, hL.fresh 1 rfl [] (by decide) (by decide) rfl⟩
  · refine CW.skip ?_
    refine CW.seqJ (fun (s_j2 : Bool) (F : Fr) (w : World) => F 2 = (.bool s_j2) ∧ Hp w0 [Ent.blk b2 56 #[(.int .i64 a0.Boat), (.int .i64 a0.Code), (.int .i64 a0.Time)], Ent.snap w0 w0.heap.size] w) (fun s_j2 => M.impl_IsFinish_j2 s_j2 = some r) ?_ ?_
    · refine CW.regionL ?_
      refine OW.cons (OP.val (v := (.pointer (some ⟨b2, 0, none⟩))) rfl (x_fieldAddr (fsz := 1) 0 0 0 Try.underlying56 rfl Try_T2 rfl rfl rfl) ?_)
      refine OW.cons (OP.val (v := (.int .i64 a0.Boat)) rfl (x_load1 Try.underlying2 rfl rfl (hL.cellB 0 rfl rfl)) ?_)
      obtain ⟨x44, hx45, hm⟩ := bndE hm
      refine OW.cons (OP.call rfl (x_call (vs := [(.int .i64 a0.Boat)]) Try_C93 ⟨rfl, trivial⟩) (M.impl_isBoat_ok _ a0.Boat hx45) ?_)
      rintro e46 wd47 ⟨rfl, hF48⟩
      refine ⟨_, rfl, ?_⟩
      have hL := hL.pushAll hF48
      simp only [lA, lB, lC, lD] at hL
      refine OW.cons (OP.val (v := (.bool x44)) rfl (x_move) ?_)
      refine ifB_elim hm (fun hb49 hm => ?_) (fun hb49 hm => ?_)
      · refine OW.cons (OP.yes' rfl rfl hb49 (OP.val (v := (.pointer (some ⟨b2, 1, none⟩))) rfl (x_fieldAddr (fsz := 1) 0 1 1 Try.underlying56 rfl Try_T2 rfl rfl rfl) ?_))
        refine OW.cons (OP.yes' rfl rfl hb49 (OP.val (v := (.int .i64 a0.Code)) rfl (x_load1 Try.underlying2 rfl rfl (hL.cellB 0 rfl rfl)) ?_))
        obtain ⟨x50, hx51, hm⟩ := bndE hm
        refine OW.cons (OP.yes' rfl rfl hb49 (OP.call rfl (x_call (vs := [(.int .i64 a0.Code), (.int .i64 1), (.int .i64 9)]) Try_C74 ⟨rfl, rfl, rfl, trivial⟩) (M.impl_within_ok _ a0.Code 1 9 hx51) ?_))
        rintro e52 wd53 ⟨rfl, hF54⟩
        refine ⟨_, rfl, ?_⟩
        have hL := hL.pushAll hF54
        simp only [lA, lB, lC, lD] at hL
        refine OW.cons (OP.val (v := (.bool x50)) rfl (x_pickT' rfl hb49 rfl) ?_)
        refine OW.cons (OP.val (v := (.bool x50)) rfl (x_move) ?_)
        refine ifB_elim hm (fun hb55 hm => ?_) (fun hb55 hm => ?_)
        · refine OW.cons (OP.yes' rfl rfl hb55 (OP.val (v := (.pointer (some ⟨b2, 2, none⟩))) rfl (x_fieldAddr (fsz := 1) 0 2 2 Try.underlying56 rfl Try_T2 rfl rfl rfl) ?_))
          refine OW.cons (OP.yes' rfl rfl hb55 (OP.val (v := (.int .i64 a0.Time)) rfl (x_load1 Try.underlying2 rfl rfl (hL.cellB 0 rfl rfl)) ?_))
          refine OW.cons (OP.yes' rfl rfl hb55 (OP.val (v := (.bool (a0.Time == 0))) rfl (x_eql rfl rfl) ?_))
          refine OW.cons (OP.val (v := (.bool (a0.Time == 0))) rfl (x_pickT' rfl hb55 rfl) ?_)
          refine OW.cons (OP.val (v := (.bool (a0.Time == 0))) rfl (x_assign) ?_)
          refine OW.nil ?_
          exact ⟨a0.Time == 0, hm, ⟨rfl, hL⟩⟩
        · refine OW.cons (OP.no' rfl rfl hb55 rfl ?_)
          refine OW.cons (OP.no' rfl rfl hb55 rfl ?_)
          refine OW.cons (OP.no' rfl rfl hb55 rfl ?_)
          refine OW.cons (OP.val (v := (.bool false)) rfl (x_pickF' rfl hb55 rfl) ?_)
          refine OW.cons (OP.val (v := (.bool false)) rfl (x_assign) ?_)
          refine OW.nil ?_
          exact ⟨false, hm, ⟨rfl, hL⟩⟩
      · refine OW.cons (OP.no' rfl rfl hb49 rfl ?_)
        refine OW.cons (OP.no' rfl rfl hb49 rfl ?_)
        refine OW.cons (OP.no' rfl rfl hb49 rfl ?_)
        refine OW.cons (OP.val (v := (.bool false)) rfl (x_pickF' rfl hb49 rfl) ?_)
        refine OW.cons (OP.val (v := (.bool false)) rfl (x_move) ?_)
        refine OW.cons (OP.no' rfl rfl rfl rfl ?_)
        refine OW.cons (OP.no' rfl rfl rfl rfl ?_)
        refine OW.cons (OP.no' rfl rfl rfl rfl ?_)
        refine OW.cons (OP.val (v := (.bool false)) rfl (x_pickF' rfl rfl rfl) ?_)
        refine OW.cons (OP.val (v := (.bool false)) rfl (x_assign) ?_)
        refine OW.nil ?_
        exact ⟨false, hm, ⟨rfl, hL⟩⟩
    · intro s_j2 F41 wd42 hJ hm
      unfold M.impl_IsFinish_j2 at hm
      obtain ⟨f43, hL⟩ := hJ
      refine CW.ret ?_
      obtain rfl := Option.some.inj hm
      exact RR1 rfl f43 ⟨rfl, hL.fresh 1 rfl [] (by decide) (by decide) rfl⟩

theorem M.impl_areFinishes_ok (w0 : World) (a0 : Int) (a1 : List Finish) {v1 : Value} (h2 : rdL (· < w0.heap.size) w0 v1 a1) {r : Bool} (hm : M.impl_areFinishes a0 a1 = some r) :
    Calls Try.prog 79 #[(.int .i64 a0), v1] w0 fun e w' => e = .returned (.bool r) ∧ Fresh w0 w' [] := by
  unfold M.impl_areFinishes at hm
  refine calls_CW (args := [(.int .i64 a0), v1]) Try.func79 rfl rfl rfl ?_
  have hL := Hp.start w0
  refine CW.seq ?_
  refine CW.regionL ?_
  refine OW.cons (OP.val (v := (.bool false)) rfl (x_assign) ?_)
  refine OW.nil ?_
  refine CW.seq ?_
  refine CW.seqJ (fun (s_j1 : Bool) (F : Fr) (w : World) => F 1 = v1 ∧ F 15 = (.bool s_j1) ∧ Hp w0 [Ent.snap w0 w0.heap.size] w) (fun s_j1 => M.impl_areFinishes_j1 a1 s_j1 = some r) ?_ ?_
  · refine CW.regionL ?_
    refine OW.cons (OP.val (v := (.int .i64 a0)) rfl (x_move) ?_)
    obtain ⟨x118, hx119, hm⟩ := bndE hm
    refine OW.cons (OP.call rfl (x_call (vs := [(.int .i64 a0), (.int .i64 1), (.int .i64 16)]) Try_C74 ⟨rfl, rfl, rfl, trivial⟩) (M.impl_within_ok _ a0 1 16 hx119) ?_)
    rintro e120 wd121 ⟨rfl, hF122⟩
    refine ⟨_, rfl, ?_⟩
    have hL := hL.pushAll hF122
    simp only [lA, lB, lC, lD] at hL
    refine OW.cons (OP.val (v := (.bool (!x118))) rfl (x_not rfl) ?_)
    refine OW.cons (OP.val (v := (.bool (!x118))) rfl (x_move) ?_)
    refine ifB_elim hm (fun hb123 hm => ?_) (fun hb123 hm => ?_)
    · refine OW.cons (OP.no' rfl rfl hb123 rfl ?_)
      refine OW.cons (OP.no' rfl rfl hb123 rfl ?_)
      refine OW.cons (OP.no' rfl rfl hb123 rfl ?_)
      refine OW.cons (OP.no' rfl rfl hb123 rfl ?_)
      refine OW.cons (OP.val (v := (.bool true)) rfl (x_pickT' rfl hb123 rfl) ?_)
      refine OW.nil ?_
      exact ⟨true, hm, ⟨rfl, rfl, hL⟩⟩
    · refine OW.cons (OP.yes' rfl rfl hb123 (OP.val (v := v1) rfl (x_move) ?_))
      refine OW.cons (OP.yes' rfl rfl hb123 (OP.val (v := (.int .i64 (a1.length : Int))) rfl (x_lenR Try.underlying28 rfl (hL.rdS 0 rfl h2)) ?_))
      refine OW.cons (OP.yes' rfl rfl hb123 (OP.val (v := (.int .i64 a0)) rfl (x_move) ?_))
      refine OW.cons (OP.yes' rfl rfl hb123 (OP.val (v := (.bool ((a1.length : Int) != a0))) rfl (x_neq rfl rfl) ?_))
      refine OW.cons (OP.val (v := (.bool ((a1.length : Int) != a0))) rfl (x_pickF' rfl hb123 rfl) ?_)
      refine OW.nil ?_
      exact ⟨(a1.length : Int) != a0, hm, ⟨rfl, rfl, hL⟩⟩
  · intro s_j1 F9 wd10 hJ hm
    unfold M.impl_areFinishes_j1 at hm
    obtain ⟨f11, f12, hL⟩ := hJ
    refine CW.condM (t := s_j1) f12 hm (fun hb13 hm => ?_) (fun hb13 hm => ?_)
    · refine CW.seq ?_
      refine CW.regionL ?_
      refine OW.cons (OP.val (v := (.bool false)) rfl (x_assign) ?_)
      refine OW.nil ?_
      refine CW.ret ?_
      obtain rfl := Option.some.inj hm
      exact RR1 rfl rfl ⟨rfl, hL.fresh 0 rfl [] (by decide) (by decide) rfl⟩
    · refine CW.skip ?_
      refine CW.seq ?_
      refine CW.seq ?_
      refine CW.regionL ?_
      refine OW.cons (OP.val (v := v1) rfl (x_mv f11) ?_)
      refine OW.cons (OP.val (v := (.int .i64 (a1.length : Int))) rfl (x_lenR Try.underlying28 rfl (hL.rdS 0 rfl h2)) ?_)
      refine OW.cons (OP.val (v := (.int .i64 0)) rfl (x_move) ?_)
      refine OW.nil ?_
      obtain ⟨o76, ho77, hm⟩ := bndE hm
      refine CW.loopB (fun (s_l1 : Int) (F : Fr) (w : World) => F 16 = v1 ∧ F 17 = (.int .i64 (a1.length : Int)) ∧ F 18 = (.int .i64 s_l1) ∧ Hp w0 [Ent.snap w0 w0.heap.size] w) (fun o => outc o (fun x => some x) (fun s => M.impl_areFinishes_a1 s) = some r) ho77 hm ⟨rfl, rfl, rfl, hL⟩ ?_ ?_
      · intro s_l1 F78 wd79 hJ hm
        have hm := outcE hm
        have hm : M.impl_areFinishes_a1 s_l1 = some r := hm
        unfold M.impl_areFinishes_a1 at hm
        obtain ⟨f80, f81, f82, hL⟩ := hJ
        refine CW.seq ?_
        refine CW.regionL ?_
        refine OW.cons (OP.val (v := (.bool true)) rfl (x_assign) ?_)
        refine OW.nil ?_
        refine CW.ret ?_
        obtain rfl := Option.some.inj hm
        exact RR1 rfl rfl ⟨rfl, hL.fresh 0 rfl [] (by decide) (by decide) rfl⟩
      · intro s_l1 F83 wd84 t74 hJ hm hr75
        unfold M.impl_areFinishes_l1 at hm
        obtain ⟨f85, f86, f87, hL⟩ := hJ
        refine CW.seq ?_
        refine CW.regionL ?_
        refine OW.cons (OP.val (v := (.bool (decide (s_l1 < (a1.length : Int))))) rfl (x_lss f87 f86) ?_)
        refine OW.nil ?_
        refine CW.seq ?_
        refine CW.condM (t := decide (s_l1 < (a1.length : Int))) rfl hm (fun hb88 hm => ?_) (fun hb88 hm => ?_)
        · refine CW.skip ?_
          refine CW.seq ?_
          refine CW.block ?_
          refine CW.seq ?_
          refine CW.regionL ?_
          refine OW.cons (OP.val (v := (.int .i64 s_l1)) rfl (x_mv f87) ?_)
          obtain ⟨x89, ha90, hm⟩ := bndE hm
          obtain ⟨hz91, ha95⟩ := idxE ha90
          obtain ⟨b92, q93, hix94⟩ := rdL_ix (hL.rdS 0 rfl h2) hz91 ha95
          refine OW.cons (OP.val (v := (.pointer (some ⟨b92, q93, none⟩))) rfl (x_ix Try.underlying28 Try_T56 f85 f87 hix94) ?_)
          refine OW.cons (OP.val (v := (.agg #[(.int .i64 x89.Boat), (.int .i64 x89.Code), (.int .i64 x89.Time)])) rfl (x_loadN (cs := [(.int .i64 x89.Boat), (.int .i64 x89.Code), (.int .i64 x89.Time)]) Try.underlying56 Try_T56 rfl rfl (rdF_cells (hL.rdS 0 rfl h2) hix94 ha95)) ?_)
          refine OW.cons (S_alloc (cs := #[(.int .i64 0), (.int .i64 0), (.int .i64 0)]) hL Try_T56 rfl rfl ?_)
          intro wd96 b97 hL
          refine OW.cons (OP.val (v := (.int .i64 s_l1)) rfl (x_assign) ?_)
          refine OW.cons (S_storeN (l := [(.int .i64 x89.Boat), (.int .i64 x89.Code), (.int .i64 x89.Time)]) (cs' := #[(.int .i64 x89.Boat), (.int .i64 x89.Code), (.int .i64 x89.Time)]) hL 0 rfl Try_T56 rfl rfl (List.forall_mem_cons.2 ⟨rfl, (List.forall_mem_cons.2 ⟨rfl, (List.forall_mem_cons.2 ⟨rfl, (fun _ h => by cases h)⟩)⟩)⟩) rfl (Nat.le_of_ble_eq_true rfl) rfl ?_)
          intro wd98 hL
          refine OW.nil ?_
          refine CW.seqJ (fun (s_j2 : Bool) (F : Fr) (w : World) => F 16 = v1 ∧ F 17 = (.int .i64 (a1.length : Int)) ∧ F 18 = (.int .i64 s_l1) ∧ F 31 = (.bool s_j2) ∧ Hp w0 [Ent.blk b97 56 #[(.int .i64 x89.Boat), (.int .i64 x89.Code), (.int .i64 x89.Time)], Ent.snap w0 w0.heap.size] w) (fun s_j2 => M.impl_areFinishes_j2 s_l1 s_j2 = some t74) ?_ ?_
          · refine CW.regionL ?_
            refine OW.cons (OP.val (v := (.pointer (some ⟨b97, 0, none⟩))) rfl (x_fieldAddr (fsz := 1) 0 0 0 Try.underlying56 rfl Try_T2 rfl rfl rfl) ?_)
            refine OW.cons (OP.val (v := (.int .i64 x89.Boat)) rfl (x_load1 Try.underlying2 rfl rfl (hL.cellB 0 rfl rfl)) ?_)
            refine OW.cons (OP.val (v := (.int .i64 s_l1)) rfl (x_move) ?_)
            refine OW.cons (OP.val (v := (.bool (x89.Boat != s_l1))) rfl (x_neq rfl rfl) ?_)
            refine OW.cons (OP.val (v := (.bool (x89.Boat != s_l1))) rfl (x_move) ?_)
            refine ifB_elim hm (fun hb112 hm => ?_) (fun hb112 hm => ?_)
            · refine OW.cons (OP.no' rfl rfl hb112 rfl ?_)
              refine OW.cons (OP.no' rfl rfl hb112 rfl ?_)
              refine OW.cons (OP.no' rfl rfl hb112 rfl ?_)
              refine OW.cons (OP.val (v := (.bool true)) rfl (x_pickT' rfl hb112 rfl) ?_)
              refine OW.nil ?_
              exact ⟨true, hm, ⟨f85, f86, f87, rfl, hL⟩⟩
            · refine OW.cons (OP.yes' rfl rfl hb112 (OP.val (v := (.agg #[(.int .i64 x89.Boat), (.int .i64 x89.Code), (.int .i64 x89.Time)])) rfl (x_loadN (cs := [(.int .i64 x89.Boat), (.int .i64 x89.Code), (.int .i64 x89.Time)]) Try.underlying56 Try_T56 rfl rfl (hL.cellsB 0 rfl (o := 0) (l := [(.int .i64 x89.Boat), (.int .i64 x89.Code), (.int .i64 x89.Time)]) (by intro j u hj; exact (by simpa using hj)))) ?_))
              obtain ⟨x113, hx114, hm⟩ := bndE hm
              refine OW.cons (OP.yes' rfl rfl hb112 (OP.call rfl (x_call (vs := [(.agg #[(.int .i64 x89.Boat), (.int .i64 x89.Code), (.int .i64 x89.Time)])]) Try_C86 ⟨rfl, trivial⟩) (M.impl_IsFinish_ok _ x89 hx114) ?_))
              rintro e115 wd116 ⟨rfl, hF117⟩
              refine ⟨_, rfl, ?_⟩
              have hL := hL.pushAll hF117
              simp only [lA, lB, lC, lD] at hL
              refine OW.cons (OP.yes' rfl rfl hb112 (OP.val (v := (.bool (!x113))) rfl (x_not rfl) ?_))
              refine OW.cons (OP.val (v := (.bool (!x113))) rfl (x_pickF' rfl hb112 rfl) ?_)
              refine OW.nil ?_
              exact ⟨!x113, hm, ⟨f85, f86, f87, rfl, hL⟩⟩
          · intro s_j2 F105 wd106 hJ hm
            unfold M.impl_areFinishes_j2 at hm
            obtain ⟨f107, f108, f109, f110, hL⟩ := hJ
            refine CW.condM (t := s_j2) f110 hm (fun hb111 hm => ?_) (fun hb111 hm => ?_)
            · refine CW.seq ?_
              refine CW.regionL ?_
              refine OW.cons (OP.val (v := (.bool false)) rfl (x_assign) ?_)
              refine OW.nil ?_
              refine CW.ret ?_
              obtain rfl := Option.some.inj hm
              have hm := hr75 _ rfl
              obtain rfl := Option.some.inj hm
              exact RR1 rfl rfl ⟨rfl, hL.fresh 1 rfl [] (by decide) (by decide) rfl⟩
            · refine CW.skip ?_
              refine CW.regionL ?_
              refine OW.cons (OP.val (v := (.int .i64 (w64 (s_l1 + 1)))) rfl (x_add f109 rfl) ?_)
              refine OW.cons (OP.val (v := (.int .i64 (w64 (s_l1 + 1)))) rfl (x_move) ?_)
              refine OW.nil ?_
              have hL := hL.sel [1] (by decide) rfl
              obtain rfl := Option.some.inj hm
              exact ⟨_, rfl, ⟨f107, f108, rfl, hL⟩⟩
        · refine CW.exit ?_
          refine XJ.hit ?_
          obtain rfl := Option.some.inj hm
          exact ⟨_, rfl, ⟨f85, f86, f87, hL⟩⟩

theorem M.impl_isFactor_ok (w0 : World) (a0 : Int) {r : Bool} (hm : M.impl_isFactor a0 = some r) :
    Calls Try.prog 68 #[(.int .i64 a0)] w0 fun e w' => e = .returned (.bool r) ∧ Fresh w0 w' [] := by
  unfold M.impl_isFactor at hm
  refine calls_CW (args := [(.int .i64 a0)]) Try.func68 rfl rfl rfl ?_
  have hL := Hp.start w0
  refine CW.seq ?_
  refine CW.regionL ?_
  refine OW.cons (OP.val (v := (.bool false)) rfl (x_assign) ?_)
  refine OW.nil ?_
  refine CW.seq ?_
  refine CW.regionL ?_
  refine OW.cons (OP.val (v := (.int .i64 a0)) rfl (x_move) ?_)
  obtain ⟨x1, hx2, hm⟩ := bndE hm
  refine OW.cons (OP.call rfl (x_call (vs := [(.int .i64 a0), (.int .i64 1), (.int .i64 3000)]) Try_C74 ⟨rfl, rfl, rfl, trivial⟩) (M.impl_within_ok _ a0 1 3000 hx2) ?_)
  rintro e3 wd4 ⟨rfl, hF5⟩
  refine ⟨_, rfl, ?_⟩
  have hL := hL.pushAll hF5
  simp only [lA, lB, lC, lD] at hL
  refine OW.cons (OP.val (v := (.bool x1)) rfl (x_assign) ?_)
  refine OW.nil ?_
  refine CW.ret ?_
  obtain rfl := Option.some.inj hm
  exact RR1 rfl rfl ⟨rfl, hL.fresh 0 rfl [] (by decide) (by decide) rfl⟩

theorem M.impl_IsRatings_ok (w0 : World) (a0 : Int) (a1 : List Rating) {v1 : Value} (h2 : rdL (· < w0.heap.size) w0 v1 a1) {r : Bool} (hm : M.impl_IsRatings a0 a1 = some r) :
    Calls Try.prog 73 #[(.int .i64 a0), v1] w0 fun e w' => e = .returned (.bool r) ∧ Fresh w0 w' [] := by
  unfold M.impl_IsRatings at hm
  refine calls_CW (args := [(.int .i64 a0), v1]) Try.func73 rfl rfl rfl ?_
  have hL := Hp.start w0
  refine CW.seq ?_
  refine CW.regionL ?_
  refine OW.cons (OP.val (v := (.bool false)) rfl (x_assign) ?_)
  refine OW.nil ?_
  refine CW.seq ?_
  refine CW.seqJ (fun (s_j1 : Bool) (F : Fr) (w : World) => F 1 = v1 ∧ F 15 = (.bool s_j1) ∧ Hp w0 [Ent.snap w0 w0.heap.size] w) (fun s_j1 => M.impl_IsRatings_j1 a1 s_j1 = some r) ?_ ?_
  · refine CW.regionL ?_
    refine OW.cons (OP.val (v := (.int .i64 a0)) rfl (x_move) ?_)
    obtain ⟨x118, hx119, hm⟩ := bndE hm
    refine OW.cons (OP.call rfl (x_call (vs := [(.int .i64 a0), (.int .i64 1), (.int .i64 16)]) Try_C74 ⟨rfl, rfl, rfl, trivial⟩) (M.impl_within_ok _ a0 1 16 hx119) ?_)
    rintro e120 wd121 ⟨rfl, hF122⟩
    refine ⟨_, rfl, ?_⟩
    have hL := hL.pushAll hF122
    simp only [lA, lB, lC, lD] at hL
    refine OW.cons (OP.val (v := (.bool (!x118))) rfl (x_not rfl) ?_)
    refine OW.cons (OP.val (v := (.bool (!x118))) rfl (x_move) ?_)
    refine ifB_elim hm (fun hb123 hm => ?_) (fun hb123 hm => ?_)
    · refine OW.cons (OP.no' rfl rfl hb123 rfl ?_)
      refine OW.cons (OP.no' rfl rfl hb123 rfl ?_)
      refine OW.cons (OP.no' rfl rfl hb123 rfl ?_)
      refine OW.cons (OP.no' rfl rfl hb123 rfl ?_)
      refine OW.cons (OP.val (v := (.bool true)) rfl (x_pickT' rfl hb123 rfl) ?_)
      refine OW.nil ?_
      exact ⟨true, hm, ⟨rfl, rfl, hL⟩⟩
    · refine OW.cons (OP.yes' rfl rfl hb123 (OP.val (v := v1) rfl (x_move) ?_))
      refine OW.cons (OP.yes' rfl rfl hb123 (OP.val (v := (.int .i64 (a1.length : Int))) rfl (x_lenR Try.underlying30 rfl (hL.rdS 0 rfl h2)) ?_))
      refine OW.cons (OP.yes' rfl rfl hb123 (OP.val (v := (.int .i64 a0)) rfl (x_move) ?_))
      refine OW.cons (OP.yes' rfl rfl hb123 (OP.val (v := (.bool ((a1.length : Int) != a0))) rfl (x_neq rfl rfl) ?_))
      refine OW.cons (OP.val (v := (.bool ((a1.length : Int) != a0))) rfl (x_pickF' rfl hb123 rfl) ?_)
      refine OW.nil ?_
      exact ⟨(a1.length : Int) != a0, hm, ⟨rfl, rfl, hL⟩⟩
  · intro s_j1 F9 wd10 hJ hm
    unfold M.impl_IsRatings_j1 at hm
    obtain ⟨f11, f12, hL⟩ := hJ
    refine CW.condM (t := s_j1) f12 hm (fun hb13 hm => ?_) (fun hb13 hm => ?_)
    · refine CW.seq ?_
      refine CW.regionL ?_
      refine OW.cons (OP.val (v := (.bool false)) rfl (x_assign) ?_)
      refine OW.nil ?_
      refine CW.ret ?_
      obtain rfl := Option.some.inj hm
      exact RR1 rfl rfl ⟨rfl, hL.fresh 0 rfl [] (by decide) (by decide) rfl⟩
    · refine CW.skip ?_
      refine CW.seq ?_
      refine CW.seq ?_
      refine CW.regionL ?_
      refine OW.cons (OP.val (v := v1) rfl (x_mv f11) ?_)
      refine OW.cons (OP.val (v := (.int .i64 (a1.length : Int))) rfl (x_lenR Try.underlying30 rfl (hL.rdS 0 rfl h2)) ?_)
      refine OW.cons (OP.val (v := (.int .i64 0)) rfl (x_move) ?_)
      refine OW.nil ?_
      obtain ⟨o76, ho77, hm⟩ := bndE hm
      refine CW.loopB (fun (s_l1 : Int) (F : Fr) (w : World) => F 16 = v1 ∧ F 17 = (.int .i64 (a1.length : Int)) ∧ F 18 = (.int .i64 s_l1) ∧ Hp w0 [Ent.snap w0 w0.heap.size] w) (fun o => outc o (fun x => some x) (fun s => M.impl_IsRatings_a1 s) = some r) ho77 hm ⟨rfl, rfl, rfl, hL⟩ ?_ ?_
      · intro s_l1 F78 wd79 hJ hm
        have hm := outcE hm
        have hm : M.impl_IsRatings_a1 s_l1 = some r := hm
        unfold M.impl_IsRatings_a1 at hm
        obtain ⟨f80, f81, f82, hL⟩ := hJ
        refine CW.seq ?_
        refine CW.regionL ?_
        refine OW.cons (OP.val (v := (.bool true)) rfl (x_assign) ?_)
        refine OW.nil ?_
        refine CW.ret ?_
        obtain rfl := Option.some.inj hm
        exact RR1 rfl rfl ⟨rfl, hL.fresh 0 rfl [] (by decide) (by decide) rfl⟩
      · intro s_l1 F83 wd84 t74 hJ hm hr75
        unfold M.impl_IsRatings_l1 at hm
        obtain ⟨f85, f86, f87, hL⟩ := hJ
        refine CW.seq ?_
        refine CW.regionL ?_
        refine OW.cons (OP.val (v := (.bool (decide (s_l1 < (a1.length : Int))))) rfl (x_lss f87 f86) ?_)
        refine OW.nil ?_
        refine CW.seq ?_
        refine CW.condM (t := decide (s_l1 < (a1.length : Int))) rfl hm (fun hb88 hm => ?_) (fun hb88 hm => ?_)
        · refine CW.skip ?_
          refine CW.seq ?_
          refine CW.block ?_
          refine CW.seq ?_
          refine CW.regionL ?_
          refine OW.cons (OP.val (v := (.int .i64 s_l1)) rfl (x_mv f87) ?_)
          obtain ⟨x89, ha90, hm⟩ := bndE hm
          obtain ⟨hz91, ha95⟩ := idxE ha90
          obtain ⟨b92, q93, hix94⟩ := rdL_ix (hL.rdS 0 rfl h2) hz91 ha95
          refine OW.cons (OP.val (v := (.pointer (some ⟨b92, q93, none⟩))) rfl (x_ix Try.underlying30 Try_T61 f85 f87 hix94) ?_)
          refine OW.cons (OP.val (v := (.agg #[(.int .i64 x89.Boat), (.int .i64 x89.Value)])) rfl (x_loadN (cs := [(.int .i64 x89.Boat), (.int .i64 x89.Value)]) Try.underlying61 Try_T61 rfl rfl (rdF_cells (hL.rdS 0 rfl h2) hix94 ha95)) ?_)
          refine OW.cons (S_alloc (cs := #[(.int .i64 0), (.int .i64 0)]) hL Try_T61 rfl rfl ?_)
          intro wd96 b97 hL
          refine OW.cons (OP.val (v := (.int .i64 s_l1)) rfl (x_assign) ?_)
          refine OW.cons (S_storeN (l := [(.int .i64 x89.Boat), (.int .i64 x89.Value)]) (cs' := #[(.int .i64 x89.Boat), (.int .i64 x89.Value)]) hL 0 rfl Try_T61 rfl rfl (List.forall_mem_cons.2 ⟨rfl, (List.forall_mem_cons.2 ⟨rfl, (fun _ h => by cases h)⟩)⟩) rfl (Nat.le_of_ble_eq_true rfl) rfl ?_)
          intro wd98 hL
          refine OW.nil ?_
          refine CW.seqJ (fun (s_j2 : Bool) (F : Fr) (w : World) => F 16 = v1 ∧ F 17 = (.int .i64 (a1.length : Int)) ∧ F 18 = (.int .i64 s_l1) ∧ F 32 = (.bool s_j2) ∧ Hp w0 [Ent.blk b97 61 #[(.int .i64 x89.Boat), (.int .i64 x89.Value)], Ent.snap w0 w0.heap.size] w) (fun s_j2 => M.impl_IsRatings_j2 s_l1 s_j2 = some t74) ?_ ?_
          · refine CW.regionL ?_
            refine OW.cons (OP.val (v := (.pointer (some ⟨b97, 0, none⟩))) rfl (x_fieldAddr (fsz := 1) 0 0 0 Try.underlying61 rfl Try_T2 rfl rfl rfl) ?_)
            refine OW.cons (OP.val (v := (.int .i64 x89.Boat)) rfl (x_load1 Try.underlying2 rfl rfl (hL.cellB 0 rfl rfl)) ?_)
            refine OW.cons (OP.val (v := (.int .i64 s_l1)) rfl (x_move) ?_)
            refine OW.cons (OP.val (v := (.bool (x89.Boat != s_l1))) rfl (x_neq rfl rfl) ?_)
            refine OW.cons (OP.val (v := (.bool (x89.Boat != s_l1))) rfl (x_move) ?_)
            refine ifB_elim hm (fun hb112 hm => ?_) (fun hb112 hm => ?_)
            · refine OW.cons (OP.no' rfl rfl hb112 rfl ?_)
              refine OW.cons (OP.no' rfl rfl hb112 rfl ?_)
              refine OW.cons (OP.no' rfl rfl hb112 rfl ?_)
              refine OW.cons (OP.no' rfl rfl hb112 rfl ?_)
              refine OW.cons (OP.val (v := (.bool true)) rfl (x_pickT' rfl hb112 rfl) ?_)
              refine OW.nil ?_
              exact ⟨true, hm, ⟨f85, f86, f87, rfl, hL⟩⟩
            · refine OW.cons (OP.yes' rfl rfl hb112 (OP.val (v := (.pointer (some ⟨b97, 1, none⟩))) rfl (x_fieldAddr (fsz := 1) 0 1 1 Try.underlying61 rfl Try_T2 rfl rfl rfl) ?_))
              refine OW.cons (OP.yes' rfl rfl hb112 (OP.val (v := (.int .i64 x89.Value)) rfl (x_load1 Try.underlying2 rfl rfl (hL.cellB 0 rfl rfl)) ?_))
              obtain ⟨x113, hx114, hm⟩ := bndE hm
              refine OW.cons (OP.yes' rfl rfl hb112 (OP.call rfl (x_call (vs := [(.int .i64 x89.Value)]) Try_C68 ⟨rfl, trivial⟩) (M.impl_isFactor_ok _ x89.Value hx114) ?_))
              rintro e115 wd116 ⟨rfl, hF117⟩
              refine ⟨_, rfl, ?_⟩
              have hL := hL.pushAll hF117
              simp only [lA, lB, lC, lD] at hL
              refine OW.cons (OP.yes' rfl rfl hb112 (OP.val (v := (.bool (!x113))) rfl (x_not rfl) ?_))
              refine OW.cons (OP.val (v := (.bool (!x113))) rfl (x_pickF' rfl hb112 rfl) ?_)
              refine OW.nil ?_
              exact ⟨!x113, hm, ⟨f85, f86, f87, rfl, hL⟩⟩
          · intro s_j2 F105 wd106 hJ hm
            unfold M.impl_IsRatings_j2 at hm
            obtain ⟨f107, f108, f109, f110, hL⟩ := hJ
            refine CW.condM (t := s_j2) f110 hm (fun hb111 hm => ?_) (fun hb111 hm => ?_)
            · refine CW.seq ?_
              refine CW.regionL ?_
              refine OW.cons (OP.val (v := (.bool false)) rfl (x_assign) ?_)
              refine OW.nil ?_
              refine CW.ret ?_
              obtain rfl := Option.some.inj hm
              have hm := hr75 _ rfl
              obtain rfl := Option.some.inj hm
              exact RR1 rfl rfl ⟨rfl, hL.fresh 1 rfl [] (by decide) (by decide) rfl⟩
            · refine CW.skip ?_
              refine CW.regionL ?_
              refine OW.cons (OP.val (v := (.int .i64 (w64 (s_l1 + 1)))) rfl (x_add f109 rfl) ?_)
              refine OW.cons (OP.val (v := (.int .i64 (w64 (s_l1 + 1)))) rfl (x_move) ?_)
              refine OW.nil ?_
              have hL := hL.sel [1] (by decide) rfl
              obtain rfl := Option.some.inj hm
              exact ⟨_, rfl, ⟨f107, f108, rfl, hL⟩⟩
        · refine CW.exit ?_
          refine XJ.hit ?_
          obtain rfl := Option.some.inj hm
          exact ⟨_, rfl, ⟨f85, f86, f87, hL⟩⟩

theorem M.impl_corrected_ok (w0 : World) (a0 : Int) (a1 : Int) {r : Int} (hm : M.impl_corrected a0 a1 = some r) :
    Calls Try.prog 62 #[(.int .i64 a0), (.int .i64 a1)] w0 fun e w' => e = .returned (.int .i64 r) ∧ Fresh w0 w' [] := by
  unfold M.impl_corrected at hm
  refine calls_CW (args := [(.int .i64 a0), (.int .i64 a1)]) Try.func62 rfl rfl rfl ?_
  have hL := Hp.start w0
  refine CW.seq ?_
  refine CW.regionL ?_
  refine OW.cons (OP.val (v := (.int .i64 0)) rfl (x_assign) ?_)
  refine OW.nil ?_
  refine CW.seq ?_
  refine CW.regionL ?_
  refine OW.cons (OP.val (v := (.int .i64 a0)) rfl (x_move) ?_)
  refine OW.cons (OP.val (v := (.int .i64 (w64 (2 * a0)))) rfl (x_mul rfl rfl) ?_)
  refine OW.cons (OP.val (v := (.int .i64 a1)) rfl (x_move) ?_)
  refine OW.cons (OP.val (v := (.int .i64 (w64 ((w64 (2 * a0)) * a1)))) rfl (x_mul rfl rfl) ?_)
  refine OW.cons (OP.val (v := (.int .i64 (w64 ((w64 ((w64 (2 * a0)) * a1)) + 1000)))) rfl (x_add rfl rfl) ?_)
  refine OW.cons (OP.val (v := (.int .i64 (w64 ((w64 ((w64 ((w64 (2 * a0)) * a1)) + 1000)).tdiv 2000)))) rfl (x_quo rfl rfl (by decide)) ?_)
  refine OW.cons (OP.val (v := (.int .i64 (min 1000000000 (w64 ((w64 ((w64 ((w64 (2 * a0)) * a1)) + 1000)).tdiv 2000))))) rfl (x_min2 rfl rfl) ?_)
  refine OW.cons (OP.val (v := (.int .i64 (max 1 (min 1000000000 (w64 ((w64 ((w64 ((w64 (2 * a0)) * a1)) + 1000)).tdiv 2000)))))) rfl (x_max2 rfl rfl) ?_)
  refine OW.cons (OP.val (v := (.int .i64 (max 1 (min 1000000000 (w64 ((w64 ((w64 ((w64 (2 * a0)) * a1)) + 1000)).tdiv 2000)))))) rfl (x_assign) ?_)
  refine OW.nil ?_
  refine CW.ret ?_
  obtain rfl := Option.some.inj hm
  exact RR1 rfl rfl ⟨rfl, hL.fresh 0 rfl [] (by decide) (by decide) rfl⟩

theorem M.slices_SortA_ok (w0 : World) {E4 : TypeId} {S2 : Nat → Prop} {v1 : Value} (a0 : List Int) (he3 : (Ent.own E4 S2 v1 a0).H w0) {r : (Unit) × (List Int)} (hm : M.slices_SortA a0 = some r) :
    Calls Try.prog 80 #[v1] w0 fun e w' => ∃ (ioS : Nat → Prop), e = .returned (.tuple #[]) ∧ Mut w0 w' (Ent.own E4 S2 v1 a0).S [Ent.own E4 ioS v1 r.2] := by
  unfold M.slices_SortA at hm
  refine ifB_elim hm (fun hb hm => ?_) (fun hb hm => by cases hm)
  obtain rfl := Option.some.inj hm
  exact sort_io he3 (List.length_mergeSort ..) (fun blk cap hH hb2 => AnyM.slices_Sort_int sortLaid blk 0 cap a0 w0 hH hb2 (of_decide_eq_true hb)) (AnyM.slices_Sort_int_none sortLaid none 0 w0)

theorem M.impl_parTime_ok (w0 : World) (a0 : List Finish) {v1 : Value} (h2 : rdL (· < w0.heap.size) w0 v1 a0) (a1 : List Rating) {v3 : Value} (h4 : rdL (· < w0.heap.size) w0 v3 a1) {r : Int} (hm : M.impl_parTime a0 a1 = some r) :
    Calls Try.prog 52 #[v1, v3] w0 fun e w' => e = .returned (.int .i64 r) ∧ Fresh w0 w' [] := by
  unfold M.impl_parTime at hm
  refine calls_CW (args := [v1, v3]) Try.func52 rfl rfl rfl ?_
  have hL := Hp.start w0
  refine CW.seq ?_
  refine CW.regionL ?_
  refine OW.cons (OP.val (v := (.int .i64 0)) rfl (x_assign) ?_)
  refine OW.nil ?_
  refine CW.seq ?_
  refine CW.regionL ?_
  refine OW.cons (S_lit ([] : List Int) hL Try.underlying35 Try_T2 rfl (by decide) (by first | (simp [Instr.fill, madeCells, Value.cells, ev, upd, Flat.enc, Flat.sz]; done) | rfl | kernel_rfl) rfl rfl ?_)
  intro wd5 v6 S7 hL
  refine OW.cons (OP.val (v := v6) rfl (x_assign) ?_)
  refine OW.nil ?_
  refine CW.seq ?_
  refine CW.seq ?_
  refine CW.regionL ?_
  refine OW.cons (OP.val (v := v1) rfl (x_move) ?_)
  refine OW.cons (OP.val (v := (.int .i64 (a0.length : Int))) rfl (x_lenR Try.underlying28 rfl (hL.rdS 1 rfl h2)) ?_)
  refine OW.cons (OP.val (v := (.int .i64 0)) rfl (x_move) ?_)
  refine OW.nil ?_
  obtain ⟨o462, ho463, hm⟩ := bndE hm
  refine CW.loopB (fun (s_l1 : (List Int) × Int) (F : Fr) (w : World) => ∃ (v458 : Value) (S459 : Nat → Prop), F 1 = v3 ∧ F 5 = v458 ∧ F 9 = v1 ∧ F 10 = (.int .i64 (a0.length : Int)) ∧ F 11 = (.int .i64 s_l1.2) ∧ Hp w0 [Ent.own 2 S459 v458 s_l1.1, Ent.snap w0 w0.heap.size] w) (fun o => outc o (fun x => some x) (fun s => M.impl_parTime_a1 s) = some r) ho463 hm ⟨v6, S7, rfl, rfl, rfl, rfl, rfl, hL⟩ ?_ ?_
  · intro s_l1 F464 wd465 hJ hm
    have hm := outcE hm
    have hm : M.impl_parTime_a1 s_l1 = some r := hm
    unfold M.impl_parTime_a1 at hm
    obtain ⟨v458, S459, f466, f467, f468, f469, f470, hL⟩ := hJ
    refine CW.seq ?_
    refine CW.seq ?_
    refine CW.regionL ?_
    refine OW.cons (OP.val (v := v458) rfl (x_mv f467) ?_)
    refine OW.cons (OP.val (v := (.int .i64 (s_l1.1.length : Int))) rfl (x_lenR Try.underlying35 rfl (hL.rdO 0 rfl)) ?_)
    refine OW.cons (OP.val (v := (.bool ((s_l1.1.length : Int) == 0))) rfl (x_eql rfl rfl) ?_)
    refine OW.nil ?_
    refine CW.condM (t := (s_l1.1.length : Int) == 0) rfl hm (fun hb471 hm => ?_) (fun hb471 hm => ?_)
    · refine CW.seq ?_
      refine CW.regionL ?_
      refine OW.cons (OP.val (v := (.int .i64 0)) rfl (x_assign) ?_)
      refine OW.nil ?_
      refine CW.ret ?_
      obtain rfl := Option.some.inj hm
      exact RR1 rfl rfl ⟨rfl, hL.fresh 1 rfl [] (by decide) (by decide) rfl⟩
    · refine CW.skip ?_
      refine CW.seq ?_
      refine CW.regionL ?_
      refine OW.cons (OP.val (v := v458) rfl (x_mv f467) ?_)
      obtain ⟨x472, hx473, hm⟩ := bndE hm
      refine OW.cons (OP.call rfl (x_call (vs := [v458]) Try_C80 ⟨rfl, trivial⟩) (M.slices_SortA_ok _ s_l1.1 (hL.get 0 rfl) hx473) ?_)
      rintro e474 wd475 ⟨S477, rfl, hF476⟩
      refine ⟨_, rfl, ?_⟩
      have hL := hL.mut 0 rfl hF476
      simp only [lA, lB, lC, lD] at hL
      refine OW.nil ?_
      refine CW.seq ?_
      refine CW.regionL ?_
      refine OW.cons (OP.val (v := v458) rfl (x_mv f467) ?_)
      refine OW.cons (OP.val (v := v458) rfl (x_mv f467) ?_)
      refine OW.cons (OP.val (v := (.int .i64 (x472.2.length : Int))) rfl (x_lenR Try.underlying35 rfl (hL.rdO 0 rfl)) ?_)
      refine OW.cons (OP.val (v := (.int .i64 (w64 ((x472.2.length : Int) - 1)))) rfl (x_sub rfl rfl) ?_)
      refine OW.cons (OP.val (v := (.int .i64 (w64 ((w64 ((x472.2.length : Int) - 1)).tdiv 2)))) rfl (x_quo rfl rfl (by decide)) ?_)
      obtain ⟨x478, ha479, hm⟩ := bndE hm
      obtain ⟨hz480, ha484⟩ := idxE ha479
      obtain ⟨b481, q482, hix483⟩ := rdL_ix (hL.rdO 0 rfl) hz480 ha484
      refine OW.cons (OP.val (v := (.pointer (some ⟨b481, q482, none⟩))) rfl (x_ix Try.underlying35 Try_T2 rfl rfl hix483) ?_)
      refine OW.cons (OP.val (v := (.int .i64 x478)) rfl (x_load1 Try.underlying2 rfl rfl (rdF_cells (hL.rdO 0 rfl) hix483 ha484 0 _ rfl)) ?_)
      refine OW.cons (OP.val (v := (.int .i64 x478)) rfl (x_assign) ?_)
      refine OW.nil ?_
      refine CW.ret ?_
      obtain rfl := Option.some.inj hm
      exact RR1 rfl rfl ⟨rfl, hL.fresh 1 rfl [] (by decide) (by decide) rfl⟩
  · intro s_l1 F485 wd486 t460 hJ hm hr461
    unfold M.impl_parTime_l1 at hm
    obtain ⟨v458, S459, f487, f488, f489, f490, f491, hL⟩ := hJ
    refine CW.seq ?_
    refine CW.regionL ?_
    refine OW.cons (OP.val (v := (.bool (decide (s_l1.2 < (a0.length : Int))))) rfl (x_lss f491 f490) ?_)
    refine OW.nil ?_
    refine CW.seq ?_
    refine CW.condM (t := decide (s_l1.2 < (a0.length : Int))) rfl hm (fun hb492 hm => ?_) (fun hb492 hm => ?_)
    · refine CW.skip ?_
      refine CW.seqJ (fun (s_j1 : (List Int)) (F : Fr) (w : World) => ∃ (v600 : Value) (S601 : Nat → Prop), F 1 = v3 ∧ F 5 = v600 ∧ F 9 = v1 ∧ F 10 = (.int .i64 (a0.length : Int)) ∧ F 11 = (.int .i64 s_l1.2) ∧ Hp w0 [Ent.own 2 S601 v600 s_j1, Ent.snap w0 w0.heap.size] w) (fun s_j1 => M.impl_parTime_j1 s_l1 s_j1 = some t460) ?_ ?_
      · refine CW.blockJ (fun (s_j2 : (List Int)) (F : Fr) (w : World) => ∃ (v658 : Value) (S659 : Nat → Prop), F 1 = v3 ∧ F 5 = v658 ∧ F 9 = v1 ∧ F 10 = (.int .i64 (a0.length : Int)) ∧ F 11 = (.int .i64 s_l1.2) ∧ Hp w0 [Ent.own 2 S659 v658 s_j2, Ent.snap w0 w0.heap.size] w) (fun s_j2 => M.impl_parTime_j2 s_l1 s_j2 = some t460) ?_ ?_
        · refine CW.seq ?_
          refine CW.regionL ?_
          refine OW.cons (OP.val (v := (.int .i64 s_l1.2)) rfl (x_mv f491) ?_)
          obtain ⟨x667, ha668, hm⟩ := bndE hm
          obtain ⟨hz669, ha673⟩ := idxE ha668
          obtain ⟨b670, q671, hix672⟩ := rdL_ix (hL.rdS 1 rfl h2) hz669 ha673
          refine OW.cons (OP.val (v := (.pointer (some ⟨b670, q671, none⟩))) rfl (x_ix Try.underlying28 Try_T56 f489 f491 hix672) ?_)
          refine OW.cons (OP.val (v := (.agg #[(.int .i64 x667.Boat), (.int .i64 x667.Code), (.int .i64 x667.Time)])) rfl (x_loadN (cs := [(.int .i64 x667.Boat), (.int .i64 x667.Code), (.int .i64 x667.Time)]) Try.underlying56 Try_T56 rfl rfl (rdF_cells (hL.rdS 1 rfl h2) hix672 ha673)) ?_)
          refine OW.cons (S_alloc (cs := #[(.int .i64 0), (.int .i64 0), (.int .i64 0)]) hL Try_T56 rfl rfl ?_)
          intro wd674 b675 hL
          refine OW.cons (OP.val (v := (.int .i64 s_l1.2)) rfl (x_assign) ?_)
          refine OW.cons (S_storeN (l := [(.int .i64 x667.Boat), (.int .i64 x667.Code), (.int .i64 x667.Time)]) (cs' := #[(.int .i64 x667.Boat), (.int .i64 x667.Code), (.int .i64 x667.Time)]) hL 0 rfl Try_T56 rfl rfl (List.forall_mem_cons.2 ⟨rfl, (List.forall_mem_cons.2 ⟨rfl, (List.forall_mem_cons.2 ⟨rfl, (fun _ h => by cases h)⟩)⟩)⟩) rfl (Nat.le_of_ble_eq_true rfl) rfl ?_)
          intro wd676 hL
          refine OW.nil ?_
          refine CW.seq ?_
          refine CW.regionL ?_
          refine OW.cons (OP.val (v := (.pointer (some ⟨b675, 1, none⟩))) rfl (x_fieldAddr (fsz := 1) 0 1 1 Try.underlying56 rfl Try_T2 rfl rfl rfl) ?_)
          refine OW.cons (OP.val (v := (.int .i64 x667.Code)) rfl (x_load1 Try.underlying2 rfl rfl (hL.cellB 0 rfl rfl)) ?_)
          refine OW.cons (OP.val (v := (.bool (x667.Code == 0))) rfl (x_eql rfl rfl) ?_)
          refine OW.nil ?_
          refine CW.condM (t := x667.Code == 0) rfl hm (fun hb677 hm => ?_) (fun hb677 hm => ?_)
          · refine CW.drawH (fun w' => Hp w0 [Ent.blk b675 56 #[(.int .i64 x667.Boat), (.int .i64 x667.Code), (.int .i64 x667.Time)], Ent.snap w0 w0.heap.size] w') Try_mixed ?_
            have hL := hL.call (Mod.drew _)
            have hS := (hL.sel [0, 2] (by decide) rfl)
            refine DH.take 0 rfl (by kernel_rfl) (by kernel_rfl) (by kernel_rfl) rfl rfl hS (YH.val (v := v458) (fun w' hS' => x_mv f488)) ?_
            have hS := (hL.sel [0, 2] (by decide) rfl)
            refine DH.take 1 rfl (by kernel_rfl) (by kernel_rfl) (by kernel_rfl) rfl rfl hS (YH.val (v := (.pointer (some ⟨b675, 2, none⟩))) (fun w' hS' => x_fieldAddr (fsz := 1) 0 2 2 Try.underlying56 rfl Try_T2 rfl rfl rfl)) ?_
            have hS := (hL.sel [0, 2] (by decide) rfl)
            refine DH.take 2 rfl (by kernel_rfl) (by kernel_rfl) (by kernel_rfl) rfl rfl hS (YH.val (v := (.int .i64 x667.Time)) (fun w' hS' => x_load1 Try.underlying2 rfl rfl (hS'.cellB 0 rfl rfl))) ?_
            have hS := (hL.sel [0, 2] (by decide) rfl)
            refine DH.take 3 rfl (by kernel_rfl) (by kernel_rfl) (by kernel_rfl) rfl rfl hS (YH.val (v := v3) (fun w' hS' => x_mv f487)) ?_
            have hS := (hL.sel [0, 2] (by decide) rfl)
            refine DH.take 4 rfl (by kernel_rfl) (by kernel_rfl) (by kernel_rfl) rfl rfl hS (YH.val (v := (.int .i64 s_l1.2)) (fun w' hS' => x_move)) ?_
            have hS := (hL.sel [0, 2] (by decide) rfl)
            obtain ⟨x697, ha698, hm⟩ := bndE hm
            obtain ⟨hz699, ha703⟩ := idxE ha698
            obtain ⟨b700, q701, hix702⟩ := rdL_ix (hL.rdS 2 rfl h4) hz699 ha703
            refine DH.take 5 rfl (by kernel_rfl) (by kernel_rfl) (by kernel_rfl) rfl rfl hS (YH.val (v := (.pointer (some ⟨b700, q701, none⟩))) (fun w' hS' => x_ix Try.underlying30 Try_T61 rfl rfl hix702)) ?_
            have hS := (hL.sel [0, 2] (by decide) rfl)
            refine DH.take 6 rfl (by kernel_rfl) (by kernel_rfl) (by kernel_rfl) rfl rfl hS (YH.val (v := (.pointer (some ⟨b700, q701 + 1, none⟩))) (fun w' hS' => x_fieldAddr (fsz := 1) q701 1 (q701 + 1) Try.underlying61 rfl Try_T2 rfl rfl rfl)) ?_
            have hS := (hL.sel [0, 2] (by decide) rfl)
            refine DH.take 7 rfl (by kernel_rfl) (by kernel_rfl) (by kernel_rfl) rfl rfl hS (YH.val (v := (.int .i64 x697.Value)) (fun w' hS' => x_load1 Try.underlying2 rfl rfl (rdF_cells (hS'.rdS 1 rfl h4) hix702 ha703 1 _ rfl))) ?_
            obtain ⟨x704, hx705, hm⟩ := bndE hm
            refine DH.only 8 rfl (by kernel_rfl) (OP.call rfl (x_call (vs := [(.int .i64 x667.Time), (.int .i64 x697.Value)]) Try_C62 ⟨rfl, rfl, trivial⟩) (M.impl_corrected_ok _ x667.Time x697.Value hx705) ?_)
            rintro e706 wd707 ⟨rfl, hF708⟩
            refine ⟨_, rfl, ?_⟩
            have hL := hL.pushAll hF708
            simp only [lA, lB, lC, lD] at hL
            refine ⟨(hL.sel [0, 2] (by decide) rfl), ?_⟩
            refine DH.only 9 rfl (by kernel_rfl) (S_lit ([x704] : List Int) hL Try.underlying35 Try_T2 rfl (by decide) (by first | (simp [Instr.fill, madeCells, Value.cells, ev, upd, Flat.enc, Flat.sz]; done) | rfl | kernel_rfl) rfl rfl ?_)
            intro wd709 v710 S711 hL
            refine ⟨(hL.sel [1, 3] (by decide) rfl), ?_⟩
            obtain ⟨hc715, hm⟩ := chkE hm
            refine DH.only 10 rfl (by kernel_rfl) (S_append (ys := ([x704] : List Int)) hL 2 rfl Try.underlying35 Try_T2 rfl rfl rfl (hL.rdO 0 rfl) hc715 (by decide) rfl ?_)
            intro wd712 v713 S714 hL
            refine ⟨(hL.sel [1, 3] (by decide) rfl), ?_⟩
            have hS := (hL.sel [1, 3] (by decide) rfl)
            refine DH.take 11 rfl (by kernel_rfl) (by kernel_rfl) (by kernel_rfl) rfl rfl hS (YH.val (v := v713) (fun w' hS' => x_assign)) ?_
            refine DH.done (by kernel_rfl) ?_
            have hL := hL.sel [2, 3] (by decide) rfl
            exact ⟨s_l1.1 ++ ([x704] : List Int), hm, ⟨v713, S714, f487, rfl, f489, f490, f491, hL⟩⟩
          · refine CW.skip ?_
            have hL := hL.sel [1, 2] (by decide) rfl
            exact ⟨s_l1.1, hm, ⟨v458, S459, f487, f488, f489, f490, f491, hL⟩⟩
        · intro s_j2 F660 wd661 hJ hm
          unfold M.impl_parTime_j2 at hm
          obtain ⟨v658, S659, f662, f663, f664, f665, f666, hL⟩ := hJ
          exact ⟨s_j2, hm, ⟨v658, S659, f662, f663, f664, f665, f666, hL⟩⟩
      · intro s_j1 F602 wd603 hJ hm
        unfold M.impl_parTime_j1 at hm
        obtain ⟨v600, S601, f604, f605, f606, f607, f608, hL⟩ := hJ
        refine CW.regionL ?_
        refine OW.cons (OP.val (v := (.int .i64 (w64 (s_l1.2 + 1)))) rfl (x_add f608 rfl) ?_)
        refine OW.cons (OP.val (v := (.int .i64 (w64 (s_l1.2 + 1)))) rfl (x_move) ?_)
        refine OW.nil ?_
        obtain rfl := Option.some.inj hm
        exact ⟨_, rfl, ⟨v600, S601, f604, f605, f606, f607, rfl, hL⟩⟩
    · refine CW.exit ?_
      refine XJ.hit ?_
      obtain rfl := Option.some.inj hm
      exact ⟨_, rfl, ⟨v458, S459, f487, f488, f489, f490, f491, hL⟩⟩

theorem M.spec_l25Factor_ok (w0 : World) (a0 : Int) (a1 : Int) {r : Int} (hm : M.spec_l25Factor a0 a1 = some r) :
    Calls Try.prog 55 #[(.int .i64 a0), (.int .i64 a1)] w0 fun e w' => e = .returned (.int .i64 r) ∧ Fresh w0 w' [] := by
  unfold M.spec_l25Factor at hm
  refine calls_CW (args := [(.int .i64 a0), (.int .i64 a1)]) Try.func55 rfl rfl rfl ?_
  have hL := Hp.start w0
  refine CW.seq ?_
  refine CW.regionL ?_
  refine OW.cons (OP.val (v := (.int .i64 0)) rfl (x_assign) ?_)
  refine OW.nil ?_
  refine CW.seq ?_
  refine CW.regionL ?_
  refine OW.cons (OP.val (v := (.int .i64 a0)) rfl (x_move) ?_)
  refine OW.cons (OP.val (v := (.int .i64 (w64 (2000 * a0)))) rfl (x_mul rfl rfl) ?_)
  refine OW.cons (OP.val (v := (.int .i64 a1)) rfl (x_move) ?_)
  refine OW.cons (OP.val (v := (.int .i64 (w64 ((w64 (2000 * a0)) + a1)))) rfl (x_add rfl rfl) ?_)
  refine OW.cons (OP.val (v := (.int .i64 a1)) rfl (x_move) ?_)
  refine OW.cons (OP.val (v := (.int .i64 (w64 (2 * a1)))) rfl (x_mul rfl rfl) ?_)
  obtain ⟨hc1, hm⟩ := chkE hm
  refine OW.cons (OP.val (v := (.int .i64 (w64 ((w64 ((w64 (2000 * a0)) + a1)).tdiv (w64 (2 * a1)))))) rfl (x_quo rfl rfl hc1) ?_)
  refine OW.cons (OP.val (v := (.int .i64 (min 3000 (w64 ((w64 ((w64 (2000 * a0)) + a1)).tdiv (w64 (2 * a1))))))) rfl (x_min2 rfl rfl) ?_)
  refine OW.cons (OP.val (v := (.int .i64 (max 1 (min 3000 (w64 ((w64 ((w64 (2000 * a0)) + a1)).tdiv (w64 (2 * a1)))))))) rfl (x_max2 rfl rfl) ?_)
  refine OW.cons (OP.val (v := (.int .i64 (max 1 (min 3000 (w64 ((w64 ((w64 (2000 * a0)) + a1)).tdiv (w64 (2 * a1)))))))) rfl (x_assign) ?_)
  refine OW.nil ?_
  refine CW.ret ?_
  obtain rfl := Option.some.inj hm
  exact RR1 rfl rfl ⟨rfl, hL.fresh 0 rfl [] (by decide) (by decide) rfl⟩

theorem M.impl_parFactor_ok (w0 : World) (a0 : Int) (a1 : Int) {r : Int} (hm : M.impl_parFactor a0 a1 = some r) :
    Calls Try.prog 56 #[(.int .i64 a0), (.int .i64 a1)] w0 fun e w' => e = .returned (.int .i64 r) ∧ Fresh w0 w' [] := by
  unfold M.impl_parFactor at hm
  refine calls_CW (args := [(.int .i64 a0), (.int .i64 a1)]) Try.func56 rfl rfl rfl ?_
  have hL := Hp.start w0
  refine CW.seq ?_
  refine CW.regionL ?_
  refine OW.cons (OP.val (v := (.int .i64 0)) rfl (x_assign) ?_)
  refine OW.nil ?_
  refine CW.seq ?_
  refine CW.regionL ?_
  refine OW.cons (OP.val (v := (.int .i64 a0)) rfl (x_move) ?_)
  refine OW.cons (OP.val (v := (.int .i64 (w64 (2000 * a0)))) rfl (x_mul rfl rfl) ?_)
  refine OW.cons (OP.val (v := (.int .i64 a1)) rfl (x_move) ?_)
  refine OW.cons (OP.val (v := (.int .i64 (w64 ((w64 (2000 * a0)) + a1)))) rfl (x_add rfl rfl) ?_)
  refine OW.cons (OP.val (v := (.int .i64 a1)) rfl (x_move) ?_)
  refine OW.cons (OP.val (v := (.int .i64 (w64 (2 * a1)))) rfl (x_mul rfl rfl) ?_)
  obtain ⟨hc1, hm⟩ := chkE hm
  refine OW.cons (OP.val (v := (.int .i64 (w64 ((w64 ((w64 (2000 * a0)) + a1)).tdiv (w64 (2 * a1)))))) rfl (x_quo rfl rfl hc1) ?_)
  refine OW.cons (OP.val (v := (.int .i64 (min 3000 (w64 ((w64 ((w64 (2000 * a0)) + a1)).tdiv (w64 (2 * a1))))))) rfl (x_min2 rfl rfl) ?_)
  refine OW.cons (OP.val (v := (.int .i64 (max 1 (min 3000 (w64 ((w64 ((w64 (2000 * a0)) + a1)).tdiv (w64 (2 * a1)))))))) rfl (x_max2 rfl rfl) ?_)
  refine OW.cons (OP.val (v := (.int .i64 (max 1 (min 3000 (w64 ((w64 ((w64 (2000 * a0)) + a1)).tdiv (w64 (2 * a1)))))))) rfl (x_assign) ?_)
  refine OW.nil ?_
  refine CW.ret ?_
  obtain rfl := Option.some.inj hm
  exact RR1 rfl rfl ⟨rfl, hL.fresh 0 rfl [] (by decide) (by decide) rfl⟩

theorem M.spec_IsProgress_ok (w0 : World) (a0 : ProgressRules) {r : Bool} (hm : M.spec_IsProgress a0 = some r) :
    Calls Try.prog 57 #[(.agg #[(.int .i64 a0.Gain), (.int .i64 a0.Step), (.int .i64 a0.Low), (.int .i64 a0.High)])] w0 fun e w' => e = .returned (.bool r) ∧ Fresh w0 w' [] := by
  unfold M.spec_IsProgress at hm
  refine calls_CW (args := [(.agg #[(.int .i64 a0.Gain), (.int .i64 a0.Step), (.int .i64 a0.Low), (.int .i64 a0.High)])]) Try.func57 rfl rfl rfl ?_
  have hL := Hp.start w0
  refine CW.seq ?_
  refine CW.regionL ?_
  refine OW.cons (S_box (cs := #[(.int .i64 a0.Gain), (.int .i64 a0.Step), (.int .i64 a0.Low), (.int .i64 a0.High)]) hL rfl rfl rfl ?_)
  intro wd1 b2 hL
  refine OW.cons (OP.val (v := (.bool false)) rfl (x_assign) ?_)
  refine OW.nil ?_
  refine CW.seqJ (fun (s_j1 : Bool) (F : Fr) (w : World) => F 2 = (.bool s_j1) ∧ Hp w0 [Ent.blk b2 46 #[(.int .i64 a0.Gain), (.int .i64 a0.Step), (.int .i64 a0.Low), (.int .i64 a0.High)], Ent.snap w0 w0.heap.size] w) (fun s_j1 => M.spec_IsProgress_j1 s_j1 = some r) ?_ ?_
  · refine CW.regionL ?_
    refine OW.cons (OP.val (v := (.pointer (some ⟨b2, 0, none⟩))) rfl (x_fieldAddr (fsz := 1) 0 0 0 Try.underlying46 rfl Try_T2 rfl rfl rfl) ?_)
    refine OW.cons (OP.val (v := (.int .i64 a0.Gain)) rfl (x_load1 Try.underlying2 rfl rfl (hL.cellB 0 rfl rfl)) ?_)
    obtain ⟨x30, hx31, hm⟩ := bndE hm
    refine OW.cons (OP.call rfl (x_call (vs := [(.int .i64 a0.Gain), (.int .i64 0), (.int .i64 1000)]) Try_C75 ⟨rfl, rfl, rfl, trivial⟩) (M.spec_l01In_ok _ a0.Gain 0 1000 hx31) ?_)
    rintro e32 wd33 ⟨rfl, hF34⟩
    refine ⟨_, rfl, ?_⟩
    have hL := hL.pushAll hF34
    simp only [lA, lB, lC, lD] at hL
    refine OW.cons (OP.val (v := (.bool x30)) rfl (x_move) ?_)
    refine ifB_elim hm (fun hb35 hm => ?_) (fun hb35 hm => ?_)
    · refine OW.cons (OP.yes' rfl rfl hb35 (OP.val (v := (.pointer (some ⟨b2, 1, none⟩))) rfl (x_fieldAddr (fsz := 1) 0 1 1 Try.underlying46 rfl Try_T2 rfl rfl rfl) ?_))
      refine OW.cons (OP.yes' rfl rfl hb35 (OP.val (v := (.int .i64 a0.Step)) rfl (x_load1 Try.underlying2 rfl rfl (hL.cellB 0 rfl rfl)) ?_))
      obtain ⟨x36, hx37, hm⟩ := bndE hm
      refine OW.cons (OP.yes' rfl rfl hb35 (OP.call rfl (x_call (vs := [(.int .i64 a0.Step), (.int .i64 0), (.int .i64 3000)]) Try_C75 ⟨rfl, rfl, rfl, trivial⟩) (M.spec_l01In_ok _ a0.Step 0 3000 hx37) ?_))
      rintro e38 wd39 ⟨rfl, hF40⟩
      refine ⟨_, rfl, ?_⟩
      have hL := hL.pushAll hF40
      simp only [lA, lB, lC, lD] at hL
      refine OW.cons (OP.val (v := (.bool x36)) rfl (x_pickT' rfl hb35 rfl) ?_)
      refine OW.cons (OP.val (v := (.bool x36)) rfl (x_move) ?_)
      refine ifB_elim hm (fun hb41 hm => ?_) (fun hb41 hm => ?_)
      · refine OW.cons (OP.yes' rfl rfl hb41 (OP.val (v := (.pointer (some ⟨b2, 2, none⟩))) rfl (x_fieldAddr (fsz := 1) 0 2 2 Try.underlying46 rfl Try_T2 rfl rfl rfl) ?_))
        refine OW.cons (OP.yes' rfl rfl hb41 (OP.val (v := (.int .i64 a0.Low)) rfl (x_load1 Try.underlying2 rfl rfl (hL.cellB 0 rfl rfl)) ?_))
        obtain ⟨x42, hx43, hm⟩ := bndE hm
        refine OW.cons (OP.yes' rfl rfl hb41 (OP.call rfl (x_call (vs := [(.int .i64 a0.Low)]) Try_C81 ⟨rfl, trivial⟩) (M.spec_l22Factor_ok _ a0.Low hx43) ?_))
        rintro e44 wd45 ⟨rfl, hF46⟩
        refine ⟨_, rfl, ?_⟩
        have hL := hL.pushAll hF46
        simp only [lA, lB, lC, lD] at hL
        refine OW.cons (OP.val (v := (.bool x42)) rfl (x_pickT' rfl hb41 rfl) ?_)
        refine OW.cons (OP.val (v := (.bool x42)) rfl (x_move) ?_)
        refine ifB_elim hm (fun hb47 hm => ?_) (fun hb47 hm => ?_)
        · refine OW.cons (OP.yes' rfl rfl hb47 (OP.val (v := (.pointer (some ⟨b2, 3, none⟩))) rfl (x_fieldAddr (fsz := 1) 0 3 3 Try.underlying46 rfl Try_T2 rfl rfl rfl) ?_))
          refine OW.cons (OP.yes' rfl rfl hb47 (OP.val (v := (.int .i64 a0.High)) rfl (x_load1 Try.underlying2 rfl rfl (hL.cellB 0 rfl rfl)) ?_))
          obtain ⟨x48, hx49, hm⟩ := bndE hm
          refine OW.cons (OP.yes' rfl rfl hb47 (OP.call rfl (x_call (vs := [(.int .i64 a0.High)]) Try_C81 ⟨rfl, trivial⟩) (M.spec_l22Factor_ok _ a0.High hx49) ?_))
          rintro e50 wd51 ⟨rfl, hF52⟩
          refine ⟨_, rfl, ?_⟩
          have hL := hL.pushAll hF52
          simp only [lA, lB, lC, lD] at hL
          refine OW.cons (OP.val (v := (.bool x48)) rfl (x_pickT' rfl hb47 rfl) ?_)
          refine OW.cons (OP.val (v := (.bool x48)) rfl (x_move) ?_)
          refine ifB_elim hm (fun hb53 hm => ?_) (fun hb53 hm => ?_)
          · refine OW.cons (OP.yes' rfl rfl hb53 (OP.val (v := (.pointer (some ⟨b2, 2, none⟩))) rfl (x_fieldAddr (fsz := 1) 0 2 2 Try.underlying46 rfl Try_T2 rfl rfl rfl) ?_))
            refine OW.cons (OP.yes' rfl rfl hb53 (OP.val (v := (.int .i64 a0.Low)) rfl (x_load1 Try.underlying2 rfl rfl (hL.cellB 0 rfl rfl)) ?_))
            refine OW.cons (OP.yes' rfl rfl hb53 (OP.val (v := (.pointer (some ⟨b2, 3, none⟩))) rfl (x_fieldAddr (fsz := 1) 0 3 3 Try.underlying46 rfl Try_T2 rfl rfl rfl) ?_))
            refine OW.cons (OP.yes' rfl rfl hb53 (OP.val (v := (.int .i64 a0.High)) rfl (x_load1 Try.underlying2 rfl rfl (hL.cellB 0 rfl rfl)) ?_))
            refine OW.cons (OP.yes' rfl rfl hb53 (OP.val (v := (.bool (decide (a0.Low ≤ a0.High)))) rfl (x_leq rfl rfl) ?_))
            refine OW.cons (OP.val (v := (.bool (decide (a0.Low ≤ a0.High)))) rfl (x_pickT' rfl hb53 rfl) ?_)
            refine OW.cons (OP.val (v := (.bool (decide (a0.Low ≤ a0.High)))) rfl (x_assign) ?_)
            refine OW.nil ?_
            exact ⟨decide (a0.Low ≤ a0.High), hm, ⟨rfl, hL⟩⟩
          · refine OW.cons (OP.no' rfl rfl hb53 rfl ?_)
            refine OW.cons (OP.no' rfl rfl hb53 rfl ?_)
            refine OW.cons (OP.no' rfl rfl hb53 rfl ?_)
            refine OW.cons (OP.no' rfl rfl hb53 rfl ?_)
            refine OW.cons (OP.no' rfl rfl hb53 rfl ?_)
            refine OW.cons (OP.val (v := (.bool false)) rfl (x_pickF' rfl hb53 rfl) ?_)
            refine OW.cons (OP.val (v := (.bool false)) rfl (x_assign) ?_)
            refine OW.nil ?_
            exact ⟨false, hm, ⟨rfl, hL⟩⟩
        · refine OW.cons (OP.no' rfl rfl hb47 rfl ?_)
          refine OW.cons (OP.no' rfl rfl hb47 rfl ?_)
          refine OW.cons (OP.no' rfl rfl hb47 rfl ?_)
          refine OW.cons (OP.val (v := (.bool false)) rfl (x_pickF' rfl hb47 rfl) ?_)
          refine OW.cons (OP.val (v := (.bool false)) rfl (x_move) ?_)
          refine OW.cons (OP.no' rfl rfl rfl rfl ?_)
          refine OW.cons (OP.no' rfl rfl rfl rfl ?_)
          refine OW.cons (OP.no' rfl rfl rfl rfl ?_)
          refine OW.cons (OP.no' rfl rfl rfl rfl ?_)
          refine OW.cons (OP.no' rfl rfl rfl rfl ?_)
          refine OW.cons (OP.val (v := (.bool false)) rfl (x_pickF' rfl rfl rfl) ?_)
          refine OW.cons (OP.val (v := (.bool false)) rfl (x_assign) ?_)
          refine OW.nil ?_
          exact ⟨false, hm, ⟨rfl, hL⟩⟩
      · refine OW.cons (OP.no' rfl rfl hb41 rfl ?_)
        refine OW.cons (OP.no' rfl rfl hb41 rfl ?_)
        refine OW.cons (OP.no' rfl rfl hb41 rfl ?_)
        refine OW.cons (OP.val (v := (.bool false)) rfl (x_pickF' rfl hb41 rfl) ?_)
        refine OW.cons (OP.val (v := (.bool false)) rfl (x_move) ?_)
        refine OW.cons (OP.no' rfl rfl rfl rfl ?_)
        refine OW.cons (OP.no' rfl rfl rfl rfl ?_)
        refine OW.cons (OP.no' rfl rfl rfl rfl ?_)
        refine OW.cons (OP.val (v := (.bool false)) rfl (x_pickF' rfl rfl rfl) ?_)
        refine OW.cons (OP.val (v := (.bool false)) rfl (x_move) ?_)
        refine OW.cons (OP.no' rfl rfl rfl rfl ?_)
        refine OW.cons (OP.no' rfl rfl rfl rfl ?_)
        refine OW.cons (OP.no' rfl rfl rfl rfl ?_)
        refine OW.cons (OP.no' rfl rfl rfl rfl ?_)
        refine OW.cons (OP.no' rfl rfl rfl rfl ?_)
        refine OW.cons (OP.val (v := (.bool false)) rfl (x_pickF' rfl rfl rfl) ?_)
        refine OW.cons (OP.val (v := (.bool false)) rfl (x_assign) ?_)
        refine OW.nil ?_
        exact ⟨false, hm, ⟨rfl, hL⟩⟩
    · refine OW.cons (OP.no' rfl rfl hb35 rfl ?_)
      refine OW.cons (OP.no' rfl rfl hb35 rfl ?_)
      refine OW.cons (OP.no' rfl rfl hb35 rfl ?_)
      refine OW.cons (OP.val (v := (.bool false)) rfl (x_pickF' rfl hb35 rfl) ?_)
      refine OW.cons (OP.val (v := (.bool false)) rfl (x_move) ?_)
      refine OW.cons (OP.no' rfl rfl rfl rfl ?_)
      refine OW.cons (OP.no' rfl rfl rfl rfl ?_)
      refine OW.cons (OP.no' rfl rfl rfl rfl ?_)
      refine OW.cons (OP.val (v := (.bool false)) rfl (x_pickF' rfl rfl rfl) ?_)
      refine OW.cons (OP.val (v := (.bool false)) rfl (x_move) ?_)
      refine OW.cons (OP.no' rfl rfl rfl rfl ?_)
      refine OW.cons (OP.no' rfl rfl rfl rfl ?_)
      refine OW.cons (OP.no' rfl rfl rfl rfl ?_)
      refine OW.cons (OP.val (v := (.bool false)) rfl (x_pickF' rfl rfl rfl) ?_)
      refine OW.cons (OP.val (v := (.bool false)) rfl (x_move) ?_)
      refine OW.cons (OP.no' rfl rfl rfl rfl ?_)
      refine OW.cons (OP.no' rfl rfl rfl rfl ?_)
      refine OW.cons (OP.no' rfl rfl rfl rfl ?_)
      refine OW.cons (OP.no' rfl rfl rfl rfl ?_)
      refine OW.cons (OP.no' rfl rfl rfl rfl ?_)
      refine OW.cons (OP.val (v := (.bool false)) rfl (x_pickF' rfl rfl rfl) ?_)
      refine OW.cons (OP.val (v := (.bool false)) rfl (x_assign) ?_)
      refine OW.nil ?_
      exact ⟨false, hm, ⟨rfl, hL⟩⟩
  · intro s_j1 F27 wd28 hJ hm
    unfold M.spec_IsProgress_j1 at hm
    obtain ⟨f29, hL⟩ := hJ
    refine CW.ret ?_
    obtain rfl := Option.some.inj hm
    exact RR1 rfl f29 ⟨rfl, hL.fresh 1 rfl [] (by decide) (by decide) rfl⟩

theorem M.spec_l25New_ok (w0 : World) (a0 : ProgressRules) (a1 : Int) (a2 : Int) {r : Int} (hm : M.spec_l25New a0 a1 a2 = some r) :
    Calls Try.prog 82 #[(.agg #[(.int .i64 a0.Gain), (.int .i64 a0.Step), (.int .i64 a0.Low), (.int .i64 a0.High)]), (.int .i64 a1), (.int .i64 a2)] w0 fun e w' => e = .returned (.int .i64 r) ∧ Fresh w0 w' [] := by
  unfold M.spec_l25New at hm
  refine calls_CW (args := [(.agg #[(.int .i64 a0.Gain), (.int .i64 a0.Step), (.int .i64 a0.Low), (.int .i64 a0.High)]), (.int .i64 a1), (.int .i64 a2)]) Try.func82 rfl rfl rfl ?_
  have hL := Hp.start w0
  refine CW.seq ?_
  refine CW.regionL ?_
  refine OW.cons (S_box (cs := #[(.int .i64 a0.Gain), (.int .i64 a0.Step), (.int .i64 a0.Low), (.int .i64 a0.High)]) hL rfl rfl rfl ?_)
  intro wd1 b2 hL
  refine OW.cons (OP.val (v := (.int .i64 0)) rfl (x_assign) ?_)
  refine OW.nil ?_
  refine CW.seq ?_
  refine CW.regionL ?_
  refine OW.cons (OP.val (v := (.pointer (some ⟨b2, 1, none⟩))) rfl (x_fieldAddr (fsz := 1) 0 1 1 Try.underlying46 rfl Try_T2 rfl rfl rfl) ?_)
  refine OW.cons (OP.val (v := (.int .i64 a0.Step)) rfl (x_load1 Try.underlying2 rfl rfl (hL.cellB 0 rfl rfl)) ?_)
  refine OW.cons (OP.val (v := (.int .i64 (w64 (0 - a0.Step)))) rfl (x_neg rfl) ?_)
  refine OW.cons (OP.val (v := (.pointer (some ⟨b2, 1, none⟩))) rfl (x_fieldAddr (fsz := 1) 0 1 1 Try.underlying46 rfl Try_T2 rfl rfl rfl) ?_)
  refine OW.cons (OP.val (v := (.int .i64 a0.Step)) rfl (x_load1 Try.underlying2 rfl rfl (hL.cellB 0 rfl rfl)) ?_)
  refine OW.cons (OP.val (v := (.pointer (some ⟨b2, 0, none⟩))) rfl (x_fieldAddr (fsz := 1) 0 0 0 Try.underlying46 rfl Try_T2 rfl rfl rfl) ?_)
  refine OW.cons (OP.val (v := (.int .i64 a0.Gain)) rfl (x_load1 Try.underlying2 rfl rfl (hL.cellB 0 rfl rfl)) ?_)
  refine OW.cons (OP.val (v := (.int .i64 a2)) rfl (x_move) ?_)
  refine OW.cons (OP.val (v := (.int .i64 a1)) rfl (x_move) ?_)
  refine OW.cons (OP.val (v := (.int .i64 (w64 (a2 - a1)))) rfl (x_sub rfl rfl) ?_)
  refine OW.cons (OP.val (v := (.int .i64 (w64 (a0.Gain * (w64 (a2 - a1)))))) rfl (x_mul rfl rfl) ?_)
  refine OW.cons (OP.val (v := (.int .i64 (w64 ((w64 (a0.Gain * (w64 (a2 - a1)))).tdiv 1000)))) rfl (x_quo rfl rfl (by decide)) ?_)
  refine OW.cons (OP.val (v := (.int .i64 (min a0.Step (w64 ((w64 (a0.Gain * (w64 (a2 - a1)))).tdiv 1000))))) rfl (x_min2 rfl rfl) ?_)
  refine OW.cons (OP.val (v := (.int .i64 (max (w64 (0 - a0.Step)) (min a0.Step (w64 ((w64 (a0.Gain * (w64 (a2 - a1)))).tdiv 1000)))))) rfl (x_max2 rfl rfl) ?_)
  refine OW.cons (OP.val (v := (.int .i64 (max (w64 (0 - a0.Step)) (min a0.Step (w64 ((w64 (a0.Gain * (w64 (a2 - a1)))).tdiv 1000)))))) rfl (x_assign) ?_)
  refine OW.nil ?_
  refine CW.seq ?_
  refine CW.regionL ?_
  refine OW.cons (OP.val (v := (.pointer (some ⟨b2, 2, none⟩))) rfl (x_fieldAddr (fsz := 1) 0 2 2 Try.underlying46 rfl Try_T2 rfl rfl rfl) ?_)
  refine OW.cons (OP.val (v := (.int .i64 a0.Low)) rfl (x_load1 Try.underlying2 rfl rfl (hL.cellB 0 rfl rfl)) ?_)
  refine OW.cons (OP.val (v := (.pointer (some ⟨b2, 3, none⟩))) rfl (x_fieldAddr (fsz := 1) 0 3 3 Try.underlying46 rfl Try_T2 rfl rfl rfl) ?_)
  refine OW.cons (OP.val (v := (.int .i64 a0.High)) rfl (x_load1 Try.underlying2 rfl rfl (hL.cellB 0 rfl rfl)) ?_)
  refine OW.cons (OP.val (v := (.int .i64 a1)) rfl (x_move) ?_)
  refine OW.cons (OP.val (v := (.int .i64 (max (w64 (0 - a0.Step)) (min a0.Step (w64 ((w64 (a0.Gain * (w64 (a2 - a1)))).tdiv 1000)))))) rfl (x_move) ?_)
  refine OW.cons (OP.val (v := (.int .i64 (w64 (a1 + (max (w64 (0 - a0.Step)) (min a0.Step (w64 ((w64 (a0.Gain * (w64 (a2 - a1)))).tdiv 1000)))))))) rfl (x_add rfl rfl) ?_)
  refine OW.cons (OP.val (v := (.int .i64 (min a0.High (w64 (a1 + (max (w64 (0 - a0.Step)) (min a0.Step (w64 ((w64 (a0.Gain * (w64 (a2 - a1)))).tdiv 1000))))))))) rfl (x_min2 rfl rfl) ?_)
  refine OW.cons (OP.val (v := (.int .i64 (max a0.Low (min a0.High (w64 (a1 + (max (w64 (0 - a0.Step)) (min a0.Step (w64 ((w64 (a0.Gain * (w64 (a2 - a1)))).tdiv 1000)))))))))) rfl (x_max2 rfl rfl) ?_)
  refine OW.cons (OP.val (v := (.int .i64 (max a0.Low (min a0.High (w64 (a1 + (max (w64 (0 - a0.Step)) (min a0.Step (w64 ((w64 (a0.Gain * (w64 (a2 - a1)))).tdiv 1000)))))))))) rfl (x_assign) ?_)
  refine OW.nil ?_
  refine CW.ret ?_
  obtain rfl := Option.some.inj hm
  exact RR1 rfl rfl ⟨rfl, hL.fresh 1 rfl [] (by decide) (by decide) rfl⟩

theorem M.spec_l25Race_ok (w0 : World) (a0 : ProgressRules) (a1 : List Finish) {v1 : Value} (h2 : rdL (· < w0.heap.size) w0 v1 a1) (a2 : List Rating) {v3 : Value} (h4 : rdL (· < w0.heap.size) w0 v3 a2) {r : (List Rating)} (hm : M.spec_l25Race a0 a1 a2 = some r) :
    Calls Try.prog 58 #[(.agg #[(.int .i64 a0.Gain), (.int .i64 a0.Step), (.int .i64 a0.Low), (.int .i64 a0.High)]), v1, v3] w0 fun e w' => ∃ (rv0 : Value) (rS0 : Nat → Prop), e = .returned rv0 ∧ Fresh w0 w' [Ent.own 61 rS0 rv0 r] := by
  unfold M.spec_l25Race at hm
  refine calls_CW (args := [(.agg #[(.int .i64 a0.Gain), (.int .i64 a0.Step), (.int .i64 a0.Low), (.int .i64 a0.High)]), v1, v3]) Try.func58 rfl rfl rfl ?_
  have hL := Hp.start w0
  refine CW.seq ?_
  refine CW.regionL ?_
  refine OW.cons (S_box (cs := #[(.int .i64 a0.Gain), (.int .i64 a0.Step), (.int .i64 a0.Low), (.int .i64 a0.High)]) hL rfl rfl rfl ?_)
  intro wd5 b6 hL
  refine OW.cons (OP.val (v := (.slice none 0 0)) rfl (x_assign) ?_)
  refine OW.nil ?_
  refine CW.seq ?_
  refine CW.regionL ?_
  refine OW.cons (OP.val (v := v1) rfl (x_move) ?_)
  refine OW.cons (OP.val (v := v3) rfl (x_move) ?_)
  obtain ⟨x7, hx8, hm⟩ := bndE hm
  refine OW.cons (OP.call rfl (x_call (vs := [v1, v3]) Try_C48 ⟨rfl, rfl, trivial⟩) (M.spec_l25Par_ok _ a1 (hL.rdS 1 rfl h2) a2 (hL.rdS 1 rfl h4) hx8) ?_)
  rintro e9 wd10 ⟨rfl, hF11⟩
  refine ⟨_, rfl, ?_⟩
  have hL := hL.pushAll hF11
  simp only [lA, lB, lC, lD] at hL
  refine OW.cons (OP.val (v := (.tuple #[(.int .i64 x7.1), (.int .i64 x7.2)])) rfl (x_move) ?_)
  refine OW.cons (OP.val (v := (.int .i64 x7.1)) rfl (x_extract rfl rfl) ?_)
  refine OW.cons (OP.val (v := (.int .i64 x7.2)) rfl (x_extract rfl rfl) ?_)
  refine OW.cons (OP.val (v := (.int .i64 x7.1)) rfl (x_assign) ?_)
  refine OW.cons (OP.val (v := (.int .i64 x7.2)) rfl (x_assign) ?_)
  refine OW.nil ?_
  refine CW.seq ?_
  refine CW.regionL ?_
  refine OW.cons (S_lit ([] : List Rating) hL Try.underlying30 Try_T61 rfl (by decide) (by first | (simp [Instr.fill, madeCells, Value.cells, ev, upd, Flat.enc, Flat.sz]; done) | rfl | kernel_rfl) rfl rfl ?_)
  intro wd12 v13 S14 hL
  refine OW.cons (OP.val (v := v13) rfl (x_assign) ?_)
  refine OW.nil ?_
  refine CW.seq ?_
  refine CW.seq ?_
  refine CW.regionL ?_
  refine OW.cons (OP.val (v := (.int .i64 0)) rfl (x_assign) ?_)
  refine OW.nil ?_
  obtain ⟨o241, ho242, hm⟩ := bndE hm
  refine CW.loopB (fun (s_l1 : (List Rating) × Int) (F : Fr) (w : World) => ∃ (v237 : Value) (S238 : Nat → Prop), F 1 = v1 ∧ F 2 = v3 ∧ F 3 = (.pointer (some ⟨b6, 0, none⟩)) ∧ F 7 = (.int .i64 x7.1) ∧ F 8 = (.int .i64 x7.2) ∧ F 9 = v237 ∧ F 10 = (.int .i64 s_l1.2) ∧ Hp w0 [Ent.own 61 S238 v237 s_l1.1, Ent.blk b6 46 #[(.int .i64 a0.Gain), (.int .i64 a0.Step), (.int .i64 a0.Low), (.int .i64 a0.High)], Ent.snap w0 w0.heap.size] w) (fun o => outc o (fun x => some x) (fun s => M.spec_l25Race_a1 s) = some r) ho242 hm ⟨v13, S14, rfl, rfl, rfl, rfl, rfl, rfl, rfl, hL⟩ ?_ ?_
  · intro s_l1 F243 wd244 hJ hm
    have hm := outcE hm
    have hm : M.spec_l25Race_a1 s_l1 = some r := hm
    unfold M.spec_l25Race_a1 at hm
    obtain ⟨v237, S238, f245, f246, f247, f248, f249, f250, f251, hL⟩ := hJ
    refine CW.seq ?_
    refine CW.regionL ?_
    refine OW.cons (OP.val (v := v237) rfl (x_mv f250) ?_)
    refine OW.cons (OP.val (v := v237) rfl (x_assign) ?_)
    refine OW.nil ?_
    refine CW.ret ?_
    obtain rfl := Option.some.inj hm
    exact RR1 rfl rfl ⟨v237, S238, rfl, hL.fresh 2 rfl [0] (by decide) (by decide) rfl⟩
  · intro s_l1 F252 wd253 t239 hJ hm hr240
    unfold M.spec_l25Race_l1 at hm
    obtain ⟨v237, S238, f254, f255, f256, f257, f258, f259, f260, hL⟩ := hJ
    refine CW.seq ?_
    refine CW.seq ?_
    refine CW.regionL ?_
    refine OW.cons (OP.val (v := (.int .i64 s_l1.2)) rfl (x_mv f260) ?_)
    refine OW.cons (OP.val (v := v3) rfl (x_mv f255) ?_)
    refine OW.cons (OP.val (v := (.int .i64 (a2.length : Int))) rfl (x_lenR Try.underlying30 rfl (hL.rdS 2 rfl h4)) ?_)
    refine OW.cons (OP.val (v := (.bool (decide (s_l1.2 < (a2.length : Int))))) rfl (x_lss rfl rfl) ?_)
    refine OW.nil ?_
    refine CW.condM (t := decide (s_l1.2 < (a2.length : Int))) rfl hm (fun hb261 hm => ?_) (fun hb261 hm => ?_)
    · refine CW.skip ?_
      refine CW.seq ?_
      refine CW.block ?_
      refine CW.seq ?_
      refine CW.regionL ?_
      refine OW.cons (OP.val (v := v3) rfl (x_mv f255) ?_)
      refine OW.cons (OP.val (v := (.int .i64 s_l1.2)) rfl (x_mv f260) ?_)
      obtain ⟨x262, ha263, hm⟩ := bndE hm
      obtain ⟨hz264, ha268⟩ := idxE ha263
      obtain ⟨b265, q266, hix267⟩ := rdL_ix (hL.rdS 2 rfl h4) hz264 ha268
      refine OW.cons (OP.val (v := (.pointer (some ⟨b265, q266, none⟩))) rfl (x_ix Try.underlying30 Try_T61 rfl rfl hix267) ?_)
      refine OW.cons (OP.val (v := (.agg #[(.int .i64 x262.Boat), (.int .i64 x262.Value)])) rfl (x_loadN (cs := [(.int .i64 x262.Boat), (.int .i64 x262.Value)]) Try.underlying61 Try_T61 rfl rfl (rdF_cells (hL.rdS 2 rfl h4) hix267 ha268)) ?_)
      refine OW.cons (S_alloc (cs := #[(.int .i64 0), (.int .i64 0)]) hL Try_T61 rfl rfl ?_)
      intro wd269 b270 hL
      refine OW.cons (S_storeN (l := [(.int .i64 x262.Boat), (.int .i64 x262.Value)]) (cs' := #[(.int .i64 x262.Boat), (.int .i64 x262.Value)]) hL 0 rfl Try_T61 rfl rfl (List.forall_mem_cons.2 ⟨rfl, (List.forall_mem_cons.2 ⟨rfl, (fun _ h => by cases h)⟩)⟩) rfl (Nat.le_of_ble_eq_true rfl) rfl ?_)
      intro wd271 hL
      refine OW.nil ?_
      refine CW.seqJ (fun (s_j1 : Int) (F : Fr) (w : World) => F 1 = v1 ∧ F 2 = v3 ∧ F 3 = (.pointer (some ⟨b6, 0, none⟩)) ∧ F 7 = (.int .i64 x7.1) ∧ F 8 = (.int .i64 x7.2) ∧ F 9 = v237 ∧ F 10 = (.int .i64 s_l1.2) ∧ F 11 = (.pointer (some ⟨b270, 0, none⟩)) ∧ Hp w0 [Ent.blk b270 61 #[(.int .i64 x262.Boat), (.int .i64 s_j1)], Ent.own 61 S238 v237 s_l1.1, Ent.blk b6 46 #[(.int .i64 a0.Gain), (.int .i64 a0.Step), (.int .i64 a0.Low), (.int .i64 a0.High)], Ent.snap w0 w0.heap.size] w) (fun s_j1 => M.spec_l25Race_j1 s_l1 x262 s_j1 = some t239) ?_ ?_
      · refine CW.seqJ (fun (s_j2 : Bool) (F : Fr) (w : World) => F 1 = v1 ∧ F 2 = v3 ∧ F 3 = (.pointer (some ⟨b6, 0, none⟩)) ∧ F 7 = (.int .i64 x7.1) ∧ F 8 = (.int .i64 x7.2) ∧ F 9 = v237 ∧ F 10 = (.int .i64 s_l1.2) ∧ F 11 = (.pointer (some ⟨b270, 0, none⟩)) ∧ F 38 = (.bool s_j2) ∧ Hp w0 [Ent.blk b270 61 #[(.int .i64 x262.Boat), (.int .i64 x262.Value)], Ent.own 61 S238 v237 s_l1.1, Ent.blk b6 46 #[(.int .i64 a0.Gain), (.int .i64 a0.Step), (.int .i64 a0.Low), (.int .i64 a0.High)], Ent.snap w0 w0.heap.size] w) (fun s_j2 => M.spec_l25Race_j2 a0 a1 x7 s_l1 x262 s_j2 = some t239) ?_ ?_
        · refine CW.regionL ?_
          refine OW.cons (OP.val (v := (.int .i64 x7.2)) rfl (x_mv f258) ?_)
          refine OW.cons (OP.val (v := (.bool (decide (2 ≤ x7.2)))) rfl (x_geq rfl rfl) ?_)
          refine OW.cons (OP.val (v := (.bool (decide (2 ≤ x7.2)))) rfl (x_move) ?_)
          refine ifB_elim hm (fun hb363 hm => ?_) (fun hb363 hm => ?_)
          · refine OW.cons (OP.yes' rfl rfl hb363 (OP.val (v := v1) rfl (x_mv f254) ?_))
            refine OW.cons (OP.yes' rfl rfl hb363 (OP.val (v := (.int .i64 s_l1.2)) rfl (x_mv f260) ?_))
            obtain ⟨x364, ha365, hm⟩ := bndE hm
            obtain ⟨hz366, ha370⟩ := idxE ha365
            obtain ⟨b367, q368, hix369⟩ := rdL_ix (hL.rdS 3 rfl h2) hz366 ha370
            refine OW.cons (OP.yes' rfl rfl hb363 (OP.val (v := (.pointer (some ⟨b367, q368, none⟩))) rfl (x_ix Try.underlying28 Try_T56 rfl rfl hix369) ?_))
            refine OW.cons (OP.yes' rfl rfl hb363 (OP.val (v := (.pointer (some ⟨b367, q368 + 1, none⟩))) rfl (x_fieldAddr (fsz := 1) q368 1 (q368 + 1) Try.underlying56 rfl Try_T2 rfl rfl rfl) ?_))
            refine OW.cons (OP.yes' rfl rfl hb363 (OP.val (v := (.int .i64 x364.Code)) rfl (x_load1 Try.underlying2 rfl rfl (rdF_cells (hL.rdS 3 rfl h2) hix369 ha370 1 _ rfl)) ?_))
            refine OW.cons (OP.yes' rfl rfl hb363 (OP.val (v := (.bool (x364.Code == 0))) rfl (x_eql rfl rfl) ?_))
            refine OW.cons (OP.val (v := (.bool (x364.Code == 0))) rfl (x_pickT' rfl hb363 rfl) ?_)
            refine OW.nil ?_
            exact ⟨x364.Code == 0, hm, ⟨f254, f255, f256, f257, f258, f259, f260, rfl, rfl, hL⟩⟩
          · refine OW.cons (OP.no' rfl rfl hb363 rfl ?_)
            refine OW.cons (OP.no' rfl rfl hb363 rfl ?_)
            refine OW.cons (OP.no' rfl rfl hb363 rfl ?_)
            refine OW.cons (OP.no' rfl rfl hb363 rfl ?_)
            refine OW.cons (OP.no' rfl rfl hb363 rfl ?_)
            refine OW.cons (OP.no' rfl rfl hb363 rfl ?_)
            refine OW.cons (OP.val (v := (.bool false)) rfl (x_pickF' rfl hb363 rfl) ?_)
            refine OW.nil ?_
            exact ⟨false, hm, ⟨f254, f255, f256, f257, f258, f259, f260, rfl, rfl, hL⟩⟩
        · intro s_j2 F338 wd339 hJ hm
          unfold M.spec_l25Race_j2 at hm
          obtain ⟨f340, f341, f342, f343, f344, f345, f346, f347, f348, hL⟩ := hJ
          refine CW.condM (t := s_j2) f348 hm (fun hb349 hm => ?_) (fun hb349 hm => ?_)
          · refine CW.draw Try_mixed ?_
            have hL := hL.call (Mod.drew _)
            refine DW.pre (fuel := 1) (fin := (((((((((((((Array.replicate 13 false).setIfInBounds 0 true).setIfInBounds 1 true).setIfInBounds 2 true).setIfInBounds 3 true).setIfInBounds 4 true).setIfInBounds 5 true).setIfInBounds 6 true).setIfInBounds 7 true).setIfInBounds 8 true).setIfInBounds 9 true).setIfInBounds 10 true).setIfInBounds 11 true)) (C := fun w' => Mod None_ _ w') [0, 1, 2, 3, 4, 5, 6, 7, 8, 9, 10, 11] (Mod.refl _ _) (by kernel_rfl) (by kernel_rfl) ?_
            refine QW.cons rfl (QP.val (v := (.agg #[(.int .i64 a0.Gain), (.int .i64 a0.Step), (.int .i64 a0.Low), (.int .i64 a0.High)])) rfl (fun w' hm' => x_loadN (cs := [(.int .i64 a0.Gain), (.int .i64 a0.Step), (.int .i64 a0.Low), (.int .i64 a0.High)]) Try.underlying46 Try_T46 rfl f342 ((hL.call hm').cellsB 2 rfl (o := 0) (l := [(.int .i64 a0.Gain), (.int .i64 a0.Step), (.int .i64 a0.Low), (.int .i64 a0.High)]) (by intro j u hj; exact (by simpa using hj)))) ?_)
            refine QW.cons rfl (QP.val (v := (.pointer (some ⟨b270, 1, none⟩))) rfl (fun w' hm' => x_fieldAddr (fsz := 1) 0 1 1 Try.underlying61 rfl Try_T2 rfl f347 rfl) ?_)
            refine QW.cons rfl (QP.val (v := (.int .i64 x262.Value)) rfl (fun w' hm' => x_load1 Try.underlying2 rfl rfl ((hL.call hm').cellB 0 rfl rfl)) ?_)
            refine QW.cons rfl (QP.val (v := (.int .i64 x7.1)) rfl (fun w' hm' => x_mv f343) ?_)
            refine QW.cons rfl (QP.val (v := v1) rfl (fun w' hm' => x_mv f340) ?_)
            refine QW.cons rfl (QP.val (v := (.int .i64 s_l1.2)) rfl (fun w' hm' => x_mv f346) ?_)
            obtain ⟨x350, ha351, hm⟩ := bndE hm
            obtain ⟨hz352, ha356⟩ := idxE ha351
            obtain ⟨b353, q354, hix355⟩ := rdL_ix (hL.rdS 3 rfl h2) hz352 ha356
            refine QW.cons rfl (QP.val (v := (.pointer (some ⟨b353, q354, none⟩))) rfl (fun w' hm' => x_ix Try.underlying28 Try_T56 rfl rfl hix355) ?_)
            refine QW.cons rfl (QP.val (v := (.pointer (some ⟨b353, q354 + 2, none⟩))) rfl (fun w' hm' => x_fieldAddr (fsz := 1) q354 2 (q354 + 2) Try.underlying56 rfl Try_T2 rfl rfl rfl) ?_)
            refine QW.cons rfl (QP.val (v := (.int .i64 x350.Time)) rfl (fun w' hm' => x_load1 Try.underlying2 rfl rfl (rdF_cells ((hL.call hm').rdS 3 rfl h2) hix355 ha356 2 _ rfl)) ?_)
            obtain ⟨x357, hx358, hm⟩ := bndE hm
            refine QW.cons rfl (QP.call (v := (.int .i64 x357)) rfl (fun w' hm' => x_call (vs := [(.int .i64 x7.1), (.int .i64 x350.Time)]) Try_C55 ⟨rfl, rfl, trivial⟩) (fun w' hm' => (M.spec_l25Factor_ok w' x7.1 x350.Time hx358).mono (fun e w'' h => ⟨h.1, hm'.trans h.2.mod⟩)) ?_)
            obtain ⟨x359, hx360, hm⟩ := bndE hm
            refine QW.cons rfl (QP.call (v := (.int .i64 x359)) rfl (fun w' hm' => x_call (vs := [(.agg #[(.int .i64 a0.Gain), (.int .i64 a0.Step), (.int .i64 a0.Low), (.int .i64 a0.High)]), (.int .i64 x262.Value), (.int .i64 x357)]) Try_C82 ⟨rfl, rfl, rfl, trivial⟩) (fun w' hm' => (M.spec_l25New_ok w' a0 x262.Value x357 hx360).mono (fun e w'' h => ⟨h.1, hm'.trans h.2.mod⟩)) ?_)
            refine QW.cons rfl (QP.val (v := (.pointer (some ⟨b270, 1, none⟩))) rfl (fun w' hm' => x_fieldAddr (fsz := 1) 0 1 1 Try.underlying61 rfl Try_T2 rfl f347 rfl) ?_)
            refine QW.nil ?_
            intro wd361 hmod
            have hL := hL.call hmod
            refine DW.only 12 rfl (by kernel_rfl) (S_store (cs' := #[(.int .i64 x262.Boat), (.int .i64 x359)]) hL 0 rfl Try_T2 rfl rfl rfl rfl rfl ?_)
            intro wd362 hL
            refine DW.done (by kernel_rfl) ?_
            exact ⟨x359, hm, ⟨f340, f341, f342, f343, f344, f345, f346, f347, hL⟩⟩
          · refine CW.skip ?_
            exact ⟨x262.Value, hm, ⟨f340, f341, f342, f343, f344, f345, f346, f347, hL⟩⟩
      · intro s_j1 F313 wd314 hJ hm
        unfold M.spec_l25Race_j1 at hm
        obtain ⟨f315, f316, f317, f318, f319, f320, f321, f322, hL⟩ := hJ
        refine CW.regionL ?_
        refine OW.cons (OP.val (v := v237) rfl (x_mv f320) ?_)
        refine OW.cons (OP.val (v := (.agg #[(.int .i64 x262.Boat), (.int .i64 s_j1)])) rfl (x_loadN (cs := [(.int .i64 x262.Boat), (.int .i64 s_j1)]) Try.underlying61 Try_T61 rfl f322 (hL.cellsB 0 rfl (o := 0) (l := [(.int .i64 x262.Boat), (.int .i64 s_j1)]) (by intro j u hj; exact (by simpa using hj)))) ?_)
        refine OW.cons (S_lit ([(Rating.mk x262.Boat s_j1)] : List Rating) hL Try.underlying30 Try_T61 rfl (by decide) (by first | (simp [Instr.fill, madeCells, Value.cells, ev, upd, Flat.enc, Flat.sz]; done) | rfl | kernel_rfl) rfl rfl ?_)
        intro wd323 v324 S325 hL
        obtain ⟨hc329, hm⟩ := chkE hm
        refine OW.cons (S_append (ys := ([(Rating.mk x262.Boat s_j1)] : List Rating)) hL 2 rfl Try.underlying30 Try_T61 rfl rfl rfl (hL.rdO 0 rfl) hc329 (by decide) rfl ?_)
        intro wd326 v327 S328 hL
        refine OW.cons (OP.val (v := v327) rfl (x_assign) ?_)
        refine OW.nil ?_
        refine CW.regionL ?_
        refine OW.cons (OP.val (v := (.int .i64 s_l1.2)) rfl (x_mv f321) ?_)
        refine OW.cons (OP.val (v := (.int .i64 (w64 (s_l1.2 + 1)))) rfl (x_add rfl rfl) ?_)
        refine OW.cons (OP.val (v := (.int .i64 (w64 (s_l1.2 + 1)))) rfl (x_assign) ?_)
        refine OW.nil ?_
        have hL := hL.sel [2, 3, 4] (by decide) rfl
        obtain rfl := Option.some.inj hm
        exact ⟨_, rfl, ⟨v327, S328, f315, f316, f317, f318, f319, rfl, rfl, hL⟩⟩
    · refine CW.exit ?_
      refine XJ.hit ?_
      obtain rfl := Option.some.inj hm
      exact ⟨_, rfl, ⟨v237, S238, f254, f255, f256, f257, f258, f259, f260, hL⟩⟩

theorem M.impl_IsProgress_ok (w0 : World) (a0 : ProgressRules) {r : Bool} (hm : M.impl_IsProgress a0 = some r) :
    Calls Try.prog 59 #[(.agg #[(.int .i64 a0.Gain), (.int .i64 a0.Step), (.int .i64 a0.Low), (.int .i64 a0.High)])] w0 fun e w' => e = .returned (.bool r) ∧ Fresh w0 w' [] := by
  unfold M.impl_IsProgress at hm
  refine calls_CW (args := [(.agg #[(.int .i64 a0.Gain), (.int .i64 a0.Step), (.int .i64 a0.Low), (.int .i64 a0.High)])]) Try.func59 rfl rfl rfl ?_
  have hL := Hp.start w0
  refine CW.seq ?_
  refine CW.regionL ?_
  refine OW.cons (S_box (cs := #[(.int .i64 a0.Gain), (.int .i64 a0.Step), (.int .i64 a0.Low), (.int .i64 a0.High)]) hL rfl rfl rfl ?_)
  intro wd1 b2 hL
  refine OW.cons (OP.val (v := (.bool false)) rfl (x_assign) ?_)
  refine OW.nil ?_
  refine CW.seqJ (fun (s_j1 : Bool) (F : Fr) (w : World) => F 2 = (.bool s_j1) ∧ Hp w0 [Ent.blk b2 46 #[(.int .i64 a0.Gain), (.int .i64 a0.Step), (.int .i64 a0.Low), (.int .i64 a0.High)], Ent.snap w0 w0.heap.size] w) (fun s_j1 => M.impl_IsProgress_j1 s_j1 = some r) ?_ ?_
  · refine CW.regionL ?_
    refine OW.cons (OP.val (v := (.pointer (some ⟨b2, 0, none⟩))) rfl (x_fieldAddr (fsz := 1) 0 0 0 Try.underlying46 rfl Try_T2 rfl rfl rfl) ?_)
    refine OW.cons (OP.val (v := (.int .i64 a0.Gain)) rfl (x_load1 Try.underlying2 rfl rfl (hL.cellB 0 rfl rfl)) ?_)
    obtain ⟨x24, hx25, hm⟩ := bndE hm
    refine OW.cons (OP.call rfl (x_call (vs := [(.int .i64 a0.Gain), (.int .i64 0), (.int .i64 1000)]) Try_C74 ⟨rfl, rfl, rfl, trivial⟩) (M.impl_within_ok _ a0.Gain 0 1000 hx25) ?_)
    rintro e26 wd27 ⟨rfl, hF28⟩
    refine ⟨_, rfl, ?_⟩
    have hL := hL.pushAll hF28
    simp only [lA, lB, lC, lD] at hL
    refine OW.cons (OP.val (v := (.bool x24)) rfl (x_move) ?_)
    refine ifB_elim hm (fun hb29 hm => ?_) (fun hb29 hm => ?_)
    · refine OW.cons (OP.yes' rfl rfl hb29 (OP.val (v := (.pointer (some ⟨b2, 1, none⟩))) rfl (x_fieldAddr (fsz := 1) 0 1 1 Try.underlying46 rfl Try_T2 rfl rfl rfl) ?_))
      refine OW.cons (OP.yes' rfl rfl hb29 (OP.val (v := (.int .i64 a0.Step)) rfl (x_load1 Try.underlying2 rfl rfl (hL.cellB 0 rfl rfl)) ?_))
      obtain ⟨x30, hx31, hm⟩ := bndE hm
      refine OW.cons (OP.yes' rfl rfl hb29 (OP.call rfl (x_call (vs := [(.int .i64 a0.Step), (.int .i64 0), (.int .i64 3000)]) Try_C74 ⟨rfl, rfl, rfl, trivial⟩) (M.impl_within_ok _ a0.Step 0 3000 hx31) ?_))
      rintro e32 wd33 ⟨rfl, hF34⟩
      refine ⟨_, rfl, ?_⟩
      have hL := hL.pushAll hF34
      simp only [lA, lB, lC, lD] at hL
      refine OW.cons (OP.val (v := (.bool x30)) rfl (x_pickT' rfl hb29 rfl) ?_)
      refine OW.cons (OP.val (v := (.bool x30)) rfl (x_move) ?_)
      refine ifB_elim hm (fun hb35 hm => ?_) (fun hb35 hm => ?_)
      · refine OW.cons (OP.yes' rfl rfl hb35 (OP.val (v := (.pointer (some ⟨b2, 2, none⟩))) rfl (x_fieldAddr (fsz := 1) 0 2 2 Try.underlying46 rfl Try_T2 rfl rfl rfl) ?_))
        refine OW.cons (OP.yes' rfl rfl hb35 (OP.val (v := (.int .i64 a0.Low)) rfl (x_load1 Try.underlying2 rfl rfl (hL.cellB 0 rfl rfl)) ?_))
        refine OW.cons (OP.yes' rfl rfl hb35 (OP.val (v := (.pointer (some ⟨b2, 3, none⟩))) rfl (x_fieldAddr (fsz := 1) 0 3 3 Try.underlying46 rfl Try_T2 rfl rfl rfl) ?_))
        refine OW.cons (OP.yes' rfl rfl hb35 (OP.val (v := (.int .i64 a0.High)) rfl (x_load1 Try.underlying2 rfl rfl (hL.cellB 0 rfl rfl)) ?_))
        obtain ⟨x36, hx37, hm⟩ := bndE hm
        refine OW.cons (OP.yes' rfl rfl hb35 (OP.call rfl (x_call (vs := [(.int .i64 a0.Low), (.int .i64 1), (.int .i64 a0.High)]) Try_C74 ⟨rfl, rfl, rfl, trivial⟩) (M.impl_within_ok _ a0.Low 1 a0.High hx37) ?_))
        rintro e38 wd39 ⟨rfl, hF40⟩
        refine ⟨_, rfl, ?_⟩
        have hL := hL.pushAll hF40
        simp only [lA, lB, lC, lD] at hL
        refine OW.cons (OP.val (v := (.bool x36)) rfl (x_pickT' rfl hb35 rfl) ?_)
        refine OW.cons (OP.val (v := (.bool x36)) rfl (x_move) ?_)
        refine ifB_elim hm (fun hb41 hm => ?_) (fun hb41 hm => ?_)
        · refine OW.cons (OP.yes' rfl rfl hb41 (OP.val (v := (.pointer (some ⟨b2, 3, none⟩))) rfl (x_fieldAddr (fsz := 1) 0 3 3 Try.underlying46 rfl Try_T2 rfl rfl rfl) ?_))
          refine OW.cons (OP.yes' rfl rfl hb41 (OP.val (v := (.int .i64 a0.High)) rfl (x_load1 Try.underlying2 rfl rfl (hL.cellB 0 rfl rfl)) ?_))
          refine OW.cons (OP.yes' rfl rfl hb41 (OP.val (v := (.bool (decide (a0.High ≤ 3000)))) rfl (x_leq rfl rfl) ?_))
          refine OW.cons (OP.val (v := (.bool (decide (a0.High ≤ 3000)))) rfl (x_pickT' rfl hb41 rfl) ?_)
          refine OW.cons (OP.val (v := (.bool (decide (a0.High ≤ 3000)))) rfl (x_assign) ?_)
          refine OW.nil ?_
          exact ⟨decide (a0.High ≤ 3000), hm, ⟨rfl, hL⟩⟩
        · refine OW.cons (OP.no' rfl rfl hb41 rfl ?_)
          refine OW.cons (OP.no' rfl rfl hb41 rfl ?_)
          refine OW.cons (OP.no' rfl rfl hb41 rfl ?_)
          refine OW.cons (OP.val (v := (.bool false)) rfl (x_pickF' rfl hb41 rfl) ?_)
          refine OW.cons (OP.val (v := (.bool false)) rfl (x_assign) ?_)
          refine OW.nil ?_
          exact ⟨false, hm, ⟨rfl, hL⟩⟩
      · refine OW.cons (OP.no' rfl rfl hb35 rfl ?_)
        refine OW.cons (OP.no' rfl rfl hb35 rfl ?_)
        refine OW.cons (OP.no' rfl rfl hb35 rfl ?_)
        refine OW.cons (OP.no' rfl rfl hb35 rfl ?_)
        refine OW.cons (OP.no' rfl rfl hb35 rfl ?_)
        refine OW.cons (OP.val (v := (.bool false)) rfl (x_pickF' rfl hb35 rfl) ?_)
        refine OW.cons (OP.val (v := (.bool false)) rfl (x_move) ?_)
        refine OW.cons (OP.no' rfl rfl rfl rfl ?_)
        refine OW.cons (OP.no' rfl rfl rfl rfl ?_)
        refine OW.cons (OP.no' rfl rfl rfl rfl ?_)
        refine OW.cons (OP.val (v := (.bool false)) rfl (x_pickF' rfl rfl rfl) ?_)
        refine OW.cons (OP.val (v := (.bool false)) rfl (x_assign) ?_)
        refine OW.nil ?_
        exact ⟨false, hm, ⟨rfl, hL⟩⟩
    · refine OW.cons (OP.no' rfl rfl hb29 rfl ?_)
      refine OW.cons (OP.no' rfl rfl hb29 rfl ?_)
      refine OW.cons (OP.no' rfl rfl hb29 rfl ?_)
      refine OW.cons (OP.val (v := (.bool false)) rfl (x_pickF' rfl hb29 rfl) ?_)
      refine OW.cons (OP.val (v := (.bool false)) rfl (x_move) ?_)
      refine OW.cons (OP.no' rfl rfl rfl rfl ?_)
      refine OW.cons (OP.no' rfl rfl rfl rfl ?_)
      refine OW.cons (OP.no' rfl rfl rfl rfl ?_)
      refine OW.cons (OP.no' rfl rfl rfl rfl ?_)
      refine OW.cons (OP.no' rfl rfl rfl rfl ?_)
      refine OW.cons (OP.val (v := (.bool false)) rfl (x_pickF' rfl rfl rfl) ?_)
      refine OW.cons (OP.val (v := (.bool false)) rfl (x_move) ?_)
      refine OW.cons (OP.no' rfl rfl rfl rfl ?_)
      refine OW.cons (OP.no' rfl rfl rfl rfl ?_)
      refine OW.cons (OP.no' rfl rfl rfl rfl ?_)
      refine OW.cons (OP.val (v := (.bool false)) rfl (x_pickF' rfl rfl rfl) ?_)
      refine OW.cons (OP.val (v := (.bool false)) rfl (x_assign) ?_)
      refine OW.nil ?_
      exact ⟨false, hm, ⟨rfl, hL⟩⟩
  · intro s_j1 F21 wd22 hJ hm
    unfold M.impl_IsProgress_j1 at hm
    obtain ⟨f23, hL⟩ := hJ
    refine CW.ret ?_
    obtain rfl := Option.some.inj hm
    exact RR1 rfl f23 ⟨rfl, hL.fresh 1 rfl [] (by decide) (by decide) rfl⟩

theorem M.slices_Clone___impl_Rating_impl_Rating__ok (w0 : World) (a0 : List Rating) {v1 : Value} (h2 : rdL (· < w0.heap.size) w0 v1 a0) {r : (List Rating)} (hm : M.slices_Clone___impl_Rating_impl_Rating_ a0 = some r) :
    Calls Try.prog 83 #[v1] w0 fun e w' => ∃ (rv0 : Value) (rS0 : Nat → Prop), e = .returned rv0 ∧ Fresh w0 w' [Ent.own 61 rS0 rv0 r] := by
  unfold M.slices_Clone___impl_Rating_impl_Rating_ at hm
  refine calls_CW (args := [v1]) Try.func83 rfl rfl rfl ?_
  have hL := Hp.start w0
  refine CW.seq ?_
  refine CW.regionL ?_
  refine OW.cons (OP.val (v := (.slice none 0 0)) rfl (x_assign) ?_)
  refine OW.nil ?_
  have ⟨A9, c9, e9, _⟩ := h2
  refine CW.seq ?_
  refine CW.seq ?_
  refine CW.regionL ?_
  refine OW.cons (OP.val (v := v1) rfl (x_move) ?_)
  refine OW.cons (OP.val (v := .bool A9.isNone) rfl (x_eqNil Try.underlying30 e9 rfl) ?_)
  refine OW.nil ?_
  refine CW.cond (t := A9.isNone) rfl (fun hb => ?_) (fun hb => ?_)
  · refine CW.seq ?_
    refine CW.regionL ?_
    refine OW.cons (OP.val (v := (.slice none 0 0)) rfl (x_assign) ?_)
    refine OW.nil ?_
    refine CW.ret ?_
    have ha := rdL_isNone h2 e9 hb
    subst ha
    obtain ⟨_, hm⟩ := chkE hm
    obtain rfl := Option.some.inj hm
    have hL := hL.pushNil Rating 61
    exact RR1 rfl rfl ⟨.slice none 0 0, None_, rfl, hL.fresh 1 rfl [0] (by decide) (by decide) rfl⟩
  refine CW.skip ?_
  refine CW.seq ?_
  refine CW.regionL ?_
  refine OW.cons (S_lit ([] : List Rating) hL Try.underlying30 Try_T61 rfl (by decide) (by first | (simp [Instr.fill, madeCells, Value.cells, ev, upd, Flat.enc, Flat.sz]; done) | rfl | kernel_rfl) rfl rfl ?_)
  intro wd3 v4 S5 hL
  refine OW.cons (OP.val (v := v1) rfl (x_move) ?_)
  obtain ⟨hc9, hm⟩ := chkE hm
  refine OW.cons (S_append (ys := a0) hL 0 rfl Try.underlying30 Try_T61 rfl rfl rfl (hL.rdS 1 rfl h2) hc9 (by decide) rfl ?_)
  intro wd6 v7 S8 hL
  refine OW.cons (OP.val (v := v7) rfl (x_assign) ?_)
  refine OW.nil ?_
  refine CW.ret ?_
  obtain rfl := Option.some.inj hm
  exact RR1 rfl rfl ⟨v7, S8, rfl, hL.fresh 1 rfl [0] (by decide) (by decide) rfl⟩

theorem M.impl_progress_ok (w0 : World) (a0 : ProgressRules) (a1 : Int) (a2 : Int) {r : Int} (hm : M.impl_progress a0 a1 a2 = some r) :
    Calls Try.prog 69 #[(.agg #[(.int .i64 a0.Gain), (.int .i64 a0.Step), (.int .i64 a0.Low), (.int .i64 a0.High)]), (.int .i64 a1), (.int .i64 a2)] w0 fun e w' => e = .returned (.int .i64 r) ∧ Fresh w0 w' [] := by
  unfold M.impl_progress at hm
  refine calls_CW (args := [(.agg #[(.int .i64 a0.Gain), (.int .i64 a0.Step), (.int .i64 a0.Low), (.int .i64 a0.High)]), (.int .i64 a1), (.int .i64 a2)]) Try.func69 rfl rfl rfl ?_
  have hL := Hp.start w0
  refine CW.seq ?_
  refine CW.regionL ?_
  refine OW.cons (S_box (cs := #[(.int .i64 a0.Gain), (.int .i64 a0.Step), (.int .i64 a0.Low), (.int .i64 a0.High)]) hL rfl rfl rfl ?_)
  intro wd1 b2 hL
  refine OW.cons (OP.val (v := (.int .i64 0)) rfl (x_assign) ?_)
  refine OW.nil ?_
  refine CW.seq ?_
  refine CW.regionL ?_
  refine OW.cons (OP.val (v := (.pointer (some ⟨b2, 1, none⟩))) rfl (x_fieldAddr (fsz := 1) 0 1 1 Try.underlying46 rfl Try_T2 rfl rfl rfl) ?_)
  refine OW.cons (OP.val (v := (.int .i64 a0.Step)) rfl (x_load1 Try.underlying2 rfl rfl (hL.cellB 0 rfl rfl)) ?_)
  refine OW.cons (OP.val (v := (.int .i64 (w64 (0 - a0.Step)))) rfl (x_neg rfl) ?_)
  refine OW.cons (OP.val (v := (.pointer (some ⟨b2, 1, none⟩))) rfl (x_fieldAddr (fsz := 1) 0 1 1 Try.underlying46 rfl Try_T2 rfl rfl rfl) ?_)
  refine OW.cons (OP.val (v := (.int .i64 a0.Step)) rfl (x_load1 Try.underlying2 rfl rfl (hL.cellB 0 rfl rfl)) ?_)
  refine OW.cons (OP.val (v := (.pointer (some ⟨b2, 0, none⟩))) rfl (x_fieldAddr (fsz := 1) 0 0 0 Try.underlying46 rfl Try_T2 rfl rfl rfl) ?_)
  refine OW.cons (OP.val (v := (.int .i64 a0.Gain)) rfl (x_load1 Try.underlying2 rfl rfl (hL.cellB 0 rfl rfl)) ?_)
  refine OW.cons (OP.val (v := (.int .i64 a2)) rfl (x_move) ?_)
  refine OW.cons (OP.val (v := (.int .i64 a1)) rfl (x_move) ?_)
  refine OW.cons (OP.val (v := (.int .i64 (w64 (a2 - a1)))) rfl (x_sub rfl rfl) ?_)
  refine OW.cons (OP.val (v := (.int .i64 (w64 (a0.Gain * (w64 (a2 - a1)))))) rfl (x_mul rfl rfl) ?_)
  refine OW.cons (OP.val (v := (.int .i64 (w64 ((w64 (a0.Gain * (w64 (a2 - a1)))).tdiv 1000)))) rfl (x_quo rfl rfl (by decide)) ?_)
  refine OW.cons (OP.val (v := (.int .i64 (min a0.Step (w64 ((w64 (a0.Gain * (w64 (a2 - a1)))).tdiv 1000))))) rfl (x_min2 rfl rfl) ?_)
  refine OW.cons (OP.val (v := (.int .i64 (max (w64 (0 - a0.Step)) (min a0.Step (w64 ((w64 (a0.Gain * (w64 (a2 - a1)))).tdiv 1000)))))) rfl (x_max2 rfl rfl) ?_)
  refine OW.cons (OP.val (v := (.int .i64 (max (w64 (0 - a0.Step)) (min a0.Step (w64 ((w64 (a0.Gain * (w64 (a2 - a1)))).tdiv 1000)))))) rfl (x_assign) ?_)
  refine OW.nil ?_
  refine CW.seq ?_
  refine CW.regionL ?_
  refine OW.cons (OP.val (v := (.pointer (some ⟨b2, 2, none⟩))) rfl (x_fieldAddr (fsz := 1) 0 2 2 Try.underlying46 rfl Try_T2 rfl rfl rfl) ?_)
  refine OW.cons (OP.val (v := (.int .i64 a0.Low)) rfl (x_load1 Try.underlying2 rfl rfl (hL.cellB 0 rfl rfl)) ?_)
  refine OW.cons (OP.val (v := (.pointer (some ⟨b2, 3, none⟩))) rfl (x_fieldAddr (fsz := 1) 0 3 3 Try.underlying46 rfl Try_T2 rfl rfl rfl) ?_)
  refine OW.cons (OP.val (v := (.int .i64 a0.High)) rfl (x_load1 Try.underlying2 rfl rfl (hL.cellB 0 rfl rfl)) ?_)
  refine OW.cons (OP.val (v := (.int .i64 a1)) rfl (x_move) ?_)
  refine OW.cons (OP.val (v := (.int .i64 (max (w64 (0 - a0.Step)) (min a0.Step (w64 ((w64 (a0.Gain * (w64 (a2 - a1)))).tdiv 1000)))))) rfl (x_move) ?_)
  refine OW.cons (OP.val (v := (.int .i64 (w64 (a1 + (max (w64 (0 - a0.Step)) (min a0.Step (w64 ((w64 (a0.Gain * (w64 (a2 - a1)))).tdiv 1000)))))))) rfl (x_add rfl rfl) ?_)
  refine OW.cons (OP.val (v := (.int .i64 (min a0.High (w64 (a1 + (max (w64 (0 - a0.Step)) (min a0.Step (w64 ((w64 (a0.Gain * (w64 (a2 - a1)))).tdiv 1000))))))))) rfl (x_min2 rfl rfl) ?_)
  refine OW.cons (OP.val (v := (.int .i64 (max a0.Low (min a0.High (w64 (a1 + (max (w64 (0 - a0.Step)) (min a0.Step (w64 ((w64 (a0.Gain * (w64 (a2 - a1)))).tdiv 1000)))))))))) rfl (x_max2 rfl rfl) ?_)
  refine OW.cons (OP.val (v := (.int .i64 (max a0.Low (min a0.High (w64 (a1 + (max (w64 (0 - a0.Step)) (min a0.Step (w64 ((w64 (a0.Gain * (w64 (a2 - a1)))).tdiv 1000)))))))))) rfl (x_assign) ?_)
  refine OW.nil ?_
  refine CW.ret ?_
  obtain rfl := Option.some.inj hm
  exact RR1 rfl rfl ⟨rfl, hL.fresh 1 rfl [] (by decide) (by decide) rfl⟩

theorem M.impl_progressRace_ok (w0 : World) (a0 : ProgressRules) (a1 : List Finish) {v1 : Value} (h2 : rdL (· < w0.heap.size) w0 v1 a1) (a2 : List Rating) {v3 : Value} (h4 : rdL (· < w0.heap.size) w0 v3 a2) {r : (List Rating)} (hm : M.impl_progressRace a0 a1 a2 = some r) :
    Calls Try.prog 60 #[(.agg #[(.int .i64 a0.Gain), (.int .i64 a0.Step), (.int .i64 a0.Low), (.int .i64 a0.High)]), v1, v3] w0 fun e w' => ∃ (rv0 : Value) (rS0 : Nat → Prop), e = .returned rv0 ∧ Fresh w0 w' [Ent.own 61 rS0 rv0 r] := by
  unfold M.impl_progressRace at hm
  refine calls_CW (args := [(.agg #[(.int .i64 a0.Gain), (.int .i64 a0.Step), (.int .i64 a0.Low), (.int .i64 a0.High)]), v1, v3]) Try.func60 rfl rfl rfl ?_
  have hL := Hp.start w0
  refine CW.seq ?_
  refine CW.regionL ?_
  refine OW.cons (S_box (cs := #[(.int .i64 a0.Gain), (.int .i64 a0.Step), (.int .i64 a0.Low), (.int .i64 a0.High)]) hL rfl rfl rfl ?_)
  intro wd5 b6 hL
  refine OW.cons (OP.val (v := (.slice none 0 0)) rfl (x_assign) ?_)
  refine OW.nil ?_
  refine CW.seq ?_
  refine CW.regionL ?_
  refine OW.cons (OP.val (v := v3) rfl (x_move) ?_)
  obtain ⟨x7, hx8, hm⟩ := bndE hm
  refine OW.cons (OP.call rfl (x_call (vs := [v3]) Try_C83 ⟨rfl, trivial⟩) (M.slices_Clone___impl_Rating_impl_Rating__ok _ a2 (hL.rdS 1 rfl h4) hx8) ?_)
  rintro e11 wd12 ⟨v10, S9, rfl, hF13⟩
  refine ⟨_, rfl, ?_⟩
  have hL := hL.pushAll hF13
  simp only [lA, lB, lC, lD] at hL
  refine OW.cons (OP.val (v := v1) rfl (x_move) ?_)
  refine OW.cons (OP.val (v := v3) rfl (x_move) ?_)
  obtain ⟨x14, hx15, hm⟩ := bndE hm
  refine OW.cons (OP.call rfl (x_call (vs := [v1, v3]) Try_C52 ⟨rfl, rfl, trivial⟩) (M.impl_parTime_ok _ a1 (hL.rdS 2 rfl h2) a2 (hL.rdS 2 rfl h4) hx15) ?_)
  rintro e16 wd17 ⟨rfl, hF18⟩
  refine ⟨_, rfl, ?_⟩
  have hL := hL.pushAll hF18
  simp only [lA, lB, lC, lD] at hL
  refine OW.cons (OP.val (v := v10) rfl (x_assign) ?_)
  refine OW.cons (OP.val (v := (.int .i64 x14)) rfl (x_assign) ?_)
  refine OW.cons (OP.val (v := (.int .i64 0)) rfl (x_assign) ?_)
  refine OW.nil ?_
  refine CW.seq ?_
  refine CW.seq ?_
  refine CW.regionL ?_
  refine OW.cons (OP.val (v := v1) rfl (x_move) ?_)
  refine OW.cons (OP.val (v := (.int .i64 (a1.length : Int))) rfl (x_lenR Try.underlying28 rfl (hL.rdS 2 rfl h2)) ?_)
  refine OW.cons (OP.val (v := (.int .i64 0)) rfl (x_move) ?_)
  refine OW.nil ?_
  obtain ⟨o171, ho172, hm⟩ := bndE hm
  refine CW.loopB (fun (s_l1 : Int × Int) (F : Fr) (w : World) => F 1 = v1 ∧ F 3 = (.pointer (some ⟨b6, 0, none⟩)) ∧ F 7 = v10 ∧ F 8 = (.int .i64 x14) ∧ F 9 = (.int .i64 s_l1.1) ∧ F 19 = v1 ∧ F 20 = (.int .i64 (a1.length : Int)) ∧ F 21 = (.int .i64 s_l1.2) ∧ Hp w0 [Ent.own 61 S9 v10 x7, Ent.blk b6 46 #[(.int .i64 a0.Gain), (.int .i64 a0.Step), (.int .i64 a0.Low), (.int .i64 a0.High)], Ent.snap w0 w0.heap.size] w) (fun o => outc o (fun x => some x) (fun s => M.impl_progressRace_a1 a0 a1 x7 x14 s) = some r) ho172 hm ⟨rfl, rfl, rfl, rfl, rfl, rfl, rfl, rfl, hL⟩ ?_ ?_
  · intro s_l1 F173 wd174 hJ hm
    have hm := outcE hm
    have hm : M.impl_progressRace_a1 a0 a1 x7 x14 s_l1 = some r := hm
    unfold M.impl_progressRace_a1 at hm
    obtain ⟨f175, f176, f177, f178, f179, f180, f181, f182, hL⟩ := hJ
    refine CW.seq ?_
    refine CW.seq ?_
    refine CW.regionL ?_
    refine OW.cons (OP.val (v := v1) rfl (x_mv f175) ?_)
    refine OW.cons (OP.val (v := (.int .i64 (a1.length : Int))) rfl (x_lenR Try.underlying28 rfl (hL.rdS 2 rfl h2)) ?_)
    refine OW.cons (OP.val (v := (.int .i64 0)) rfl (x_move) ?_)
    refine OW.nil ?_
    obtain ⟨o1009, ho1010, hm⟩ := bndE hm
    refine CW.loopB (fun (s_l2 : (List Rating) × Int) (F : Fr) (w : World) => ∃ (S1006 : Nat → Prop), F 3 = (.pointer (some ⟨b6, 0, none⟩)) ∧ F 7 = v10 ∧ F 8 = (.int .i64 x14) ∧ F 9 = (.int .i64 s_l1.1) ∧ F 31 = v1 ∧ F 32 = (.int .i64 (a1.length : Int)) ∧ F 33 = (.int .i64 s_l2.2) ∧ Hp w0 [Ent.own 61 S1006 v10 s_l2.1, Ent.blk b6 46 #[(.int .i64 a0.Gain), (.int .i64 a0.Step), (.int .i64 a0.Low), (.int .i64 a0.High)], Ent.snap w0 w0.heap.size] w) (fun o => outc o (fun x => some x) (fun s => M.impl_progressRace_a2 s) = some r) ho1010 hm ⟨S9, f176, f177, f178, f179, rfl, rfl, rfl, hL⟩ ?_ ?_
    · intro s_l2 F1011 wd1012 hJ hm
      have hm := outcE hm
      have hm : M.impl_progressRace_a2 s_l2 = some r := hm
      unfold M.impl_progressRace_a2 at hm
      obtain ⟨S1006, f1013, f1014, f1015, f1016, f1017, f1018, f1019, hL⟩ := hJ
      refine CW.seq ?_
      refine CW.regionL ?_
      refine OW.cons (OP.val (v := v10) rfl (x_mv f1014) ?_)
      refine OW.cons (OP.val (v := v10) rfl (x_assign) ?_)
      refine OW.nil ?_
      refine CW.ret ?_
      obtain rfl := Option.some.inj hm
      exact RR1 rfl rfl ⟨v10, S1006, rfl, hL.fresh 2 rfl [0] (by decide) (by decide) rfl⟩
    · intro s_l2 F1020 wd1021 t1007 hJ hm hr1008
      unfold M.impl_progressRace_l2 at hm
      obtain ⟨S1006, f1022, f1023, f1024, f1025, f1026, f1027, f1028, hL⟩ := hJ
      refine CW.seq ?_
      refine CW.regionL ?_
      refine OW.cons (OP.val (v := (.bool (decide (s_l2.2 < (a1.length : Int))))) rfl (x_lss f1028 f1027) ?_)
      refine OW.nil ?_
      refine CW.seq ?_
      refine CW.condM (t := decide (s_l2.2 < (a1.length : Int))) rfl hm (fun hb1029 hm => ?_) (fun hb1029 hm => ?_)
      · refine CW.skip ?_
        refine CW.seqJ (fun (s_j1 : (List Rating)) (F : Fr) (w : World) => ∃ (S1230 : Nat → Prop), F 3 = (.pointer (some ⟨b6, 0, none⟩)) ∧ F 7 = v10 ∧ F 8 = (.int .i64 x14) ∧ F 9 = (.int .i64 s_l1.1) ∧ F 31 = v1 ∧ F 32 = (.int .i64 (a1.length : Int)) ∧ F 33 = (.int .i64 s_l2.2) ∧ Hp w0 [Ent.own 61 S1230 v10 s_j1, Ent.blk b6 46 #[(.int .i64 a0.Gain), (.int .i64 a0.Step), (.int .i64 a0.Low), (.int .i64 a0.High)], Ent.snap w0 w0.heap.size] w) (fun s_j1 => M.impl_progressRace_j1 s_l2 s_j1 = some t1007) ?_ ?_
        · refine CW.blockJ (fun (s_j2 : (List Rating)) (F : Fr) (w : World) => ∃ (S1335 : Nat → Prop), F 3 = (.pointer (some ⟨b6, 0, none⟩)) ∧ F 7 = v10 ∧ F 8 = (.int .i64 x14) ∧ F 9 = (.int .i64 s_l1.1) ∧ F 31 = v1 ∧ F 32 = (.int .i64 (a1.length : Int)) ∧ F 33 = (.int .i64 s_l2.2) ∧ Hp w0 [Ent.own 61 S1335 v10 s_j2, Ent.blk b6 46 #[(.int .i64 a0.Gain), (.int .i64 a0.Step), (.int .i64 a0.Low), (.int .i64 a0.High)], Ent.snap w0 w0.heap.size] w) (fun s_j2 => M.impl_progressRace_j2 s_l2 s_j2 = some t1007) ?_ ?_
          · refine CW.seq ?_
            refine CW.regionL ?_
            refine OW.cons (OP.val (v := (.int .i64 s_l2.2)) rfl (x_mv f1028) ?_)
            obtain ⟨x1345, ha1346, hm⟩ := bndE hm
            obtain ⟨hz1347, ha1351⟩ := idxE ha1346
            obtain ⟨b1348, q1349, hix1350⟩ := rdL_ix (hL.rdS 2 rfl h2) hz1347 ha1351
            refine OW.cons (OP.val (v := (.pointer (some ⟨b1348, q1349, none⟩))) rfl (x_ix Try.underlying28 Try_T56 f1026 f1028 hix1350) ?_)
            refine OW.cons (OP.val (v := (.agg #[(.int .i64 x1345.Boat), (.int .i64 x1345.Code), (.int .i64 x1345.Time)])) rfl (x_loadN (cs := [(.int .i64 x1345.Boat), (.int .i64 x1345.Code), (.int .i64 x1345.Time)]) Try.underlying56 Try_T56 rfl rfl (rdF_cells (hL.rdS 2 rfl h2) hix1350 ha1351)) ?_)
            refine OW.cons (S_alloc (cs := #[(.int .i64 0), (.int .i64 0), (.int .i64 0)]) hL Try_T56 rfl rfl ?_)
            intro wd1352 b1353 hL
            refine OW.cons (OP.val (v := (.int .i64 s_l2.2)) rfl (x_assign) ?_)
            refine OW.cons (S_storeN (l := [(.int .i64 x1345.Boat), (.int .i64 x1345.Code), (.int .i64 x1345.Time)]) (cs' := #[(.int .i64 x1345.Boat), (.int .i64 x1345.Code), (.int .i64 x1345.Time)]) hL 0 rfl Try_T56 rfl rfl (List.forall_mem_cons.2 ⟨rfl, (List.forall_mem_cons.2 ⟨rfl, (List.forall_mem_cons.2 ⟨rfl, (fun _ h => by cases h)⟩)⟩)⟩) rfl (Nat.le_of_ble_eq_true rfl) rfl ?_)
            intro wd1354 hL
            refine OW.nil ?_
            refine CW.seqJ (fun (s_j3 : Bool) (F : Fr) (w : World) => F 3 = (.pointer (some ⟨b6, 0, none⟩)) ∧ F 7 = v10 ∧ F 8 = (.int .i64 x14) ∧ F 9 = (.int .i64 s_l1.1) ∧ F 12 = (.int .i64 s_l2.2) ∧ F 13 = (.pointer (some ⟨b1353, 0, none⟩)) ∧ F 31 = v1 ∧ F 32 = (.int .i64 (a1.length : Int)) ∧ F 33 = (.int .i64 s_l2.2) ∧ F 44 = (.bool s_j3) ∧ Hp w0 [Ent.blk b1353 56 #[(.int .i64 x1345.Boat), (.int .i64 x1345.Code), (.int .i64 x1345.Time)], Ent.own 61 S1006 v10 s_l2.1, Ent.blk b6 46 #[(.int .i64 a0.Gain), (.int .i64 a0.Step), (.int .i64 a0.Low), (.int .i64 a0.High)], Ent.snap w0 w0.heap.size] w) (fun s_j3 => M.impl_progressRace_j3 a0 x14 s_l2 x1345 s_j3 = some t1007) ?_ ?_
            · refine CW.regionL ?_
              refine OW.cons (OP.val (v := (.int .i64 s_l1.1)) rfl (x_mv f1025) ?_)
              refine OW.cons (OP.val (v := (.bool (decide (1 < s_l1.1)))) rfl (x_gtr rfl rfl) ?_)
              refine OW.cons (OP.val (v := (.bool (decide (1 < s_l1.1)))) rfl (x_move) ?_)
              refine ifB_elim hm (fun hb1439 hm => ?_) (fun hb1439 hm => ?_)
              · refine OW.cons (OP.yes' rfl rfl hb1439 (OP.val (v := (.pointer (some ⟨b1353, 1, none⟩))) rfl (x_fieldAddr (fsz := 1) 0 1 1 Try.underlying56 rfl Try_T2 rfl rfl rfl) ?_))
                refine OW.cons (OP.yes' rfl rfl hb1439 (OP.val (v := (.int .i64 x1345.Code)) rfl (x_load1 Try.underlying2 rfl rfl (hL.cellB 0 rfl rfl)) ?_))
                refine OW.cons (OP.yes' rfl rfl hb1439 (OP.val (v := (.bool (x1345.Code == 0))) rfl (x_eql rfl rfl) ?_))
                refine OW.cons (OP.val (v := (.bool (x1345.Code == 0))) rfl (x_pickT' rfl hb1439 rfl) ?_)
                refine OW.nil ?_
                exact ⟨x1345.Code == 0, hm, ⟨f1022, f1023, f1024, f1025, rfl, rfl, f1026, f1027, f1028, rfl, hL⟩⟩
              · refine OW.cons (OP.no' rfl rfl hb1439 rfl ?_)
                refine OW.cons (OP.no' rfl rfl hb1439 rfl ?_)
                refine OW.cons (OP.no' rfl rfl hb1439 rfl ?_)
                refine OW.cons (OP.val (v := (.bool false)) rfl (x_pickF' rfl hb1439 rfl) ?_)
                refine OW.nil ?_
                exact ⟨false, hm, ⟨f1022, f1023, f1024, f1025, rfl, rfl, f1026, f1027, f1028, rfl, hL⟩⟩
            · intro s_j3 F1356 wd1357 hJ hm
              unfold M.impl_progressRace_j3 at hm
              obtain ⟨f1358, f1359, f1360, f1361, f1362, f1363, f1364, f1365, f1366, f1367, hL⟩ := hJ
              refine CW.condM (t := s_j3) f1367 hm (fun hb1368 hm => ?_) (fun hb1368 hm => ?_)
              · refine CW.drawH (fun w' => Hp w0 [Ent.blk b1353 56 #[(.int .i64 x1345.Boat), (.int .i64 x1345.Code), (.int .i64 x1345.Time)], Ent.blk b6 46 #[(.int .i64 a0.Gain), (.int .i64 a0.Step), (.int .i64 a0.Low), (.int .i64 a0.High)], Ent.snap w0 w0.heap.size] w') Try_mixed ?_
                have hL := hL.call (Mod.drew _)
                have hS := (hL.sel [0, 2, 3] (by decide) rfl)
                refine DH.take 0 rfl (by kernel_rfl) (by kernel_rfl) (by kernel_rfl) rfl rfl hS (YH.val (v := v10) (fun w' hS' => x_mv f1359)) ?_
                have hS := (hL.sel [0, 2, 3] (by decide) rfl)
                refine DH.take 1 rfl (by kernel_rfl) (by kernel_rfl) (by kernel_rfl) rfl rfl hS (YH.val (v := (.int .i64 s_l2.2)) (fun w' hS' => x_mv f1362)) ?_
                have hS := (hL.sel [0, 2, 3] (by decide) rfl)
                refine DH.take 2 rfl (by kernel_rfl) (by kernel_rfl) (by kernel_rfl) rfl rfl hS (YH.val (v := (.agg #[(.int .i64 a0.Gain), (.int .i64 a0.Step), (.int .i64 a0.Low), (.int .i64 a0.High)])) (fun w' hS' => x_loadN (cs := [(.int .i64 a0.Gain), (.int .i64 a0.Step), (.int .i64 a0.Low), (.int .i64 a0.High)]) Try.underlying46 Try_T46 rfl f1358 (hS'.cellsB 1 rfl (o := 0) (l := [(.int .i64 a0.Gain), (.int .i64 a0.Step), (.int .i64 a0.Low), (.int .i64 a0.High)]) (by intro j u hj; exact (by simpa using hj))))) ?_
                have hS := (hL.sel [0, 2, 3] (by decide) rfl)
                refine DH.take 3 rfl (by kernel_rfl) (by kernel_rfl) (by kernel_rfl) rfl rfl hS (YH.val (v := v10) (fun w' hS' => x_mv f1359)) ?_
                have hS := (hL.sel [0, 2, 3] (by decide) rfl)
                refine DH.take 4 rfl (by kernel_rfl) (by kernel_rfl) (by kernel_rfl) rfl rfl hS (YH.val (v := (.int .i64 s_l2.2)) (fun w' hS' => x_mv f1362)) ?_
                have hS := (hL.sel [0, 2, 3] (by decide) rfl)
                obtain ⟨x1394, ha1395, hm⟩ := bndE hm
                obtain ⟨hz1396, ha1400⟩ := idxE ha1395
                obtain ⟨b1397, q1398, hix1399⟩ := rdL_ix (hL.rdO 1 rfl) hz1396 ha1400
                refine DH.take 5 rfl (by kernel_rfl) (by kernel_rfl) (by kernel_rfl) rfl rfl hS (YH.val (v := (.pointer (some ⟨b1397, q1398, none⟩))) (fun w' hS' => x_ix Try.underlying30 Try_T61 rfl rfl hix1399)) ?_
                have hS := (hL.sel [0, 2, 3] (by decide) rfl)
                refine DH.take 6 rfl (by kernel_rfl) (by kernel_rfl) (by kernel_rfl) rfl rfl hS (YH.val (v := (.pointer (some ⟨b1397, q1398 + 1, none⟩))) (fun w' hS' => x_fieldAddr (fsz := 1) q1398 1 (q1398 + 1) Try.underlying61 rfl Try_T2 rfl rfl rfl)) ?_
                have hS := (hL.sel [0, 2, 3] (by decide) rfl)
                refine DH.take 8 rfl (by kernel_rfl) (by kernel_rfl) (by kernel_rfl) rfl rfl hS (YH.val (v := (.int .i64 x14)) (fun w' hS' => x_mv f1360)) ?_
                have hS := (hL.sel [0, 2, 3] (by decide) rfl)
                refine DH.take 9 rfl (by kernel_rfl) (by kernel_rfl) (by kernel_rfl) rfl rfl hS (YH.val (v := (.pointer (some ⟨b1353, 2, none⟩))) (fun w' hS' => x_fieldAddr (fsz := 1) 0 2 2 Try.underlying56 rfl Try_T2 rfl f1363 rfl)) ?_
                have hS := (hL.sel [0, 2, 3] (by decide) rfl)
                refine DH.take 10 rfl (by kernel_rfl) (by kernel_rfl) (by kernel_rfl) rfl rfl hS (YH.val (v := (.int .i64 x1345.Time)) (fun w' hS' => x_load1 Try.underlying2 rfl rfl (hS'.cellB 0 rfl rfl))) ?_
                refine DH.all (rs := [7, 11]) (by kernel_rfl) (by simp) ?_
                intro i1401 hi1402
                simp only [List.mem_cons, List.not_mem_nil, or_false] at hi1402
                rcases hi1402 with rfl | rfl
                · refine ⟨_, rfl, ?_⟩
                  refine OP.val (v := (.int .i64 x1394.Value)) rfl (x_load1 Try.underlying2 rfl rfl (rdF_cells (hL.rdO 1 rfl) hix1399 ha1400 1 _ rfl)) ?_
                  refine ⟨(hL.sel [0, 2, 3] (by decide) rfl), ?_⟩
                  obtain ⟨x1403, hx1404, hm⟩ := bndE hm
                  refine DH.only 11 rfl (by kernel_rfl) (OP.call rfl (x_call (vs := [(.int .i64 x14), (.int .i64 x1345.Time)]) Try_C56 ⟨rfl, rfl, trivial⟩) (M.impl_parFactor_ok _ x14 x1345.Time hx1404) ?_)
                  rintro e1405 wd1406 ⟨rfl, hF1407⟩
                  refine ⟨_, rfl, ?_⟩
                  have hL := hL.pushAll hF1407
                  simp only [lA, lB, lC, lD] at hL
                  refine ⟨(hL.sel [0, 2, 3] (by decide) rfl), ?_⟩
                  obtain ⟨x1408, hx1409, hm⟩ := bndE hm
                  refine DH.only 12 rfl (by kernel_rfl) (OP.call rfl (x_call (vs := [(.agg #[(.int .i64 a0.Gain), (.int .i64 a0.Step), (.int .i64 a0.Low), (.int .i64 a0.High)]), (.int .i64 x1394.Value), (.int .i64 x1403)]) Try_C69 ⟨rfl, rfl, rfl, trivial⟩) (M.impl_progress_ok _ a0 x1394.Value x1403 hx1409) ?_)
                  rintro e1410 wd1411 ⟨rfl, hF1412⟩
                  refine ⟨_, rfl, ?_⟩
                  have hL := hL.pushAll hF1412
                  simp only [lA, lB, lC, lD] at hL
                  refine ⟨(hL.sel [0, 2, 3] (by decide) rfl), ?_⟩
                  have hS := (hL.sel [0, 2, 3] (by decide) rfl)
                  obtain ⟨x1413, ha1414, hm⟩ := bndE hm
                  obtain ⟨hz1415, ha1419⟩ := idxE ha1414
                  obtain ⟨b1416, q1417, hix1418⟩ := rdL_ix (hL.rdO 1 rfl) hz1415 ha1419
                  refine DH.take 13 rfl (by kernel_rfl) (by kernel_rfl) (by kernel_rfl) rfl rfl hS (YH.val (v := (.pointer (some ⟨b1416, q1417, none⟩))) (fun w' hS' => x_ix Try.underlying30 Try_T61 rfl rfl hix1418)) ?_
                  have hS := (hL.sel [0, 2, 3] (by decide) rfl)
                  refine DH.take 14 rfl (by kernel_rfl) (by kernel_rfl) (by kernel_rfl) rfl rfl hS (YH.val (v := (.pointer (some ⟨b1416, q1417 + 1, none⟩))) (fun w' hS' => x_fieldAddr (fsz := 1) q1417 1 (q1417 + 1) Try.underlying61 rfl Try_T2 rfl rfl rfl)) ?_
                  refine DH.only 15 rfl (by kernel_rfl) (S_storeX (j := 1) (Rating.mk x1413.Boat x1408) hL 1 rfl Try_T2 hix1418 ha1419 rfl rfl rfl rfl rfl rfl ?_)
                  intro wd1420 hL
                  refine ⟨(hL.sel [0, 2, 3] (by decide) rfl), ?_⟩
                  refine DH.done (by kernel_rfl) ?_
                  have hL := hL.sel [1, 2, 3] (by decide) rfl
                  exact ⟨s_l2.1.set (s_l2.2 : Int).toNat (Rating.mk x1413.Boat x1408), hm, ⟨S1006, f1358, f1359, f1360, f1361, f1364, f1365, f1366, hL⟩⟩
                · refine ⟨_, rfl, ?_⟩
                  obtain ⟨x1421, hx1422, hm⟩ := bndE hm
                  refine OP.call rfl (x_call (vs := [(.int .i64 x14), (.int .i64 x1345.Time)]) Try_C56 ⟨rfl, rfl, trivial⟩) (M.impl_parFactor_ok _ x14 x1345.Time hx1422) ?_
                  rintro e1423 wd1424 ⟨rfl, hF1425⟩
                  refine ⟨_, rfl, ?_⟩
                  have hL := hL.pushAll hF1425
                  simp only [lA, lB, lC, lD] at hL
                  refine ⟨(hL.sel [0, 2, 3] (by decide) rfl), ?_⟩
                  refine DH.only 7 rfl (by kernel_rfl) (OP.val (v := (.int .i64 x1394.Value)) rfl (x_load1 Try.underlying2 rfl rfl (rdF_cells (hL.rdO 1 rfl) hix1399 ha1400 1 _ rfl)) ?_)
                  refine ⟨(hL.sel [0, 2, 3] (by decide) rfl), ?_⟩
                  obtain ⟨x1426, hx1427, hm⟩ := bndE hm
                  refine DH.only 12 rfl (by kernel_rfl) (OP.call rfl (x_call (vs := [(.agg #[(.int .i64 a0.Gain), (.int .i64 a0.Step), (.int .i64 a0.Low), (.int .i64 a0.High)]), (.int .i64 x1394.Value), (.int .i64 x1421)]) Try_C69 ⟨rfl, rfl, rfl, trivial⟩) (M.impl_progress_ok _ a0 x1394.Value x1421 hx1427) ?_)
                  rintro e1428 wd1429 ⟨rfl, hF1430⟩
                  refine ⟨_, rfl, ?_⟩
                  have hL := hL.pushAll hF1430
                  simp only [lA, lB, lC, lD] at hL
                  refine ⟨(hL.sel [0, 2, 3] (by decide) rfl), ?_⟩
                  have hS := (hL.sel [0, 2, 3] (by decide) rfl)
                  obtain ⟨x1431, ha1432, hm⟩ := bndE hm
                  obtain ⟨hz1433, ha1437⟩ := idxE ha1432
                  obtain ⟨b1434, q1435, hix1436⟩ := rdL_ix (hL.rdO 1 rfl) hz1433 ha1437
                  refine DH.take 13 rfl (by kernel_rfl) (by kernel_rfl) (by kernel_rfl) rfl rfl hS (YH.val (v := (.pointer (some ⟨b1434, q1435, none⟩))) (fun w' hS' => x_ix Try.underlying30 Try_T61 rfl rfl hix1436)) ?_
                  have hS := (hL.sel [0, 2, 3] (by decide) rfl)
                  refine DH.take 14 rfl (by kernel_rfl) (by kernel_rfl) (by kernel_rfl) rfl rfl hS (YH.val (v := (.pointer (some ⟨b1434, q1435 + 1, none⟩))) (fun w' hS' => x_fieldAddr (fsz := 1) q1435 1 (q1435 + 1) Try.underlying61 rfl Try_T2 rfl rfl rfl)) ?_
                  refine DH.only 15 rfl (by kernel_rfl) (S_storeX (j := 1) (Rating.mk x1431.Boat x1426) hL 1 rfl Try_T2 hix1436 ha1437 rfl rfl rfl rfl rfl rfl ?_)
                  intro wd1438 hL
                  refine ⟨(hL.sel [0, 2, 3] (by decide) rfl), ?_⟩
                  refine DH.done (by kernel_rfl) ?_
                  have hL := hL.sel [1, 2, 3] (by decide) rfl
                  exact ⟨s_l2.1.set (s_l2.2 : Int).toNat (Rating.mk x1431.Boat x1426), hm, ⟨S1006, f1358, f1359, f1360, f1361, f1364, f1365, f1366, hL⟩⟩
              · refine CW.skip ?_
                have hL := hL.sel [1, 2, 3] (by decide) rfl
                exact ⟨s_l2.1, hm, ⟨S1006, f1358, f1359, f1360, f1361, f1364, f1365, f1366, hL⟩⟩
          · intro s_j2 F1336 wd1337 hJ hm
            unfold M.impl_progressRace_j2 at hm
            obtain ⟨S1335, f1338, f1339, f1340, f1341, f1342, f1343, f1344, hL⟩ := hJ
            exact ⟨s_j2, hm, ⟨S1335, f1338, f1339, f1340, f1341, f1342, f1343, f1344, hL⟩⟩
        · intro s_j1 F1231 wd1232 hJ hm
          unfold M.impl_progressRace_j1 at hm
          obtain ⟨S1230, f1233, f1234, f1235, f1236, f1237, f1238, f1239, hL⟩ := hJ
          refine CW.regionL ?_
          refine OW.cons (OP.val (v := (.int .i64 (w64 (s_l2.2 + 1)))) rfl (x_add f1239 rfl) ?_)
          refine OW.cons (OP.val (v := (.int .i64 (w64 (s_l2.2 + 1)))) rfl (x_move) ?_)
          refine OW.nil ?_
          obtain rfl := Option.some.inj hm
          exact ⟨_, rfl, ⟨S1230, f1233, f1234, f1235, f1236, f1237, f1238, rfl, hL⟩⟩
      · refine CW.exit ?_
        refine XJ.hit ?_
        obtain rfl := Option.some.inj hm
        exact ⟨_, rfl, ⟨S1006, f1022, f1023, f1024, f1025, f1026, f1027, f1028, hL⟩⟩
  · intro s_l1 F1440 wd1441 t169 hJ hm hr170
    unfold M.impl_progressRace_l1 at hm
    obtain ⟨f1442, f1443, f1444, f1445, f1446, f1447, f1448, f1449, hL⟩ := hJ
    refine CW.seq ?_
    refine CW.regionL ?_
    refine OW.cons (OP.val (v := (.bool (decide (s_l1.2 < (a1.length : Int))))) rfl (x_lss f1449 f1448) ?_)
    refine OW.nil ?_
    refine CW.seq ?_
    refine CW.condM (t := decide (s_l1.2 < (a1.length : Int))) rfl hm (fun hb1450 hm => ?_) (fun hb1450 hm => ?_)
    · refine CW.skip ?_
      refine CW.seqJ (fun (s_j4 : Int) (F : Fr) (w : World) => F 1 = v1 ∧ F 3 = (.pointer (some ⟨b6, 0, none⟩)) ∧ F 7 = v10 ∧ F 8 = (.int .i64 x14) ∧ F 9 = (.int .i64 s_j4) ∧ F 19 = v1 ∧ F 20 = (.int .i64 (a1.length : Int)) ∧ F 21 = (.int .i64 s_l1.2) ∧ Hp w0 [Ent.own 61 S9 v10 x7, Ent.blk b6 46 #[(.int .i64 a0.Gain), (.int .i64 a0.Step), (.int .i64 a0.Low), (.int .i64 a0.High)], Ent.snap w0 w0.heap.size] w) (fun s_j4 => M.impl_progressRace_j4 s_l1 s_j4 = some t169) ?_ ?_
      · refine CW.blockJ (fun (s_j5 : Int) (F : Fr) (w : World) => F 1 = v1 ∧ F 3 = (.pointer (some ⟨b6, 0, none⟩)) ∧ F 7 = v10 ∧ F 8 = (.int .i64 x14) ∧ F 9 = (.int .i64 s_j5) ∧ F 19 = v1 ∧ F 20 = (.int .i64 (a1.length : Int)) ∧ F 21 = (.int .i64 s_l1.2) ∧ Hp w0 [Ent.own 61 S9 v10 x7, Ent.blk b6 46 #[(.int .i64 a0.Gain), (.int .i64 a0.Step), (.int .i64 a0.Low), (.int .i64 a0.High)], Ent.snap w0 w0.heap.size] w) (fun s_j5 => M.impl_progressRace_j5 s_l1 s_j5 = some t169) ?_ ?_
        · refine CW.seq ?_
          refine CW.regionL ?_
          obtain ⟨x1514, ha1515, hm⟩ := bndE hm
          obtain ⟨hz1516, ha1520⟩ := idxE ha1515
          obtain ⟨b1517, q1518, hix1519⟩ := rdL_ix (hL.rdS 2 rfl h2) hz1516 ha1520
          refine OW.cons (OP.val (v := (.pointer (some ⟨b1517, q1518, none⟩))) rfl (x_ix Try.underlying28 Try_T56 f1447 f1449 hix1519) ?_)
          refine OW.cons (OP.val (v := (.agg #[(.int .i64 x1514.Boat), (.int .i64 x1514.Code), (.int .i64 x1514.Time)])) rfl (x_loadN (cs := [(.int .i64 x1514.Boat), (.int .i64 x1514.Code), (.int .i64 x1514.Time)]) Try.underlying56 Try_T56 rfl rfl (rdF_cells (hL.rdS 2 rfl h2) hix1519 ha1520)) ?_)
          refine OW.cons (S_alloc (cs := #[(.int .i64 0), (.int .i64 0), (.int .i64 0)]) hL Try_T56 rfl rfl ?_)
          intro wd1521 b1522 hL
          refine OW.cons (S_storeN (l := [(.int .i64 x1514.Boat), (.int .i64 x1514.Code), (.int .i64 x1514.Time)]) (cs' := #[(.int .i64 x1514.Boat), (.int .i64 x1514.Code), (.int .i64 x1514.Time)]) hL 0 rfl Try_T56 rfl rfl (List.forall_mem_cons.2 ⟨rfl, (List.forall_mem_cons.2 ⟨rfl, (List.forall_mem_cons.2 ⟨rfl, (fun _ h => by cases h)⟩)⟩)⟩) rfl (Nat.le_of_ble_eq_true rfl) rfl ?_)
          intro wd1523 hL
          refine OW.nil ?_
          refine CW.seq ?_
          refine CW.regionL ?_
          refine OW.cons (OP.val (v := (.pointer (some ⟨b1522, 1, none⟩))) rfl (x_fieldAddr (fsz := 1) 0 1 1 Try.underlying56 rfl Try_T2 rfl rfl rfl) ?_)
          refine OW.cons (OP.val (v := (.int .i64 x1514.Code)) rfl (x_load1 Try.underlying2 rfl rfl (hL.cellB 0 rfl rfl)) ?_)
          refine OW.cons (OP.val (v := (.bool (x1514.Code == 0))) rfl (x_eql rfl rfl) ?_)
          refine OW.nil ?_
          refine CW.condM (t := x1514.Code == 0) rfl hm (fun hb1524 hm => ?_) (fun hb1524 hm => ?_)
          · refine CW.regionL ?_
            refine OW.cons (OP.val (v := (.int .i64 s_l1.1)) rfl (x_mv f1446) ?_)
            refine OW.cons (OP.val (v := (.int .i64 (w64 (s_l1.1 + 1)))) rfl (x_add rfl rfl) ?_)
            refine OW.cons (OP.val (v := (.int .i64 (w64 (s_l1.1 + 1)))) rfl (x_assign) ?_)
            refine OW.nil ?_
            have hL := hL.sel [1, 2, 3] (by decide) rfl
            exact ⟨w64 (s_l1.1 + 1), hm, ⟨f1442, f1443, f1444, f1445, rfl, f1447, f1448, f1449, hL⟩⟩
          · refine CW.skip ?_
            have hL := hL.sel [1, 2, 3] (by decide) rfl
            exact ⟨s_l1.1, hm, ⟨f1442, f1443, f1444, f1445, f1446, f1447, f1448, f1449, hL⟩⟩
        · intro s_j5 F1504 wd1505 hJ hm
          unfold M.impl_progressRace_j5 at hm
          obtain ⟨f1506, f1507, f1508, f1509, f1510, f1511, f1512, f1513, hL⟩ := hJ
          exact ⟨s_j5, hm, ⟨f1506, f1507, f1508, f1509, f1510, f1511, f1512, f1513, hL⟩⟩
      · intro s_j4 F1483 wd1484 hJ hm
        unfold M.impl_progressRace_j4 at hm
        obtain ⟨f1485, f1486, f1487, f1488, f1489, f1490, f1491, f1492, hL⟩ := hJ
        refine CW.regionL ?_
        refine OW.cons (OP.val (v := (.int .i64 (w64 (s_l1.2 + 1)))) rfl (x_add f1492 rfl) ?_)
        refine OW.cons (OP.val (v := (.int .i64 (w64 (s_l1.2 + 1)))) rfl (x_move) ?_)
        refine OW.nil ?_
        obtain rfl := Option.some.inj hm
        exact ⟨_, rfl, ⟨f1485, f1486, f1487, f1488, f1489, f1490, f1491, rfl, hL⟩⟩
    · refine CW.exit ?_
      refine XJ.hit ?_
      obtain rfl := Option.some.inj hm
      exact ⟨_, rfl, ⟨f1442, f1443, f1444, f1445, f1446, f1447, f1448, f1449, hL⟩⟩

theorem M.laws_big_ok (w0 : World) (a0 : List UInt8) {v1 : Value} (h2 : rdL (· < w0.heap.size) w0 v1 a0) {r : Bool} (hm : M.laws_big a0 = some r) :
    Calls Try.prog 30 #[v1] w0 fun e w' => e = .returned (.bool r) ∧ Fresh w0 w' [] := by
  unfold M.laws_big at hm
  refine calls_CW (args := [v1]) Try.func30 rfl rfl rfl ?_
  have hL := Hp.start w0
  refine CW.seq ?_
  refine CW.regionL ?_
  refine OW.cons (OP.val (v := (.bool false)) rfl (x_assign) ?_)
  refine OW.nil ?_
  refine CW.seq ?_
  refine CW.regionL ?_
  refine OW.cons (OP.val (v := v1) rfl (x_move) ?_)
  refine OW.cons (OP.val (v := (.int .i64 (a0.length : Int))) rfl (x_lenR Try.underlying49 rfl (hL.rdS 0 rfl h2)) ?_)
  refine OW.cons (OP.val (v := (.bool (decide (4096 < (a0.length : Int))))) rfl (x_gtr rfl rfl) ?_)
  refine OW.cons (OP.val (v := (.bool (decide (4096 < (a0.length : Int))))) rfl (x_assign) ?_)
  refine OW.nil ?_
  refine CW.ret ?_
  obtain rfl := Option.some.inj hm
  exact RR1 rfl rfl ⟨rfl, hL.fresh 0 rfl [] (by decide) (by decide) rfl⟩

theorem M.spec_l01From_ok (w0 : World) (a0 : List UInt8) {v1 : Value} (h2 : rdL (· < w0.heap.size) w0 v1 a0) {r : (Int × Int)} (hm : M.spec_l01From a0 = some r) :
    Calls Try.prog 63 #[v1] w0 fun e w' => ∃ rb : Nat, e = .returned (.pointer (some ⟨rb, 0, none⟩)) ∧ Fresh w0 w' [Ent.blk rb 111 #[v1, .int .i64 r.1, .int .i64 r.2]] := by
  unfold M.spec_l01From at hm
  refine calls_CW (args := [v1]) Try.func63 rfl rfl rfl ?_
  have hL := Hp.start w0
  refine CW.seq ?_
  refine CW.regionL ?_
  refine OW.cons (OP.val (v := (.pointer none)) rfl (x_assign) ?_)
  refine OW.nil ?_
  refine CW.seq ?_
  refine CW.regionL ?_
  refine OW.cons (OP.val (v := v1) rfl (x_move) ?_)
  refine OW.cons (OP.val (v := (.agg #[v1, (.int .i64 0), (.int .i64 61657)])) rfl (x_build Try_B111 (ps := [(0, v1), (2, (.int .i64 61657))]) ⟨⟨rfl, rfl⟩, ⟨rfl, rfl⟩, trivial⟩ (by simp [Instr.fill, cells_int, cells_bool, cells_string, cells_agg, cells_slice, cells_pointer, (rdL_cells (hL.rdS 0 rfl h2))])) ?_)
  refine OW.cons (S_box (cs := #[v1, (.int .i64 0), (.int .i64 61657)]) hL rfl rfl rfl ?_)
  intro wd3 b4 hL
  refine OW.cons (OP.val (v := (.pointer (some ⟨b4, 0, none⟩))) rfl (x_assign) ?_)
  refine OW.nil ?_
  refine CW.seq ?_
  refine CW.seq ?_
  refine CW.regionL ?_
  refine OW.cons (OP.val (v := (.int .i64 0)) rfl (x_assign) ?_)
  refine OW.nil ?_
  obtain ⟨o57, ho58, hm⟩ := bndE hm
  refine CW.loopB (fun (s_l1 : Int × Int) (F : Fr) (w : World) => F 0 = v1 ∧ F 3 = (.pointer (some ⟨b4, 0, none⟩)) ∧ F 4 = (.int .i64 s_l1.2) ∧ Hp w0 [Ent.blk b4 111 #[v1, (.int .i64 0), (.int .i64 s_l1.1)], Ent.snap w0 w0.heap.size] w) (fun o => outc o (fun x => some x) (fun s => M.spec_l01From_a1 s) = some r) ho58 hm ⟨rfl, rfl, rfl, hL⟩ ?_ ?_
  · intro s_l1 F59 wd60 hJ hm
    have hm := outcE hm
    have hm : M.spec_l01From_a1 s_l1 = some r := hm
    unfold M.spec_l01From_a1 at hm
    obtain ⟨f61, f62, f63, hL⟩ := hJ
    refine CW.seq ?_
    refine CW.regionL ?_
    refine OW.cons (OP.val (v := (.pointer (some ⟨b4, 0, none⟩))) rfl (x_mv f62) ?_)
    refine OW.cons (OP.val (v := (.pointer (some ⟨b4, 0, none⟩))) rfl (x_assign) ?_)
    refine OW.nil ?_
    refine CW.ret ?_
    obtain rfl := Option.some.inj hm
    exact RR1 rfl rfl ⟨b4, rfl, hL.fresh 1 rfl [0] (by decide) (by decide) rfl⟩
  · intro s_l1 F64 wd65 t55 hJ hm hr56
    unfold M.spec_l01From_l1 at hm
    obtain ⟨f66, f67, f68, hL⟩ := hJ
    refine CW.seq ?_
    refine CW.seqJ (fun (s_j1 : Bool) (F : Fr) (w : World) => F 0 = v1 ∧ F 3 = (.pointer (some ⟨b4, 0, none⟩)) ∧ F 4 = (.int .i64 s_l1.2) ∧ F 15 = (.bool s_j1) ∧ Hp w0 [Ent.blk b4 111 #[v1, (.int .i64 0), (.int .i64 s_l1.1)], Ent.snap w0 w0.heap.size] w) (fun s_j1 => M.spec_l01From_j1 a0 s_l1 s_j1 = some t55) ?_ ?_
    · refine CW.regionL ?_
      refine OW.cons (OP.val (v := (.int .i64 s_l1.2)) rfl (x_mv f68) ?_)
      refine OW.cons (OP.val (v := v1) rfl (x_mv f66) ?_)
      refine OW.cons (OP.val (v := (.int .i64 (a0.length : Int))) rfl (x_lenR Try.underlying49 rfl (hL.rdS 1 rfl h2)) ?_)
      refine OW.cons (OP.val (v := (.bool (decide (s_l1.2 < (a0.length : Int))))) rfl (x_lss rfl rfl) ?_)
      refine OW.cons (OP.val (v := (.bool (decide (s_l1.2 < (a0.length : Int))))) rfl (x_move) ?_)
      refine ifB_elim hm (fun hb93 hm => ?_) (fun hb93 hm => ?_)
      · refine OW.cons (OP.yes' rfl rfl hb93 (OP.val (v := (.int .i64 s_l1.2)) rfl (x_mv f68) ?_))
        refine OW.cons (OP.yes' rfl rfl hb93 (OP.val (v := (.bool (decide (s_l1.2 < 64)))) rfl (x_lss rfl rfl) ?_))
        refine OW.cons (OP.val (v := (.bool (decide (s_l1.2 < 64)))) rfl (x_pickT' rfl hb93 rfl) ?_)
        refine OW.nil ?_
        exact ⟨decide (s_l1.2 < 64), hm, ⟨f66, f67, f68, rfl, hL⟩⟩
      · refine OW.cons (OP.no' rfl rfl hb93 rfl ?_)
        refine OW.cons (OP.no' rfl rfl hb93 rfl ?_)
        refine OW.cons (OP.val (v := (.bool false)) rfl (x_pickF' rfl hb93 rfl) ?_)
        refine OW.nil ?_
        exact ⟨false, hm, ⟨f66, f67, f68, rfl, hL⟩⟩
    · intro s_j1 F70 wd71 hJ hm
      unfold M.spec_l01From_j1 at hm
      obtain ⟨f72, f73, f74, f75, hL⟩ := hJ
      refine CW.condM (t := s_j1) f75 hm (fun hb76 hm => ?_) (fun hb76 hm => ?_)
      · refine CW.skip ?_
        refine CW.seq ?_
        refine CW.block ?_
        refine CW.drawH (fun w' => Hp w0 [Ent.snap w0 w0.heap.size] w') Try_mixed ?_
        have hL := hL.call (Mod.drew _)
        have hS := (hL.sel [1] (by decide) rfl)
        refine DH.take 0 rfl (by kernel_rfl) (by kernel_rfl) (by kernel_rfl) rfl rfl hS (YH.val (v := (.pointer (some ⟨b4, 0, none⟩))) (fun w' hS' => x_mv f73)) ?_
        have hS := (hL.sel [1] (by decide) rfl)
        refine DH.take 1 rfl (by kernel_rfl) (by kernel_rfl) (by kernel_rfl) rfl rfl hS (YH.val (v := (.pointer (some ⟨b4, 0, none⟩))) (fun w' hS' => x_mv f73)) ?_
        have hS := (hL.sel [1] (by decide) rfl)
        refine DH.take 2 rfl (by kernel_rfl) (by kernel_rfl) (by kernel_rfl) rfl rfl hS (YH.val (v := (.pointer (some ⟨b4, 0, none⟩))) (fun w' hS' => x_nilCheck rfl)) ?_
        have hS := (hL.sel [1] (by decide) rfl)
        refine DH.take 3 rfl (by kernel_rfl) (by kernel_rfl) (by kernel_rfl) rfl rfl hS (YH.val (v := (.pointer (some ⟨b4, 2, none⟩))) (fun w' hS' => x_fieldAddr (fsz := 1) 0 2 2 Try.underlying111 rfl Try_T2 rfl rfl rfl)) ?_
        have hS := (hL.sel [1] (by decide) rfl)
        refine DH.take 6 rfl (by kernel_rfl) (by kernel_rfl) (by kernel_rfl) rfl rfl hS (YH.val (v := v1) (fun w' hS' => x_mv f72)) ?_
        have hS := (hL.sel [1] (by decide) rfl)
        refine DH.take 7 rfl (by kernel_rfl) (by kernel_rfl) (by kernel_rfl) rfl rfl hS (YH.val (v := (.int .i64 s_l1.2)) (fun w' hS' => x_mv f74)) ?_
        have hS := (hL.sel [1] (by decide) rfl)
        obtain ⟨x85, ha86, hm⟩ := bndE hm
        obtain ⟨hz87, ha91⟩ := idxE ha86
        obtain ⟨b88, q89, hix90⟩ := rdL_ix (hL.rdS 1 rfl h2) hz87 ha91
        refine DH.take 8 rfl (by kernel_rfl) (by kernel_rfl) (by kernel_rfl) rfl rfl hS (YH.val (v := (.pointer (some ⟨b88, q89, none⟩))) (fun w' hS' => x_ix Try.underlying49 Try_T5 rfl rfl hix90)) ?_
        have hS := (hL.sel [1] (by decide) rfl)
        refine DH.take 9 rfl (by kernel_rfl) (by kernel_rfl) (by kernel_rfl) rfl rfl hS (YH.val (v := (.int .u8 (x85.toNat : Int))) (fun w' hS' => x_load1 Try.underlying5 rfl rfl (rdF_cells (hS'.rdS 0 rfl h2) hix90 ha91 0 _ rfl))) ?_
        have hS := (hL.sel [1] (by decide) rfl)
        refine DH.take 10 rfl (by kernel_rfl) (by kernel_rfl) (by kernel_rfl) rfl rfl hS (YH.val (v := (.int .i64 (IntKind.i64.wrap (x85.toNat : Int)))) (fun w' hS' => x_conv Try.underlying5 Try.underlying2 rfl)) ?_
        refine DH.only 4 rfl (by kernel_rfl) (OP.val (v := (.int .i64 s_l1.1)) rfl (x_load1 Try.underlying2 rfl rfl (hL.cellB 0 rfl rfl)) ?_)
        refine ⟨(hL.sel [1] (by decide) rfl), ?_⟩
        have hS := (hL.sel [1] (by decide) rfl)
        refine DH.take 5 rfl (by kernel_rfl) (by kernel_rfl) (by kernel_rfl) rfl rfl hS (YH.val (v := (.int .i64 (w64 (s_l1.1 * 53)))) (fun w' hS' => x_mul rfl rfl)) ?_
        have hS := (hL.sel [1] (by decide) rfl)
        refine DH.take 11 rfl (by kernel_rfl) (by kernel_rfl) (by kernel_rfl) rfl rfl hS (YH.val (v := (.int .i64 (w64 ((w64 (s_l1.1 * 53)) + (IntKind.i64.wrap (x85.toNat : Int)))))) (fun w' hS' => x_add rfl rfl)) ?_
        have hS := (hL.sel [1] (by decide) rfl)
        refine DH.take 12 rfl (by kernel_rfl) (by kernel_rfl) (by kernel_rfl) rfl rfl hS (YH.val (v := (.int .i64 ((w64 ((w64 (s_l1.1 * 53)) + (IntKind.i64.wrap (x85.toNat : Int)))).tmod 2147483647))) (fun w' hS' => x_rem rfl rfl (by decide))) ?_
        have hS := (hL.sel [1] (by decide) rfl)
        refine DH.take 13 rfl (by kernel_rfl) (by kernel_rfl) (by kernel_rfl) rfl rfl hS (YH.val (v := (.pointer (some ⟨b4, 0, none⟩))) (fun w' hS' => x_nilCheck rfl)) ?_
        have hS := (hL.sel [1] (by decide) rfl)
        refine DH.take 14 rfl (by kernel_rfl) (by kernel_rfl) (by kernel_rfl) rfl rfl hS (YH.val (v := (.pointer (some ⟨b4, 2, none⟩))) (fun w' hS' => x_fieldAddr (fsz := 1) 0 2 2 Try.underlying111 rfl Try_T2 rfl rfl rfl)) ?_
        refine DH.only 15 rfl (by kernel_rfl) (S_store (cs' := #[v1, (.int .i64 0), (.int .i64 ((w64 ((w64 (s_l1.1 * 53)) + (IntKind.i64.wrap (x85.toNat : Int)))).tmod 2147483647))]) hL 0 rfl Try_T2 rfl rfl rfl rfl rfl ?_)
        intro wd92 hL
        refine ⟨(hL.sel [1] (by decide) rfl), ?_⟩
        refine DH.done (by kernel_rfl) ?_
        refine CW.regionL ?_
        refine OW.cons (OP.val (v := (.int .i64 s_l1.2)) rfl (x_mv f74) ?_)
        refine OW.cons (OP.val (v := (.int .i64 (w64 (s_l1.2 + 1)))) rfl (x_add rfl rfl) ?_)
        refine OW.cons (OP.val (v := (.int .i64 (w64 (s_l1.2 + 1)))) rfl (x_assign) ?_)
        refine OW.nil ?_
        obtain rfl := Option.some.inj hm
        exact ⟨_, rfl, ⟨f72, f73, rfl, hL⟩⟩
      · refine CW.exit ?_
        refine XJ.hit ?_
        obtain rfl := Option.some.inj hm
        exact ⟨_, rfl, ⟨f72, f73, f74, hL⟩⟩

theorem M.spec_l01Next_ok (w0 : World) {b1 : Nat} {v2 : Value} (a0 : Src) (h3 : rdL (fun k => k < w0.heap.size ∧ ¬ (Ent.blk b1 111 #[v2, .int .i64 a0.at_, .int .i64 a0.seed]).S k) w0 v2 a0.code) (he4 : (Ent.blk b1 111 #[v2, .int .i64 a0.at_, .int .i64 a0.seed]).H w0) (a1 : Int) {r : (Int) × (Int × Int)} (hm : M.spec_l01Next a0 a1 = some r) :
    Calls Try.prog 84 #[(.pointer (some ⟨b1, 0, none⟩)), (.int .i64 a1)] w0 fun e w' => e = .returned (.int .i64 r.1) ∧ Mut w0 w' (Ent.blk b1 111 #[v2, .int .i64 a0.at_, .int .i64 a0.seed]).S [Ent.blk b1 111 #[v2, .int .i64 r.2.1, .int .i64 r.2.2]] := by
  unfold M.spec_l01Next at hm
  refine calls_CW (args := [(.pointer (some ⟨b1, 0, none⟩)), (.int .i64 a1)]) Try.func84 rfl rfl rfl ?_
  have hL := Hp.startIO he4
  refine CW.seq ?_
  refine CW.regionL ?_
  refine OW.cons (OP.val (v := (.int .i64 0)) rfl (x_assign) ?_)
  refine OW.nil ?_
  refine CW.seq ?_
  refine CW.seq ?_
  refine CW.regionL ?_
  refine OW.cons (OP.val (v := (.int .i64 a1)) rfl (x_move) ?_)
  refine OW.cons (OP.val (v := (.bool (decide (a1 ≤ 1)))) rfl (x_leq rfl rfl) ?_)
  refine OW.nil ?_
  refine CW.condM (t := decide (a1 ≤ 1)) rfl hm (fun hb5 hm => ?_) (fun hb5 hm => ?_)
  · refine CW.seq ?_
    refine CW.regionL ?_
    refine OW.cons (OP.val (v := (.int .i64 0)) rfl (x_assign) ?_)
    refine OW.nil ?_
    refine CW.ret ?_
    obtain rfl := Option.some.inj hm
    exact RR1 rfl rfl ⟨rfl, hL.mutOut 1 rfl [0] (by decide) (by decide) rfl⟩
  · refine CW.skip ?_
    refine CW.seq ?_
    refine CW.regionL ?_
    refine OW.cons (OP.val (v := (.pointer (some ⟨b1, 0, none⟩))) rfl (x_move) ?_)
    refine OW.cons (OP.val (v := (.pointer (some ⟨b1, 0, none⟩))) rfl (x_move) ?_)
    refine OW.cons (OP.val (v := (.pointer (some ⟨b1, 0, none⟩))) rfl (x_nilCheck rfl) ?_)
    refine OW.cons (OP.val (v := (.pointer (some ⟨b1, 2, none⟩))) rfl (x_fieldAddr (fsz := 1) 0 2 2 Try.underlying111 rfl Try_T2 rfl rfl rfl) ?_)
    refine OW.cons (OP.val (v := (.int .i64 a0.seed)) rfl (x_load1 Try.underlying2 rfl rfl (hL.cellB 0 rfl rfl)) ?_)
    refine OW.cons (OP.val (v := (.int .i64 (w64 (a0.seed * 48271)))) rfl (x_mul rfl rfl) ?_)
    refine OW.cons (OP.val (v := (.int .i64 (w64 ((w64 (a0.seed * 48271)) + 23)))) rfl (x_add rfl rfl) ?_)
    refine OW.cons (OP.val (v := (.int .i64 ((w64 ((w64 (a0.seed * 48271)) + 23)).tmod 2147483647))) rfl (x_rem rfl rfl (by decide)) ?_)
    refine OW.cons (OP.val (v := (.pointer (some ⟨b1, 0, none⟩))) rfl (x_nilCheck rfl) ?_)
    refine OW.cons (OP.val (v := (.pointer (some ⟨b1, 2, none⟩))) rfl (x_fieldAddr (fsz := 1) 0 2 2 Try.underlying111 rfl Try_T2 rfl rfl rfl) ?_)
    refine OW.cons (S_store (cs' := #[v2, (.int .i64 a0.at_), (.int .i64 ((w64 ((w64 (a0.seed * 48271)) + 23)).tmod 2147483647))]) hL 0 rfl Try_T2 rfl rfl rfl rfl rfl ?_)
    intro wd6 hL
    refine OW.nil ?_
    refine CW.seq ?_
    refine CW.regionL ?_
    refine OW.cons (OP.val (v := (.pointer (some ⟨b1, 0, none⟩))) rfl (x_move) ?_)
    refine OW.cons (OP.val (v := (.pointer (some ⟨b1, 0, none⟩))) rfl (x_nilCheck rfl) ?_)
    refine OW.cons (OP.val (v := (.pointer (some ⟨b1, 2, none⟩))) rfl (x_fieldAddr (fsz := 1) 0 2 2 Try.underlying111 rfl Try_T2 rfl rfl rfl) ?_)
    refine OW.cons (OP.val (v := (.int .i64 ((w64 ((w64 (a0.seed * 48271)) + 23)).tmod 2147483647))) rfl (x_load1 Try.underlying2 rfl rfl (hL.cellB 0 rfl rfl)) ?_)
    refine OW.cons (OP.val (v := (.int .i64 (w64 (((w64 ((w64 (a0.seed * 48271)) + 23)).tmod 2147483647).tdiv 17)))) rfl (x_quo rfl rfl (by decide)) ?_)
    refine OW.cons (OP.val (v := (.int .i64 (w64 (((w64 ((w64 (a0.seed * 48271)) + 23)).tmod 2147483647).tdiv 17)))) rfl (x_assign) ?_)
    refine OW.nil ?_
    refine CW.seqJ (fun (s_j1 : Int × Int) (F : Fr) (w : World) => F 1 = (.int .i64 a1) ∧ F 5 = (.int .i64 s_j1.2) ∧ Hp w0 [Ent.blk b1 111 #[v2, (.int .i64 s_j1.1), (.int .i64 ((w64 ((w64 (a0.seed * 48271)) + 23)).tmod 2147483647))], Ent.frz w0 (Ent.blk b1 111 #[v2, .int .i64 a0.at_, .int .i64 a0.seed]).S] w) (fun s_j1 => M.spec_l01Next_j1 a0 a1 s_j1 = some r) ?_ ?_
    · refine CW.seq ?_
      refine CW.draw Try_mixed ?_
      have hL := hL.call (Mod.drew _)
      refine DW.pre (fuel := 0) (fin := (((((((((((Array.replicate 10 false).setIfInBounds 0 true).setIfInBounds 1 true).setIfInBounds 2 true).setIfInBounds 3 true).setIfInBounds 4 true).setIfInBounds 5 true).setIfInBounds 6 true).setIfInBounds 7 true).setIfInBounds 8 true).setIfInBounds 9 true)) (C := fun w' => Mod None_ _ w') [0, 1, 2, 3, 4, 5, 6, 7, 8, 9] (Mod.refl _ _) (by kernel_rfl) (by kernel_rfl) ?_
      refine QW.cons rfl (QP.val (v := (.pointer (some ⟨b1, 0, none⟩))) rfl (fun w' hm' => x_move) ?_)
      refine QW.cons rfl (QP.val (v := (.pointer (some ⟨b1, 0, none⟩))) rfl (fun w' hm' => x_nilCheck rfl) ?_)
      refine QW.cons rfl (QP.val (v := (.pointer (some ⟨b1, 1, none⟩))) rfl (fun w' hm' => x_fieldAddr (fsz := 1) 0 1 1 Try.underlying111 rfl Try_T3 rfl rfl rfl) ?_)
      refine QW.cons rfl (QP.val (v := (.int .i64 a0.at_)) rfl (fun w' hm' => x_load1 Try.underlying3 rfl rfl ((hL.call hm').cellB 0 rfl rfl)) ?_)
      refine QW.cons rfl (QP.val (v := (.pointer (some ⟨b1, 0, none⟩))) rfl (fun w' hm' => x_move) ?_)
      refine QW.cons rfl (QP.val (v := (.pointer (some ⟨b1, 0, none⟩))) rfl (fun w' hm' => x_nilCheck rfl) ?_)
      refine QW.cons rfl (QP.val (v := (.pointer (some ⟨b1, 0, none⟩))) rfl (fun w' hm' => x_fieldAddr (fsz := 1) 0 0 0 Try.underlying111 rfl Try_T49 rfl rfl rfl) ?_)
      refine QW.cons rfl (QP.val (v := v2) rfl (fun w' hm' => x_load1 Try.underlying49 rfl rfl ((hL.call hm').cellB 0 rfl rfl)) ?_)
      refine QW.cons rfl (QP.val (v := (.int .i64 (a0.code.length : Int))) rfl (fun w' hm' => x_lenR Try.underlying49 rfl ((hL.call hm').rdZ 1 rfl h3)) ?_)
      refine QW.cons rfl (QP.val (v := (.bool (decide (a0.at_ < (a0.code.length : Int))))) rfl (fun w' hm' => x_lss rfl rfl) ?_)
      refine QW.nil ?_
      intro wd40 hmod
      have hL := hL.call hmod
      refine DW.done (by kernel_rfl) ?_
      refine CW.condM (t := decide (a0.at_ < (a0.code.length : Int))) rfl hm (fun hb41 hm => ?_) (fun hb41 hm => ?_)
      · refine CW.seq ?_
        refine CW.draw Try_mixed ?_
        have hL := hL.call (Mod.drew _)
        refine DW.pre (fuel := 0) (fin := (((((((((((((((Array.replicate 14 false).setIfInBounds 0 true).setIfInBounds 1 true).setIfInBounds 2 true).setIfInBounds 3 true).setIfInBounds 4 true).setIfInBounds 5 true).setIfInBounds 6 true).setIfInBounds 7 true).setIfInBounds 8 true).setIfInBounds 9 true).setIfInBounds 10 true).setIfInBounds 11 true).setIfInBounds 12 true).setIfInBounds 13 true)) (C := fun w' => Mod None_ _ w') [0, 1, 2, 3, 4, 5, 6, 7, 8, 9, 10, 11, 12, 13] (Mod.refl _ _) (by kernel_rfl) (by kernel_rfl) ?_
        refine QW.cons rfl (QP.val (v := (.int .i64 (w64 (((w64 ((w64 (a0.seed * 48271)) + 23)).tmod 2147483647).tdiv 17)))) rfl (fun w' hm' => x_move) ?_)
        refine QW.cons rfl (QP.val (v := (.pointer (some ⟨b1, 0, none⟩))) rfl (fun w' hm' => x_move) ?_)
        refine QW.cons rfl (QP.val (v := (.pointer (some ⟨b1, 0, none⟩))) rfl (fun w' hm' => x_nilCheck rfl) ?_)
        refine QW.cons rfl (QP.val (v := (.pointer (some ⟨b1, 0, none⟩))) rfl (fun w' hm' => x_fieldAddr (fsz := 1) 0 0 0 Try.underlying111 rfl Try_T49 rfl rfl rfl) ?_)
        refine QW.cons rfl (QP.val (v := v2) rfl (fun w' hm' => x_load1 Try.underlying49 rfl rfl ((hL.call hm').cellB 0 rfl rfl)) ?_)
        refine QW.cons rfl (QP.val (v := (.pointer (some ⟨b1, 0, none⟩))) rfl (fun w' hm' => x_move) ?_)
        refine QW.cons rfl (QP.val (v := (.pointer (some ⟨b1, 0, none⟩))) rfl (fun w' hm' => x_nilCheck rfl) ?_)
        refine QW.cons rfl (QP.val (v := (.pointer (some ⟨b1, 1, none⟩))) rfl (fun w' hm' => x_fieldAddr (fsz := 1) 0 1 1 Try.underlying111 rfl Try_T3 rfl rfl rfl) ?_)
        refine QW.cons rfl (QP.val (v := (.int .i64 a0.at_)) rfl (fun w' hm' => x_load1 Try.underlying3 rfl rfl ((hL.call hm').cellB 0 rfl rfl)) ?_)
        obtain ⟨x42, ha43, hm⟩ := bndE hm
        obtain ⟨hz44, ha48⟩ := idxE ha43
        obtain ⟨b45, q46, hix47⟩ := rdL_ix (hL.rdZ 1 rfl h3) hz44 ha48
        refine QW.cons rfl (QP.val (v := (.pointer (some ⟨b45, q46, none⟩))) rfl (fun w' hm' => x_ix Try.underlying49 Try_T5 rfl rfl hix47) ?_)
        refine QW.cons rfl (QP.val (v := (.int .u8 (x42.toNat : Int))) rfl (fun w' hm' => x_load1 Try.underlying5 rfl rfl (rdF_cells ((hL.call hm').rdZ 1 rfl h3) hix47 ha48 0 _ rfl)) ?_)
        refine QW.cons rfl (QP.val (v := (.int .i64 (IntKind.i64.wrap (x42.toNat : Int)))) rfl (fun w' hm' => x_conv Try.underlying5 Try.underlying2 rfl) ?_)
        refine QW.cons rfl (QP.val (v := (.int .i64 (w64 ((w64 (((w64 ((w64 (a0.seed * 48271)) + 23)).tmod 2147483647).tdiv 17)) + (IntKind.i64.wrap (x42.toNat : Int)))))) rfl (fun w' hm' => x_add rfl rfl) ?_)
        refine QW.cons rfl (QP.val (v := (.int .i64 (w64 ((w64 (((w64 ((w64 (a0.seed * 48271)) + 23)).tmod 2147483647).tdiv 17)) + (IntKind.i64.wrap (x42.toNat : Int)))))) rfl (fun w' hm' => x_assign) ?_)
        refine QW.nil ?_
        intro wd49 hmod
        have hL := hL.call hmod
        refine DW.done (by kernel_rfl) ?_
        refine CW.seq ?_
        refine CW.regionL ?_
        refine OW.cons (OP.val (v := (.pointer (some ⟨b1, 0, none⟩))) rfl (x_move) ?_)
        refine OW.cons (OP.val (v := (.pointer (some ⟨b1, 0, none⟩))) rfl (x_nilCheck rfl) ?_)
        refine OW.cons (OP.val (v := (.pointer (some ⟨b1, 1, none⟩))) rfl (x_fieldAddr (fsz := 1) 0 1 1 Try.underlying111 rfl Try_T3 rfl rfl rfl) ?_)
        refine OW.cons (OP.val (v := (.int .i64 a0.at_)) rfl (x_load1 Try.underlying3 rfl rfl (hL.cellB 0 rfl rfl)) ?_)
        refine OW.cons (OP.val (v := (.int .i64 (w64 (a0.at_ + 1)))) rfl (x_add rfl rfl) ?_)
        refine OW.cons (OP.val (v := (.pointer (some ⟨b1, 0, none⟩))) rfl (x_nilCheck rfl) ?_)
        refine OW.cons (OP.val (v := (.pointer (some ⟨b1, 1, none⟩))) rfl (x_fieldAddr (fsz := 1) 0 1 1 Try.underlying111 rfl Try_T3 rfl rfl rfl) ?_)
        refine OW.cons (S_store (cs' := #[v2, (.int .i64 (w64 (a0.at_ + 1))), (.int .i64 ((w64 ((w64 (a0.seed * 48271)) + 23)).tmod 2147483647))]) hL 0 rfl Try_T3 rfl rfl rfl rfl rfl ?_)
        intro wd50 hL
        refine OW.nil ?_
        refine CW.seqJ (fun (s_j2 : Bool) (F : Fr) (w : World) => F 0 = (.pointer (some ⟨b1, 0, none⟩)) ∧ F 1 = (.int .i64 a1) ∧ F 5 = (.int .i64 (w64 ((w64 (((w64 ((w64 (a0.seed * 48271)) + 23)).tmod 2147483647).tdiv 17)) + (IntKind.i64.wrap (x42.toNat : Int))))) ∧ F 62 = (.bool s_j2) ∧ Hp w0 [Ent.blk b1 111 #[v2, (.int .i64 (w64 (a0.at_ + 1))), (.int .i64 ((w64 ((w64 (a0.seed * 48271)) + 23)).tmod 2147483647))], Ent.frz w0 (Ent.blk b1 111 #[v2, .int .i64 a0.at_, .int .i64 a0.seed]).S] w) (fun s_j2 => M.spec_l01Next_j2 a0 a1 x42 s_j2 = some r) ?_ ?_
        · refine CW.regionL ?_
          refine OW.cons (OP.val (v := (.int .i64 a1)) rfl (x_move) ?_)
          refine OW.cons (OP.val (v := (.bool (decide (a1 ≤ 256)))) rfl (x_leq rfl rfl) ?_)
          refine OW.cons (OP.val (v := (.bool (decide (a1 ≤ 256)))) rfl (x_move) ?_)
          refine ifB_elim hm (fun hb67 hm => ?_) (fun hb67 hm => ?_)
          · refine OW.cons (OP.yes' rfl rfl hb67 (OP.val (v := (.pointer (some ⟨b1, 0, none⟩))) rfl (x_move) ?_))
            refine OW.cons (OP.yes' rfl rfl hb67 (OP.val (v := (.pointer (some ⟨b1, 0, none⟩))) rfl (x_nilCheck rfl) ?_))
            refine OW.cons (OP.yes' rfl rfl hb67 (OP.val (v := (.pointer (some ⟨b1, 1, none⟩))) rfl (x_fieldAddr (fsz := 1) 0 1 1 Try.underlying111 rfl Try_T3 rfl rfl rfl) ?_))
            refine OW.cons (OP.yes' rfl rfl hb67 (OP.val (v := (.int .i64 (w64 (a0.at_ + 1)))) rfl (x_load1 Try.underlying3 rfl rfl (hL.cellB 0 rfl rfl)) ?_))
            refine OW.cons (OP.yes' rfl rfl hb67 (OP.val (v := (.int .i64 ((w64 (a0.at_ + 1)).tmod 2))) rfl (x_rem rfl rfl (by decide)) ?_))
            refine OW.cons (OP.yes' rfl rfl hb67 (OP.val (v := (.bool (((w64 (a0.at_ + 1)).tmod 2) == 0))) rfl (x_eql rfl rfl) ?_))
            refine OW.cons (OP.val (v := (.bool (((w64 (a0.at_ + 1)).tmod 2) == 0))) rfl (x_pickT' rfl hb67 rfl) ?_)
            refine OW.nil ?_
            exact ⟨((w64 (a0.at_ + 1)).tmod 2) == 0, hm, ⟨rfl, rfl, rfl, rfl, hL⟩⟩
          · refine OW.cons (OP.no' rfl rfl hb67 rfl ?_)
            refine OW.cons (OP.no' rfl rfl hb67 rfl ?_)
            refine OW.cons (OP.no' rfl rfl hb67 rfl ?_)
            refine OW.cons (OP.no' rfl rfl hb67 rfl ?_)
            refine OW.cons (OP.no' rfl rfl hb67 rfl ?_)
            refine OW.cons (OP.no' rfl rfl hb67 rfl ?_)
            refine OW.cons (OP.val (v := (.bool false)) rfl (x_pickF' rfl hb67 rfl) ?_)
            refine OW.nil ?_
            exact ⟨false, hm, ⟨rfl, rfl, rfl, rfl, hL⟩⟩
        · intro s_j2 F52 wd53 hJ hm
          unfold M.spec_l01Next_j2 at hm
          obtain ⟨f54, f55, f56, f57, hL⟩ := hJ
          refine CW.condM (t := s_j2) f57 hm (fun hb58 hm => ?_) (fun hb58 hm => ?_)
          · refine CW.draw Try_mixed ?_
            have hL := hL.call (Mod.drew _)
            refine DW.pre (fuel := 0) (fin := ((((((((((((((Array.replicate 13 false).setIfInBounds 0 true).setIfInBounds 1 true).setIfInBounds 2 true).setIfInBounds 3 true).setIfInBounds 4 true).setIfInBounds 5 true).setIfInBounds 6 true).setIfInBounds 7 true).setIfInBounds 8 true).setIfInBounds 9 true).setIfInBounds 10 true).setIfInBounds 11 true).setIfInBounds 12 true)) (C := fun w' => Mod None_ _ w') [0, 1, 2, 3, 4, 5, 6, 7, 8, 9, 10, 11, 12] (Mod.refl _ _) (by kernel_rfl) (by kernel_rfl) ?_
            refine QW.cons rfl (QP.val (v := (.pointer (some ⟨b1, 0, none⟩))) rfl (fun w' hm' => x_mv f54) ?_)
            refine QW.cons rfl (QP.val (v := (.pointer (some ⟨b1, 0, none⟩))) rfl (fun w' hm' => x_nilCheck rfl) ?_)
            refine QW.cons rfl (QP.val (v := (.pointer (some ⟨b1, 0, none⟩))) rfl (fun w' hm' => x_fieldAddr (fsz := 1) 0 0 0 Try.underlying111 rfl Try_T49 rfl rfl rfl) ?_)
            refine QW.cons rfl (QP.val (v := v2) rfl (fun w' hm' => x_load1 Try.underlying49 rfl rfl ((hL.call hm').cellB 0 rfl rfl)) ?_)
            refine QW.cons rfl (QP.val (v := (.pointer (some ⟨b1, 0, none⟩))) rfl (fun w' hm' => x_mv f54) ?_)
            refine QW.cons rfl (QP.val (v := (.pointer (some ⟨b1, 0, none⟩))) rfl (fun w' hm' => x_nilCheck rfl) ?_)
            refine QW.cons rfl (QP.val (v := (.pointer (some ⟨b1, 1, none⟩))) rfl (fun w' hm' => x_fieldAddr (fsz := 1) 0 1 1 Try.underlying111 rfl Try_T3 rfl rfl rfl) ?_)
            refine QW.cons rfl (QP.val (v := (.int .i64 (w64 (a0.at_ + 1)))) rfl (fun w' hm' => x_load1 Try.underlying3 rfl rfl ((hL.call hm').cellB 0 rfl rfl)) ?_)
            refine QW.cons rfl (QP.val (v := (.int .i64 (w64 ((w64 (a0.at_ + 1)) - 1)))) rfl (fun w' hm' => x_sub rfl rfl) ?_)
            obtain ⟨x59, ha60, hm⟩ := bndE hm
            obtain ⟨hz61, ha65⟩ := idxE ha60
            obtain ⟨b62, q63, hix64⟩ := rdL_ix (hL.rdZ 1 rfl h3) hz61 ha65
            refine QW.cons rfl (QP.val (v := (.pointer (some ⟨b62, q63, none⟩))) rfl (fun w' hm' => x_ix Try.underlying49 Try_T5 rfl rfl hix64) ?_)
            refine QW.cons rfl (QP.val (v := (.int .u8 (x59.toNat : Int))) rfl (fun w' hm' => x_load1 Try.underlying5 rfl rfl (rdF_cells ((hL.call hm').rdZ 1 rfl h3) hix64 ha65 0 _ rfl)) ?_)
            refine QW.cons rfl (QP.val (v := (.int .i64 (IntKind.i64.wrap (x59.toNat : Int)))) rfl (fun w' hm' => x_conv Try.underlying5 Try.underlying2 rfl) ?_)
            refine QW.cons rfl (QP.val (v := (.int .i64 (IntKind.i64.wrap (x59.toNat : Int)))) rfl (fun w' hm' => x_assign) ?_)
            refine QW.nil ?_
            intro wd66 hmod
            have hL := hL.call hmod
            refine DW.done (by kernel_rfl) ?_
            exact ⟨(w64 (a0.at_ + 1), IntKind.i64.wrap (x59.toNat : Int)), hm, ⟨f55, rfl, hL⟩⟩
          · refine CW.skip ?_
            exact ⟨(w64 (a0.at_ + 1), w64 ((w64 (((w64 ((w64 (a0.seed * 48271)) + 23)).tmod 2147483647).tdiv 17)) + (IntKind.i64.wrap (x42.toNat : Int)))), hm, ⟨f55, f56, hL⟩⟩
      · refine CW.skip ?_
        exact ⟨(a0.at_, w64 (((w64 ((w64 (a0.seed * 48271)) + 23)).tmod 2147483647).tdiv 17)), hm, ⟨rfl, rfl, hL⟩⟩
    · intro s_j1 F35 wd36 hJ hm
      unfold M.spec_l01Next_j1 at hm
      obtain ⟨f37, f38, hL⟩ := hJ
      refine CW.seq ?_
      refine CW.regionL ?_
      refine OW.cons (OP.val (v := (.int .i64 s_j1.2)) rfl (x_mv f38) ?_)
      refine OW.cons (OP.val (v := (.int .i64 a1)) rfl (x_mv f37) ?_)
      obtain ⟨hc39, hm⟩ := chkE hm
      refine OW.cons (OP.val (v := (.int .i64 (s_j1.2.tmod a1))) rfl (x_rem rfl rfl hc39) ?_)
      refine OW.cons (OP.val (v := (.int .i64 (s_j1.2.tmod a1))) rfl (x_assign) ?_)
      refine OW.nil ?_
      refine CW.ret ?_
      obtain rfl := Option.some.inj hm
      exact RR1 rfl rfl ⟨rfl, hL.mutOut 1 rfl [0] (by decide) (by decide) rfl⟩

theorem M.spec_l22DrawRace_ok (w0 : World) {b1 : Nat} {v2 : Value} (a0 : Src) (h3 : rdL (fun k => k < w0.heap.size ∧ ¬ (Ent.blk b1 111 #[v2, .int .i64 a0.at_, .int .i64 a0.seed]).S k) w0 v2 a0.code) (he4 : (Ent.blk b1 111 #[v2, .int .i64 a0.at_, .int .i64 a0.seed]).H w0) {r : (Int × (List Finish)) × (Int × Int)} (hm : M.spec_l22DrawRace a0 = some r) :
    Calls Try.prog 65 #[(.pointer (some ⟨b1, 0, none⟩))] w0 fun e w' => ∃ (rv0 : Value) (rS0 : Nat → Prop), e = .returned (.tuple #[(.int .i64 r.1.1), rv0]) ∧ Mut w0 w' (Ent.blk b1 111 #[v2, .int .i64 a0.at_, .int .i64 a0.seed]).S [Ent.blk b1 111 #[v2, .int .i64 r.2.1, .int .i64 r.2.2], Ent.own 56 rS0 rv0 r.1.2] := by
  unfold M.spec_l22DrawRace at hm
  refine calls_CW (args := [(.pointer (some ⟨b1, 0, none⟩))]) Try.func65 rfl rfl rfl ?_
  have hL := Hp.startIO he4
  refine CW.seq ?_
  refine CW.regionL ?_
  refine OW.cons (OP.val (v := (.int .i64 0)) rfl (x_assign) ?_)
  refine OW.cons (OP.val (v := (.slice none 0 0)) rfl (x_assign) ?_)
  refine OW.nil ?_
  refine CW.seq ?_
  refine CW.regionL ?_
  refine OW.cons (OP.val (v := (.pointer (some ⟨b1, 0, none⟩))) rfl (x_move) ?_)
  obtain ⟨x5, hx6, hm⟩ := bndE hm
  refine OW.cons (OP.call rfl (x_call (vs := [(.pointer (some ⟨b1, 0, none⟩)), (.int .i64 6)]) Try_C84 ⟨rfl, rfl, trivial⟩) (M.spec_l01Next_ok _ (Src.mk a0.code a0.at_ a0.seed) (hL.exZ 1 0 (by decide) rfl rfl h3) (hL.get 0 rfl) 6 hx6) ?_)
  rintro e7 wd8 ⟨rfl, hF9⟩
  refine ⟨_, rfl, ?_⟩
  have hL := hL.mut 0 rfl hF9
  simp only [lA, lB, lC, lD] at hL
  refine OW.cons (OP.val (v := (.int .i64 (w64 (1 + x5.1)))) rfl (x_add rfl rfl) ?_)
  refine OW.cons (OP.val (v := (.int .i64 (w64 (1 + x5.1)))) rfl (x_assign) ?_)
  refine OW.nil ?_
  refine CW.seqJ (fun (s_j1 : Int × Int × Int) (F : Fr) (w : World) => F 0 = (.pointer (some ⟨b1, 0, none⟩)) ∧ F 4 = (.int .i64 s_j1.2.2) ∧ Hp w0 [Ent.blk b1 111 #[v2, (.int .i64 s_j1.1), (.int .i64 s_j1.2.1)], Ent.frz w0 (Ent.blk b1 111 #[v2, .int .i64 a0.at_, .int .i64 a0.seed]).S] w) (fun s_j1 => M.spec_l22DrawRace_j1 a0 s_j1 = some r) ?_ ?_
  · refine CW.seq ?_
    refine CW.regionL ?_
    refine OW.cons (OP.val (v := (.pointer (some ⟨b1, 0, none⟩))) rfl (x_move) ?_)
    obtain ⟨x358, hx359, hm⟩ := bndE hm
    refine OW.cons (OP.call rfl (x_call (vs := [(.pointer (some ⟨b1, 0, none⟩)), (.int .i64 30)]) Try_C84 ⟨rfl, rfl, trivial⟩) (M.spec_l01Next_ok _ (Src.mk a0.code x5.2.1 x5.2.2) (hL.exZ 1 0 (by decide) rfl rfl h3) (hL.get 0 rfl) 30 hx359) ?_)
    rintro e360 wd361 ⟨rfl, hF362⟩
    refine ⟨_, rfl, ?_⟩
    have hL := hL.mut 0 rfl hF362
    simp only [lA, lB, lC, lD] at hL
    refine OW.cons (OP.val (v := (.bool (x358.1 == 0))) rfl (x_eql rfl rfl) ?_)
    refine OW.nil ?_
    refine CW.condM (t := x358.1 == 0) rfl hm (fun hb363 hm => ?_) (fun hb363 hm => ?_)
    · refine CW.regionL ?_
      refine OW.cons (S_lit ([0, 16, 17] : List Int) hL Try.underlying35 Try_T2 rfl (by decide) (by first | (simp [Instr.fill, madeCells, Value.cells, ev, upd, Flat.enc, Flat.sz]; done) | rfl | kernel_rfl) rfl rfl ?_)
      intro wd364 v365 S366 hL
      refine OW.cons (OP.val (v := (.pointer (some ⟨b1, 0, none⟩))) rfl (x_move) ?_)
      obtain ⟨x367, hx368, hm⟩ := bndE hm
      refine OW.cons (OP.call rfl (x_call (vs := [(.pointer (some ⟨b1, 0, none⟩)), (.int .i64 3)]) Try_C84 ⟨rfl, rfl, trivial⟩) (M.spec_l01Next_ok _ (Src.mk a0.code x358.2.1 x358.2.2) (hL.exZ 2 1 (by decide) rfl rfl h3) (hL.get 1 rfl) 3 hx368) ?_)
      rintro e369 wd370 ⟨rfl, hF371⟩
      refine ⟨_, rfl, ?_⟩
      have hL := hL.mut 1 rfl hF371
      simp only [lA, lB, lC, lD] at hL
      obtain ⟨x372, ha373, hm⟩ := bndE hm
      obtain ⟨hz374, ha378⟩ := idxE ha373
      obtain ⟨b375, q376, hix377⟩ := rdL_ix (hL.rdO 0 rfl) hz374 ha378
      refine OW.cons (OP.val (v := (.pointer (some ⟨b375, q376, none⟩))) rfl (x_ix Try.underlying35 Try_T2 rfl rfl hix377) ?_)
      refine OW.cons (OP.val (v := (.int .i64 x372)) rfl (x_load1 Try.underlying2 rfl rfl (rdF_cells (hL.rdO 0 rfl) hix377 ha378 0 _ rfl)) ?_)
      refine OW.cons (OP.val (v := (.int .i64 x372)) rfl (x_assign) ?_)
      refine OW.nil ?_
      have hL := hL.sel [1, 2] (by decide) rfl
      exact ⟨(x367.2.1, x367.2.2, x372), hm, ⟨rfl, rfl, hL⟩⟩
    · refine CW.skip ?_
      exact ⟨(x358.2.1, x358.2.2, w64 (1 + x5.1)), hm, ⟨rfl, rfl, hL⟩⟩
  · intro s_j1 F31 wd32 hJ hm
    unfold M.spec_l22DrawRace_j1 at hm
    obtain ⟨f33, f34, hL⟩ := hJ
    refine CW.seq ?_
    refine CW.regionL ?_
    refine OW.cons (S_lit ([] : List Finish) hL Try.underlying28 Try_T56 rfl (by decide) (by first | (simp [Instr.fill, madeCells, Value.cells, ev, upd, Flat.enc, Flat.sz]; done) | rfl | kernel_rfl) rfl rfl ?_)
    intro wd35 v36 S37 hL
    refine OW.cons (OP.val (v := v36) rfl (x_assign) ?_)
    refine OW.nil ?_
    refine CW.seq ?_
    refine CW.seq ?_
    refine CW.regionL ?_
    refine OW.cons (OP.val (v := (.int .i64 0)) rfl (x_assign) ?_)
    refine OW.nil ?_
    obtain ⟨o138, ho139, hm⟩ := bndE hm
    refine CW.loopB (fun (s_l1 : Int × Int × (List Finish) × Int) (F : Fr) (w : World) => ∃ (v134 : Value) (S135 : Nat → Prop), F 0 = (.pointer (some ⟨b1, 0, none⟩)) ∧ F 4 = (.int .i64 s_j1.2.2) ∧ F 5 = v134 ∧ F 6 = (.int .i64 s_l1.2.2.2) ∧ Hp w0 [Ent.own 56 S135 v134 s_l1.2.2.1, Ent.blk b1 111 #[v2, (.int .i64 s_l1.1), (.int .i64 s_l1.2.1)], Ent.frz w0 (Ent.blk b1 111 #[v2, .int .i64 a0.at_, .int .i64 a0.seed]).S] w) (fun o => outc o (fun x => some x) (fun s => M.spec_l22DrawRace_a1 a0 s_j1 s) = some r) ho139 hm ⟨v36, S37, f33, f34, rfl, rfl, hL⟩ ?_ ?_
    · intro s_l1 F140 wd141 hJ hm
      have hm := outcE hm
      have hm : M.spec_l22DrawRace_a1 a0 s_j1 s_l1 = some r := hm
      unfold M.spec_l22DrawRace_a1 at hm
      obtain ⟨v134, S135, f142, f143, f144, f145, hL⟩ := hJ
      refine CW.seqJ (fun (s_j2 : Int × Int × (List Finish)) (F : Fr) (w : World) => ∃ (S223 : Nat → Prop), F 4 = (.int .i64 s_j1.2.2) ∧ F 5 = v134 ∧ Hp w0 [Ent.own 56 S223 v134 s_j2.2.2, Ent.blk b1 111 #[v2, (.int .i64 s_j2.1), (.int .i64 s_j2.2.1)], Ent.frz w0 (Ent.blk b1 111 #[v2, .int .i64 a0.at_, .int .i64 a0.seed]).S] w) (fun s_j2 => M.spec_l22DrawRace_j2 s_j1 s_j2 = some r) ?_ ?_
      · refine CW.seq ?_
        refine CW.regionL ?_
        refine OW.cons (OP.val (v := v134) rfl (x_mv f144) ?_)
        refine OW.cons (OP.val (v := (.int .i64 (s_l1.2.2.1.length : Int))) rfl (x_lenR Try.underlying28 rfl (hL.rdO 0 rfl)) ?_)
        refine OW.cons (OP.val (v := (.bool (decide (0 < (s_l1.2.2.1.length : Int))))) rfl (x_gtr rfl rfl) ?_)
        refine OW.nil ?_
        refine CW.condM (t := decide (0 < (s_l1.2.2.1.length : Int))) rfl hm (fun hb228 hm => ?_) (fun hb228 hm => ?_)
        · refine CW.seq ?_
          refine CW.regionL ?_
          refine OW.cons (OP.val (v := (.pointer (some ⟨b1, 0, none⟩))) rfl (x_mv f142) ?_)
          obtain ⟨x229, hx230, hm⟩ := bndE hm
          refine OW.cons (OP.call rfl (x_call (vs := [(.pointer (some ⟨b1, 0, none⟩)), (.int .i64 30)]) Try_C84 ⟨rfl, rfl, trivial⟩) (M.spec_l01Next_ok _ (Src.mk a0.code s_l1.1 s_l1.2.1) (hL.exZ 2 1 (by decide) rfl rfl h3) (hL.get 1 rfl) 30 hx230) ?_)
          rintro e231 wd232 ⟨rfl, hF233⟩
          refine ⟨_, rfl, ?_⟩
          have hL := hL.mut 1 rfl hF233
          simp only [lA, lB, lC, lD] at hL
          refine OW.nil ?_
          refine CW.blockJ (fun (s_j3 : Int × Int × (List Finish)) (F : Fr) (w : World) => ∃ (S267 : Nat → Prop), F 4 = (.int .i64 s_j1.2.2) ∧ F 5 = v134 ∧ Hp w0 [Ent.own 56 S267 v134 s_j3.2.2, Ent.blk b1 111 #[v2, (.int .i64 s_j3.1), (.int .i64 s_j3.2.1)], Ent.frz w0 (Ent.blk b1 111 #[v2, .int .i64 a0.at_, .int .i64 a0.seed]).S] w) (fun s_j3 => M.spec_l22DrawRace_j3 s_j1 s_j3 = some r) ?_ ?_
          · refine CW.seq ?_
            refine CW.regionL ?_
            refine OW.cons (OP.val (v := (.bool (x229.1 == 0))) rfl (x_eql rfl rfl) ?_)
            refine OW.cons (OP.val (v := (.bool (x229.1 == 0))) rfl (x_assign) ?_)
            refine OW.nil ?_
            refine CW.condM (t := x229.1 == 0) rfl hm (fun hb272 hm => ?_) (fun hb272 hm => ?_)
            · refine CW.regionL ?_
              refine OW.cons (OP.val (v := v134) rfl (x_mv f144) ?_)
              obtain ⟨x273, ha274, hm⟩ := bndE hm
              obtain ⟨hz275, ha279⟩ := idxE ha274
              obtain ⟨b276, q277, hix278⟩ := rdL_ix (hL.rdO 0 rfl) hz275 ha279
              refine OW.cons (OP.val (v := (.pointer (some ⟨b276, q277, none⟩))) rfl (x_ix Try.underlying28 Try_T56 rfl rfl hix278) ?_)
              refine OW.cons (OP.val (v := (.pointer (some ⟨b276, q277, none⟩))) rfl (x_fieldAddr (fsz := 1) q277 0 q277 Try.underlying56 rfl Try_T2 rfl rfl rfl) ?_)
              refine OW.cons (S_storeX (j := 0) (Finish.mk 1 x273.Code x273.Time) hL 0 rfl Try_T2 hix278 ha279 rfl rfl rfl rfl rfl rfl ?_)
              intro wd280 hL
              refine OW.nil ?_
              exact ⟨(x229.2.1, x229.2.2, s_l1.2.2.1.set (0 : Int).toNat (Finish.mk 1 x273.Code x273.Time)), hm, ⟨S135, f143, f144, hL⟩⟩
            · refine CW.seq ?_
              refine CW.regionL ?_
              refine OW.cons (OP.val (v := (.bool (x229.1 == 1))) rfl (x_eql rfl rfl) ?_)
              refine OW.cons (OP.val (v := (.bool (x229.1 == 1))) rfl (x_assign) ?_)
              refine OW.nil ?_
              refine CW.condM (t := x229.1 == 1) rfl hm (fun hb281 hm => ?_) (fun hb281 hm => ?_)
              · refine CW.regionL ?_
                refine OW.cons (OP.val (v := v134) rfl (x_mv f144) ?_)
                refine OW.cons (S_lit ([0, 1000000000, 1000000001] : List Int) hL Try.underlying35 Try_T2 rfl (by decide) (by first | (simp [Instr.fill, madeCells, Value.cells, ev, upd, Flat.enc, Flat.sz]; done) | rfl | kernel_rfl) rfl rfl ?_)
                intro wd282 v283 S284 hL
                refine OW.cons (OP.val (v := (.pointer (some ⟨b1, 0, none⟩))) rfl (x_mv f142) ?_)
                obtain ⟨x285, hx286, hm⟩ := bndE hm
                refine OW.cons (OP.call rfl (x_call (vs := [(.pointer (some ⟨b1, 0, none⟩)), (.int .i64 3)]) Try_C84 ⟨rfl, rfl, trivial⟩) (M.spec_l01Next_ok _ (Src.mk a0.code x229.2.1 x229.2.2) (hL.exZ 3 2 (by decide) rfl rfl h3) (hL.get 2 rfl) 3 hx286) ?_)
                rintro e287 wd288 ⟨rfl, hF289⟩
                refine ⟨_, rfl, ?_⟩
                have hL := hL.mut 2 rfl hF289
                simp only [lA, lB, lC, lD] at hL
                obtain ⟨x290, ha291, hm⟩ := bndE hm
                obtain ⟨hz292, ha296⟩ := idxE ha291
                obtain ⟨b293, q294, hix295⟩ := rdL_ix (hL.rdO 0 rfl) hz292 ha296
                refine OW.cons (OP.val (v := (.pointer (some ⟨b293, q294, none⟩))) rfl (x_ix Try.underlying35 Try_T2 rfl rfl hix295) ?_)
                refine OW.cons (OP.val (v := (.int .i64 x290)) rfl (x_load1 Try.underlying2 rfl rfl (rdF_cells (hL.rdO 0 rfl) hix295 ha296 0 _ rfl)) ?_)
                obtain ⟨x297, ha298, hm⟩ := bndE hm
                obtain ⟨hz299, ha303⟩ := idxE ha298
                obtain ⟨b300, q301, hix302⟩ := rdL_ix (hL.rdO 1 rfl) hz299 ha303
                refine OW.cons (OP.val (v := (.pointer (some ⟨b300, q301, none⟩))) rfl (x_ix Try.underlying28 Try_T56 rfl rfl hix302) ?_)
                refine OW.cons (OP.val (v := (.pointer (some ⟨b300, q301 + 2, none⟩))) rfl (x_fieldAddr (fsz := 1) q301 2 (q301 + 2) Try.underlying56 rfl Try_T2 rfl rfl rfl) ?_)
                refine OW.cons (S_storeX (j := 2) (Finish.mk x297.Boat x297.Code x290) hL 1 rfl Try_T2 hix302 ha303 rfl rfl rfl rfl rfl rfl ?_)
                intro wd304 hL
                refine OW.nil ?_
                have hL := hL.sel [1, 2, 3] (by decide) rfl
                exact ⟨(x285.2.1, x285.2.2, s_l1.2.2.1.set (0 : Int).toNat (Finish.mk x297.Boat x297.Code x290)), hm, ⟨S135, f143, f144, hL⟩⟩
              · refine CW.skip ?_
                exact ⟨(x229.2.1, x229.2.2, s_l1.2.2.1), hm, ⟨S135, f143, f144, hL⟩⟩
          · intro s_j3 F268 wd269 hJ hm
            unfold M.spec_l22DrawRace_j3 at hm
            obtain ⟨S267, f270, f271, hL⟩ := hJ
            exact ⟨(s_j3.1, s_j3.2.1, s_j3.2.2), hm, ⟨S267, f270, f271, hL⟩⟩
        · refine CW.skip ?_
          exact ⟨(s_l1.1, s_l1.2.1, s_l1.2.2.1), hm, ⟨S135, f143, f144, hL⟩⟩
      · intro s_j2 F224 wd225 hJ hm
        unfold M.spec_l22DrawRace_j2 at hm
        obtain ⟨S223, f226, f227, hL⟩ := hJ
        refine CW.seq ?_
        refine CW.regionL ?_
        refine OW.cons (OP.val (v := (.int .i64 s_j1.2.2)) rfl (x_mv f226) ?_)
        refine OW.cons (OP.val (v := v134) rfl (x_mv f227) ?_)
        refine OW.cons (OP.val (v := (.int .i64 s_j1.2.2)) rfl (x_assign) ?_)
        refine OW.cons (OP.val (v := v134) rfl (x_assign) ?_)
        refine OW.nil ?_
        refine CW.ret ?_
        obtain rfl := Option.some.inj hm
        exact RR2 rfl rfl rfl ⟨v134, S223, rfl, hL.mutOut 2 rfl [1, 0] (by decide) (by decide) rfl⟩
    · intro s_l1 F305 wd306 t136 hJ hm hr137
      unfold M.spec_l22DrawRace_l1 at hm
      obtain ⟨v134, S135, f307, f308, f309, f310, hL⟩ := hJ
      refine CW.seq ?_
      refine CW.seq ?_
      refine CW.regionL ?_
      refine OW.cons (OP.val (v := (.int .i64 s_l1.2.2.2)) rfl (x_mv f310) ?_)
      refine OW.cons (OP.val (v := (.int .i64 s_j1.2.2)) rfl (x_mv f308) ?_)
      refine OW.cons (OP.val (v := (.bool (decide (s_l1.2.2.2 < s_j1.2.2)))) rfl (x_lss rfl rfl) ?_)
      refine OW.nil ?_
      refine CW.condM (t := decide (s_l1.2.2.2 < s_j1.2.2)) rfl hm (fun hb311 hm => ?_) (fun hb311 hm => ?_)
      · refine CW.skip ?_
        refine CW.seq ?_
        refine CW.block ?_
        refine CW.seq ?_
        refine CW.regionL ?_
        refine OW.cons (OP.val (v := (.int .i64 s_l1.2.2.2)) rfl (x_mv f310) ?_)
        refine OW.cons (OP.val (v := (.pointer (some ⟨b1, 0, none⟩))) rfl (x_mv f307) ?_)
        obtain ⟨x312, hx313, hm⟩ := bndE hm
        refine OW.cons (OP.call rfl (x_call (vs := [(.pointer (some ⟨b1, 0, none⟩)), (.int .i64 20000)]) Try_C84 ⟨rfl, rfl, trivial⟩) (M.spec_l01Next_ok _ (Src.mk a0.code s_l1.1 s_l1.2.1) (hL.exZ 2 1 (by decide) rfl rfl h3) (hL.get 1 rfl) 20000 hx313) ?_)
        rintro e314 wd315 ⟨rfl, hF316⟩
        refine ⟨_, rfl, ?_⟩
        have hL := hL.mut 1 rfl hF316
        simp only [lA, lB, lC, lD] at hL
        refine OW.cons (OP.val (v := (.int .i64 (w64 (50000 + x312.1)))) rfl (x_add rfl rfl) ?_)
        refine OW.cons (OP.val (v := (.agg #[(.int .i64 s_l1.2.2.2), (.int .i64 0), (.int .i64 (w64 (50000 + x312.1)))])) rfl (x_build Try_B56 (ps := [(0, (.int .i64 s_l1.2.2.2)), (2, (.int .i64 (w64 (50000 + x312.1))))]) ⟨⟨rfl, rfl⟩, ⟨rfl, rfl⟩, trivial⟩ (by simp [Instr.fill, cells_int, cells_bool, cells_string, cells_agg, cells_slice, cells_pointer])) ?_)
        refine OW.cons (S_alloc (cs := #[(.int .i64 0), (.int .i64 0), (.int .i64 0)]) hL Try_T56 rfl rfl ?_)
        intro wd317 b318 hL
        refine OW.cons (S_storeN (l := [(.int .i64 s_l1.2.2.2), (.int .i64 0), (.int .i64 (w64 (50000 + x312.1)))]) (cs' := #[(.int .i64 s_l1.2.2.2), (.int .i64 0), (.int .i64 (w64 (50000 + x312.1)))]) hL 0 rfl Try_T56 rfl rfl (List.forall_mem_cons.2 ⟨rfl, (List.forall_mem_cons.2 ⟨rfl, (List.forall_mem_cons.2 ⟨rfl, (fun _ h => by cases h)⟩)⟩)⟩) rfl (Nat.le_of_ble_eq_true rfl) rfl ?_)
        intro wd319 hL
        refine OW.nil ?_
        refine CW.seqJ (fun (s_j4 : Int × Int × Int × Int) (F : Fr) (w : World) => F 0 = (.pointer (some ⟨b1, 0, none⟩)) ∧ F 4 = (.int .i64 s_j1.2.2) ∧ F 5 = v134 ∧ F 6 = (.int .i64 s_l1.2.2.2) ∧ F 7 = (.pointer (some ⟨b318, 0, none⟩)) ∧ Hp w0 [Ent.blk b318 56 #[(.int .i64 s_l1.2.2.2), (.int .i64 s_j4.2.2.1), (.int .i64 s_j4.2.2.2)], Ent.own 56 S135 v134 s_l1.2.2.1, Ent.blk b1 111 #[v2, (.int .i64 s_j4.1), (.int .i64 s_j4.2.1)], Ent.frz w0 (Ent.blk b1 111 #[v2, .int .i64 a0.at_, .int .i64 a0.seed]).S] w) (fun s_j4 => M.spec_l22DrawRace_j4 s_l1 s_j4 = some t136) ?_ ?_
        · refine CW.seq ?_
          refine CW.regionL ?_
          refine OW.cons (OP.val (v := (.pointer (some ⟨b1, 0, none⟩))) rfl (x_mv f307) ?_)
          obtain ⟨x346, hx347, hm⟩ := bndE hm
          refine OW.cons (OP.call rfl (x_call (vs := [(.pointer (some ⟨b1, 0, none⟩)), (.int .i64 6)]) Try_C84 ⟨rfl, rfl, trivial⟩) (M.spec_l01Next_ok _ (Src.mk a0.code x312.2.1 x312.2.2) (hL.exZ 3 2 (by decide) rfl rfl h3) (hL.get 2 rfl) 6 hx347) ?_)
          rintro e348 wd349 ⟨rfl, hF350⟩
          refine ⟨_, rfl, ?_⟩
          have hL := hL.mut 2 rfl hF350
          simp only [lA, lB, lC, lD] at hL
          refine OW.cons (OP.val (v := (.bool (x346.1 == 0))) rfl (x_eql rfl rfl) ?_)
          refine OW.nil ?_
          refine CW.condM (t := x346.1 == 0) rfl hm (fun hb351 hm => ?_) (fun hb351 hm => ?_)
          · refine CW.regionL ?_
            refine OW.cons (OP.val (v := (.int .i64 s_l1.2.2.2)) rfl (x_mv f310) ?_)
            refine OW.cons (OP.val (v := (.pointer (some ⟨b1, 0, none⟩))) rfl (x_mv f307) ?_)
            obtain ⟨x352, hx353, hm⟩ := bndE hm
            refine OW.cons (OP.call rfl (x_call (vs := [(.pointer (some ⟨b1, 0, none⟩)), (.int .i64 9)]) Try_C84 ⟨rfl, rfl, trivial⟩) (M.spec_l01Next_ok _ (Src.mk a0.code x346.2.1 x346.2.2) (hL.exZ 3 2 (by decide) rfl rfl h3) (hL.get 2 rfl) 9 hx353) ?_)
            rintro e354 wd355 ⟨rfl, hF356⟩
            refine ⟨_, rfl, ?_⟩
            have hL := hL.mut 2 rfl hF356
            simp only [lA, lB, lC, lD] at hL
            refine OW.cons (OP.val (v := (.int .i64 (w64 (1 + x352.1)))) rfl (x_add rfl rfl) ?_)
            refine OW.cons (OP.val (v := (.agg #[(.int .i64 s_l1.2.2.2), (.int .i64 (w64 (1 + x352.1))), (.int .i64 0)])) rfl (x_build Try_B56 (ps := [(0, (.int .i64 s_l1.2.2.2)), (1, (.int .i64 (w64 (1 + x352.1))))]) ⟨⟨rfl, rfl⟩, ⟨rfl, rfl⟩, trivial⟩ (by simp [Instr.fill, cells_int, cells_bool, cells_string, cells_agg, cells_slice, cells_pointer])) ?_)
            refine OW.cons (S_storeN (l := [(.int .i64 s_l1.2.2.2), (.int .i64 (w64 (1 + x352.1))), (.int .i64 0)]) (cs' := #[(.int .i64 s_l1.2.2.2), (.int .i64 (w64 (1 + x352.1))), (.int .i64 0)]) hL 0 rfl Try_T56 rfl rfl (List.forall_mem_cons.2 ⟨rfl, (List.forall_mem_cons.2 ⟨rfl, (List.forall_mem_cons.2 ⟨rfl, (fun _ h => by cases h)⟩)⟩)⟩) rfl (Nat.le_of_ble_eq_true rfl) rfl ?_)
            intro wd357 hL
            refine OW.nil ?_
            exact ⟨(x352.2.1, x352.2.2, w64 (1 + x352.1), 0), hm, ⟨f307, f308, f309, f310, rfl, hL⟩⟩
          · refine CW.skip ?_
            exact ⟨(x346.2.1, x346.2.2, 0, w64 (50000 + x312.1)), hm, ⟨f307, f308, f309, f310, rfl, hL⟩⟩
        · intro s_j4 F332 wd333 hJ hm
          unfold M.spec_l22DrawRace_j4 at hm
          obtain ⟨f334, f335, f336, f337, f338, hL⟩ := hJ
          refine CW.regionL ?_
          refine OW.cons (OP.val (v := v134) rfl (x_mv f336) ?_)
          refine OW.cons (OP.val (v := (.agg #[(.int .i64 s_l1.2.2.2), (.int .i64 s_j4.2.2.1), (.int .i64 s_j4.2.2.2)])) rfl (x_loadN (cs := [(.int .i64 s_l1.2.2.2), (.int .i64 s_j4.2.2.1), (.int .i64 s_j4.2.2.2)]) Try.underlying56 Try_T56 rfl f338 (hL.cellsB 0 rfl (o := 0) (l := [(.int .i64 s_l1.2.2.2), (.int .i64 s_j4.2.2.1), (.int .i64 s_j4.2.2.2)]) (by intro j u hj; exact (by simpa using hj)))) ?_)
          refine OW.cons (S_lit ([(Finish.mk s_l1.2.2.2 s_j4.2.2.1 s_j4.2.2.2)] : List Finish) hL Try.underlying28 Try_T56 rfl (by decide) (by first | (simp [Instr.fill, madeCells, Value.cells, ev, upd, Flat.enc, Flat.sz]; done) | rfl | kernel_rfl) rfl rfl ?_)
          intro wd339 v340 S341 hL
          obtain ⟨hc345, hm⟩ := chkE hm
          refine OW.cons (S_append (ys := ([(Finish.mk s_l1.2.2.2 s_j4.2.2.1 s_j4.2.2.2)] : List Finish)) hL 2 rfl Try.underlying28 Try_T56 rfl rfl rfl (hL.rdO 0 rfl) hc345 (by decide) rfl ?_)
          intro wd342 v343 S344 hL
          refine OW.cons (OP.val (v := v343) rfl (x_assign) ?_)
          refine OW.nil ?_
          refine CW.regionL ?_
          refine OW.cons (OP.val (v := (.int .i64 s_l1.2.2.2)) rfl (x_mv f337) ?_)
          refine OW.cons (OP.val (v := (.int .i64 (w64 (s_l1.2.2.2 + 1)))) rfl (x_add rfl rfl) ?_)
          refine OW.cons (OP.val (v := (.int .i64 (w64 (s_l1.2.2.2 + 1)))) rfl (x_assign) ?_)
          refine OW.nil ?_
          have hL := hL.sel [2, 3, 4] (by decide) rfl
          obtain rfl := Option.some.inj hm
          exact ⟨_, rfl, ⟨v343, S344, f334, f335, rfl, rfl, hL⟩⟩
      · refine CW.exit ?_
        refine XJ.hit ?_
        obtain rfl := Option.some.inj hm
        exact ⟨_, rfl, ⟨v134, S135, f307, f308, f309, f310, hL⟩⟩

theorem M.spec_l22DrawFactor_ok (w0 : World) {b1 : Nat} {v2 : Value} (a0 : Src) (h3 : rdL (fun k => k < w0.heap.size ∧ ¬ (Ent.blk b1 111 #[v2, .int .i64 a0.at_, .int .i64 a0.seed]).S k) w0 v2 a0.code) (he4 : (Ent.blk b1 111 #[v2, .int .i64 a0.at_, .int .i64 a0.seed]).H w0) {r : (Int) × (Int × Int)} (hm : M.spec_l22DrawFactor a0 = some r) :
    Calls Try.prog 85 #[(.pointer (some ⟨b1, 0, none⟩))] w0 fun e w' => e = .returned (.int .i64 r.1) ∧ Mut w0 w' (Ent.blk b1 111 #[v2, .int .i64 a0.at_, .int .i64 a0.seed]).S [Ent.blk b1 111 #[v2, .int .i64 r.2.1, .int .i64 r.2.2]] := by
  unfold M.spec_l22DrawFactor at hm
  refine calls_CW (args := [(.pointer (some ⟨b1, 0, none⟩))]) Try.func85 rfl rfl rfl ?_
  have hL := Hp.startIO he4
  refine CW.seq ?_
  refine CW.regionL ?_
  refine OW.cons (OP.val (v := (.int .i64 0)) rfl (x_assign) ?_)
  refine OW.nil ?_
  refine CW.seq ?_
  refine CW.seq ?_
  refine CW.regionL ?_
  refine OW.cons (OP.val (v := (.pointer (some ⟨b1, 0, none⟩))) rfl (x_move) ?_)
  obtain ⟨x5, hx6, hm⟩ := bndE hm
  refine OW.cons (OP.call rfl (x_call (vs := [(.pointer (some ⟨b1, 0, none⟩)), (.int .i64 24)]) Try_C84 ⟨rfl, rfl, trivial⟩) (M.spec_l01Next_ok _ (Src.mk a0.code a0.at_ a0.seed) (hL.exZ 1 0 (by decide) rfl rfl h3) (hL.get 0 rfl) 24 hx6) ?_)
  rintro e7 wd8 ⟨rfl, hF9⟩
  refine ⟨_, rfl, ?_⟩
  have hL := hL.mut 0 rfl hF9
  simp only [lA, lB, lC, lD] at hL
  refine OW.cons (OP.val (v := (.bool (x5.1 == 0))) rfl (x_eql rfl rfl) ?_)
  refine OW.nil ?_
  refine CW.condM (t := x5.1 == 0) rfl hm (fun hb10 hm => ?_) (fun hb10 hm => ?_)
  · refine CW.seq ?_
    refine CW.regionL ?_
    refine OW.cons (S_lit ([0, 1, 3000, 3001] : List Int) hL Try.underlying35 Try_T2 rfl (by decide) (by first | (simp [Instr.fill, madeCells, Value.cells, ev, upd, Flat.enc, Flat.sz]; done) | rfl | kernel_rfl) rfl rfl ?_)
    intro wd11 v12 S13 hL
    refine OW.cons (OP.val (v := (.pointer (some ⟨b1, 0, none⟩))) rfl (x_move) ?_)
    obtain ⟨x14, hx15, hm⟩ := bndE hm
    refine OW.cons (OP.call rfl (x_call (vs := [(.pointer (some ⟨b1, 0, none⟩)), (.int .i64 4)]) Try_C84 ⟨rfl, rfl, trivial⟩) (M.spec_l01Next_ok _ (Src.mk a0.code x5.2.1 x5.2.2) (hL.exZ 2 1 (by decide) rfl rfl h3) (hL.get 1 rfl) 4 hx15) ?_)
    rintro e16 wd17 ⟨rfl, hF18⟩
    refine ⟨_, rfl, ?_⟩
    have hL := hL.mut 1 rfl hF18
    simp only [lA, lB, lC, lD] at hL
    obtain ⟨x19, ha20, hm⟩ := bndE hm
    obtain ⟨hz21, ha25⟩ := idxE ha20
    obtain ⟨b22, q23, hix24⟩ := rdL_ix (hL.rdO 0 rfl) hz21 ha25
    refine OW.cons (OP.val (v := (.pointer (some ⟨b22, q23, none⟩))) rfl (x_ix Try.underlying35 Try_T2 rfl rfl hix24) ?_)
    refine OW.cons (OP.val (v := (.int .i64 x19)) rfl (x_load1 Try.underlying2 rfl rfl (rdF_cells (hL.rdO 0 rfl) hix24 ha25 0 _ rfl)) ?_)
    refine OW.cons (OP.val (v := (.int .i64 x19)) rfl (x_assign) ?_)
    refine OW.nil ?_
    refine CW.ret ?_
    obtain rfl := Option.some.inj hm
    exact RR1 rfl rfl ⟨rfl, hL.mutOut 2 rfl [1] (by decide) (by decide) rfl⟩
  · refine CW.skip ?_
    refine CW.seq ?_
    refine CW.regionL ?_
    refine OW.cons (OP.val (v := (.pointer (some ⟨b1, 0, none⟩))) rfl (x_move) ?_)
    obtain ⟨x26, hx27, hm⟩ := bndE hm
    refine OW.cons (OP.call rfl (x_call (vs := [(.pointer (some ⟨b1, 0, none⟩)), (.int .i64 700)]) Try_C84 ⟨rfl, rfl, trivial⟩) (M.spec_l01Next_ok _ (Src.mk a0.code x5.2.1 x5.2.2) (hL.exZ 1 0 (by decide) rfl rfl h3) (hL.get 0 rfl) 700 hx27) ?_)
    rintro e28 wd29 ⟨rfl, hF30⟩
    refine ⟨_, rfl, ?_⟩
    have hL := hL.mut 0 rfl hF30
    simp only [lA, lB, lC, lD] at hL
    refine OW.cons (OP.val (v := (.int .i64 (w64 (700 + x26.1)))) rfl (x_add rfl rfl) ?_)
    refine OW.cons (OP.val (v := (.int .i64 (w64 (700 + x26.1)))) rfl (x_assign) ?_)
    refine OW.nil ?_
    refine CW.ret ?_
    obtain rfl := Option.some.inj hm
    exact RR1 rfl rfl ⟨rfl, hL.mutOut 1 rfl [0] (by decide) (by decide) rfl⟩

theorem M.spec_l22DrawRatings_ok (w0 : World) {b1 : Nat} {v2 : Value} (a0 : Src) (h3 : rdL (fun k => k < w0.heap.size ∧ ¬ (Ent.blk b1 111 #[v2, .int .i64 a0.at_, .int .i64 a0.seed]).S k) w0 v2 a0.code) (he4 : (Ent.blk b1 111 #[v2, .int .i64 a0.at_, .int .i64 a0.seed]).H w0) (a1 : Int) {r : ((List Rating)) × (Int × Int)} (hm : M.spec_l22DrawRatings a0 a1 = some r) :
    Calls Try.prog 66 #[(.pointer (some ⟨b1, 0, none⟩)), (.int .i64 a1)] w0 fun e w' => ∃ (rv0 : Value) (rS0 : Nat → Prop), e = .returned rv0 ∧ Mut w0 w' (Ent.blk b1 111 #[v2, .int .i64 a0.at_, .int .i64 a0.seed]).S [Ent.blk b1 111 #[v2, .int .i64 r.2.1, .int .i64 r.2.2], Ent.own 61 rS0 rv0 r.1] := by
  unfold M.spec_l22DrawRatings at hm
  refine calls_CW (args := [(.pointer (some ⟨b1, 0, none⟩)), (.int .i64 a1)]) Try.func66 rfl rfl rfl ?_
  have hL := Hp.startIO he4
  refine CW.seq ?_
  refine CW.regionL ?_
  refine OW.cons (OP.val (v := (.slice none 0 0)) rfl (x_assign) ?_)
  refine OW.nil ?_
  refine CW.seq ?_
  refine CW.regionL ?_
  refine OW.cons (S_lit ([] : List Rating) hL Try.underlying30 Try_T61 rfl (by decide) (by first | (simp [Instr.fill, madeCells, Value.cells, ev, upd, Flat.enc, Flat.sz]; done) | rfl | kernel_rfl) rfl rfl ?_)
  intro wd5 v6 S7 hL
  refine OW.cons (OP.val (v := v6) rfl (x_assign) ?_)
  refine OW.nil ?_
  refine CW.seq ?_
  refine CW.seq ?_
  refine CW.regionL ?_
  refine OW.cons (OP.val (v := (.int .i64 0)) rfl (x_assign) ?_)
  refine OW.nil ?_
  obtain ⟨o58, ho59, hm⟩ := bndE hm
  refine CW.loopB (fun (s_l1 : Int × Int × (List Rating) × Int) (F : Fr) (w : World) => ∃ (v54 : Value) (S55 : Nat → Prop), F 0 = (.pointer (some ⟨b1, 0, none⟩)) ∧ F 1 = (.int .i64 a1) ∧ F 5 = v54 ∧ F 6 = (.int .i64 s_l1.2.2.2) ∧ Hp w0 [Ent.own 61 S55 v54 s_l1.2.2.1, Ent.blk b1 111 #[v2, (.int .i64 s_l1.1), (.int .i64 s_l1.2.1)], Ent.frz w0 (Ent.blk b1 111 #[v2, .int .i64 a0.at_, .int .i64 a0.seed]).S] w) (fun o => outc o (fun x => some x) (fun s => M.spec_l22DrawRatings_a1 a0 s) = some r) ho59 hm ⟨v6, S7, rfl, rfl, rfl, rfl, hL⟩ ?_ ?_
  · intro s_l1 F60 wd61 hJ hm
    have hm := outcE hm
    have hm : M.spec_l22DrawRatings_a1 a0 s_l1 = some r := hm
    unfold M.spec_l22DrawRatings_a1 at hm
    obtain ⟨v54, S55, f62, f63, f64, f65, hL⟩ := hJ
    refine CW.seqJ (fun (s_j1 : Int × Int × (List Rating)) (F : Fr) (w : World) => ∃ (S91 : Nat → Prop), F 5 = v54 ∧ Hp w0 [Ent.own 61 S91 v54 s_j1.2.2, Ent.blk b1 111 #[v2, (.int .i64 s_j1.1), (.int .i64 s_j1.2.1)], Ent.frz w0 (Ent.blk b1 111 #[v2, .int .i64 a0.at_, .int .i64 a0.seed]).S] w) (fun s_j1 => M.spec_l22DrawRatings_j1 s_j1 = some r) ?_ ?_
    · refine CW.seqJ (fun (s_j2 : Int × Int × Bool) (F : Fr) (w : World) => F 5 = v54 ∧ F 31 = (.bool s_j2.2.2) ∧ Hp w0 [Ent.own 61 S55 v54 s_l1.2.2.1, Ent.blk b1 111 #[v2, (.int .i64 s_j2.1), (.int .i64 s_j2.2.1)], Ent.frz w0 (Ent.blk b1 111 #[v2, .int .i64 a0.at_, .int .i64 a0.seed]).S] w) (fun s_j2 => M.spec_l22DrawRatings_j2 s_l1 s_j2 = some r) ?_ ?_
      · refine CW.regionL ?_
        refine OW.cons (OP.val (v := v54) rfl (x_mv f64) ?_)
        refine OW.cons (OP.val (v := (.int .i64 (s_l1.2.2.1.length : Int))) rfl (x_lenR Try.underlying30 rfl (hL.rdO 0 rfl)) ?_)
        refine OW.cons (OP.val (v := (.bool (decide (0 < (s_l1.2.2.1.length : Int))))) rfl (x_gtr rfl rfl) ?_)
        refine OW.cons (OP.val (v := (.bool (decide (0 < (s_l1.2.2.1.length : Int))))) rfl (x_move) ?_)
        refine ifB_elim hm (fun hb114 hm => ?_) (fun hb114 hm => ?_)
        · refine OW.cons (OP.yes' rfl rfl hb114 (OP.val (v := (.pointer (some ⟨b1, 0, none⟩))) rfl (x_mv f62) ?_))
          obtain ⟨x115, hx116, hm⟩ := bndE hm
          refine OW.cons (OP.yes' rfl rfl hb114 (OP.call rfl (x_call (vs := [(.pointer (some ⟨b1, 0, none⟩)), (.int .i64 24)]) Try_C84 ⟨rfl, rfl, trivial⟩) (M.spec_l01Next_ok _ (Src.mk a0.code s_l1.1 s_l1.2.1) (hL.exZ 2 1 (by decide) rfl rfl h3) (hL.get 1 rfl) 24 hx116) ?_))
          rintro e117 wd118 ⟨rfl, hF119⟩
          refine ⟨_, rfl, ?_⟩
          have hL := hL.mut 1 rfl hF119
          simp only [lA, lB, lC, lD] at hL
          refine OW.cons (OP.yes' rfl rfl hb114 (OP.val (v := (.bool (x115.1 == 0))) rfl (x_eql rfl rfl) ?_))
          refine OW.cons (OP.val (v := (.bool (x115.1 == 0))) rfl (x_pickT' rfl hb114 rfl) ?_)
          refine OW.nil ?_
          exact ⟨(x115.2.1, x115.2.2, x115.1 == 0), hm, ⟨f64, rfl, hL⟩⟩
        · refine OW.cons (OP.no' rfl rfl hb114 rfl ?_)
          refine OW.cons (OP.no' rfl rfl hb114 rfl ?_)
          refine OW.cons (OP.no' rfl rfl hb114 rfl ?_)
          refine OW.cons (OP.val (v := (.bool false)) rfl (x_pickF' rfl hb114 rfl) ?_)
          refine OW.nil ?_
          exact ⟨(s_l1.1, s_l1.2.1, false), hm, ⟨f64, rfl, hL⟩⟩
      · intro s_j2 F101 wd102 hJ hm
        unfold M.spec_l22DrawRatings_j2 at hm
        obtain ⟨f103, f104, hL⟩ := hJ
        refine CW.condM (t := s_j2.2.2) f104 hm (fun hb105 hm => ?_) (fun hb105 hm => ?_)
        · refine CW.regionL ?_
          refine OW.cons (OP.val (v := v54) rfl (x_mv f103) ?_)
          obtain ⟨x106, ha107, hm⟩ := bndE hm
          obtain ⟨hz108, ha112⟩ := idxE ha107
          obtain ⟨b109, q110, hix111⟩ := rdL_ix (hL.rdO 0 rfl) hz108 ha112
          refine OW.cons (OP.val (v := (.pointer (some ⟨b109, q110, none⟩))) rfl (x_ix Try.underlying30 Try_T61 rfl rfl hix111) ?_)
          refine OW.cons (OP.val (v := (.pointer (some ⟨b109, q110, none⟩))) rfl (x_fieldAddr (fsz := 1) q110 0 q110 Try.underlying61 rfl Try_T2 rfl rfl rfl) ?_)
          refine OW.cons (S_storeX (j := 0) (Rating.mk 1 x106.Value) hL 0 rfl Try_T2 hix111 ha112 rfl rfl rfl rfl rfl rfl ?_)
          intro wd113 hL
          refine OW.nil ?_
          exact ⟨(s_j2.1, s_j2.2.1, s_l1.2.2.1.set (0 : Int).toNat (Rating.mk 1 x106.Value)), hm, ⟨S55, f103, hL⟩⟩
        · refine CW.skip ?_
          exact ⟨(s_j2.1, s_j2.2.1, s_l1.2.2.1), hm, ⟨S55, f103, hL⟩⟩
    · intro s_j1 F92 wd93 hJ hm
      unfold M.spec_l22DrawRatings_j1 at hm
      obtain ⟨S91, f94, hL⟩ := hJ
      refine CW.seq ?_
      refine CW.regionL ?_
      refine OW.cons (OP.val (v := v54) rfl (x_mv f94) ?_)
      refine OW.cons (OP.val (v := v54) rfl (x_assign) ?_)
      refine OW.nil ?_
      refine CW.ret ?_
      obtain rfl := Option.some.inj hm
      exact RR1 rfl rfl ⟨v54, S91, rfl, hL.mutOut 2 rfl [1, 0] (by decide) (by decide) rfl⟩
  · intro s_l1 F120 wd121 t56 hJ hm hr57
    unfold M.spec_l22DrawRatings_l1 at hm
    obtain ⟨v54, S55, f122, f123, f124, f125, hL⟩ := hJ
    refine CW.seq ?_
    refine CW.seqJ (fun (s_j3 : Bool) (F : Fr) (w : World) => F 0 = (.pointer (some ⟨b1, 0, none⟩)) ∧ F 1 = (.int .i64 a1) ∧ F 5 = v54 ∧ F 6 = (.int .i64 s_l1.2.2.2) ∧ F 14 = (.bool s_j3) ∧ Hp w0 [Ent.own 61 S55 v54 s_l1.2.2.1, Ent.blk b1 111 #[v2, (.int .i64 s_l1.1), (.int .i64 s_l1.2.1)], Ent.frz w0 (Ent.blk b1 111 #[v2, .int .i64 a0.at_, .int .i64 a0.seed]).S] w) (fun s_j3 => M.spec_l22DrawRatings_j3 a0 s_l1 s_j3 = some t56) ?_ ?_
    · refine CW.regionL ?_
      refine OW.cons (OP.val (v := (.int .i64 s_l1.2.2.2)) rfl (x_mv f125) ?_)
      refine OW.cons (OP.val (v := (.int .i64 a1)) rfl (x_mv f123) ?_)
      refine OW.cons (OP.val (v := (.bool (decide (s_l1.2.2.2 < a1)))) rfl (x_lss rfl rfl) ?_)
      refine OW.cons (OP.val (v := (.bool (decide (s_l1.2.2.2 < a1)))) rfl (x_move) ?_)
      refine ifB_elim hm (fun hb147 hm => ?_) (fun hb147 hm => ?_)
      · refine OW.cons (OP.yes' rfl rfl hb147 (OP.val (v := (.int .i64 s_l1.2.2.2)) rfl (x_mv f125) ?_))
        refine OW.cons (OP.yes' rfl rfl hb147 (OP.val (v := (.bool (decide (s_l1.2.2.2 ≤ 16)))) rfl (x_leq rfl rfl) ?_))
        refine OW.cons (OP.val (v := (.bool (decide (s_l1.2.2.2 ≤ 16)))) rfl (x_pickT' rfl hb147 rfl) ?_)
        refine OW.nil ?_
        exact ⟨decide (s_l1.2.2.2 ≤ 16), hm, ⟨f122, f123, f124, f125, rfl, hL⟩⟩
      · refine OW.cons (OP.no' rfl rfl hb147 rfl ?_)
        refine OW.cons (OP.no' rfl rfl hb147 rfl ?_)
        refine OW.cons (OP.val (v := (.bool false)) rfl (x_pickF' rfl hb147 rfl) ?_)
        refine OW.nil ?_
        exact ⟨false, hm, ⟨f122, f123, f124, f125, rfl, hL⟩⟩
    · intro s_j3 F127 wd128 hJ hm
      unfold M.spec_l22DrawRatings_j3 at hm
      obtain ⟨f129, f130, f131, f132, f133, hL⟩ := hJ
      refine CW.condM (t := s_j3) f133 hm (fun hb134 hm => ?_) (fun hb134 hm => ?_)
      · refine CW.skip ?_
        refine CW.seq ?_
        refine CW.block ?_
        refine CW.regionL ?_
        refine OW.cons (OP.val (v := v54) rfl (x_mv f131) ?_)
        refine OW.cons (OP.val (v := (.int .i64 s_l1.2.2.2)) rfl (x_mv f132) ?_)
        refine OW.cons (OP.val (v := (.pointer (some ⟨b1, 0, none⟩))) rfl (x_mv f129) ?_)
        obtain ⟨x135, hx136, hm⟩ := bndE hm
        refine OW.cons (OP.call rfl (x_call (vs := [(.pointer (some ⟨b1, 0, none⟩))]) Try_C85 ⟨rfl, trivial⟩) (M.spec_l22DrawFactor_ok _ (Src.mk a0.code s_l1.1 s_l1.2.1) (hL.exZ 2 1 (by decide) rfl rfl h3) (hL.get 1 rfl) hx136) ?_)
        rintro e137 wd138 ⟨rfl, hF139⟩
        refine ⟨_, rfl, ?_⟩
        have hL := hL.mut 1 rfl hF139
        simp only [lA, lB, lC, lD] at hL
        refine OW.cons (OP.val (v := (.agg #[(.int .i64 s_l1.2.2.2), (.int .i64 x135.1)])) rfl (x_build Try_B61 (ps := [(0, (.int .i64 s_l1.2.2.2)), (1, (.int .i64 x135.1))]) ⟨⟨rfl, rfl⟩, ⟨rfl, rfl⟩, trivial⟩ (by simp [Instr.fill, cells_int, cells_bool, cells_string, cells_agg, cells_slice, cells_pointer])) ?_)
        refine OW.cons (S_lit ([(Rating.mk s_l1.2.2.2 x135.1)] : List Rating) hL Try.underlying30 Try_T61 rfl (by decide) (by first | (simp [Instr.fill, madeCells, Value.cells, ev, upd, Flat.enc, Flat.sz]; done) | rfl | kernel_rfl) rfl rfl ?_)
        intro wd140 v141 S142 hL
        obtain ⟨hc146, hm⟩ := chkE hm
        refine OW.cons (S_append (ys := ([(Rating.mk s_l1.2.2.2 x135.1)] : List Rating)) hL 1 rfl Try.underlying30 Try_T61 rfl rfl rfl (hL.rdO 0 rfl) hc146 (by decide) rfl ?_)
        intro wd143 v144 S145 hL
        refine OW.cons (OP.val (v := v144) rfl (x_assign) ?_)
        refine OW.nil ?_
        refine CW.regionL ?_
        refine OW.cons (OP.val (v := (.int .i64 s_l1.2.2.2)) rfl (x_mv f132) ?_)
        refine OW.cons (OP.val (v := (.int .i64 (w64 (s_l1.2.2.2 + 1)))) rfl (x_add rfl rfl) ?_)
        refine OW.cons (OP.val (v := (.int .i64 (w64 (s_l1.2.2.2 + 1)))) rfl (x_assign) ?_)
        refine OW.nil ?_
        have hL := hL.sel [1, 2, 3] (by decide) rfl
        obtain rfl := Option.some.inj hm
        exact ⟨_, rfl, ⟨v144, S145, f129, f130, rfl, rfl, hL⟩⟩
      · refine CW.exit ?_
        refine XJ.hit ?_
        obtain rfl := Option.some.inj hm
        exact ⟨_, rfl, ⟨v54, S55, f129, f130, f131, f132, hL⟩⟩

end Go.Proofs.Ytbkpfcpbpnmjaaa
