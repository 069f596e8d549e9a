/- Links: each Go function returns what its model computes and leaves what was there. Printed by my generator. -/
import Derived.Test.YtgelmamcinlahaaMod2
import Derived.Test.YtgelmamcinlahaaBase6
import Derived.Test.YtgelmamcinlahaaProg
import Derived.KernelRfl
namespace Go.Proofs.Ytgelmamcinlahaa
set_option maxRecDepth 10000
open Go Go.RowKit Go.ChangeShapes Go.WideShapes
set_option linter.unusedVariables false
set_option linter.unusedSimpArgs false

theorem Try_mixed : Try.prog.follows .mixedOrders = true := by kernel_rfl
theorem Try_T2 : TyI Try.prog 2 1 8 (.int .i64 0) := by unfold TyI; kernel_rfl
theorem Try_T3 : TyI Try.prog 3 1 8 (.int .i64 0) := by unfold TyI; kernel_rfl
theorem Try_T5 : TyI Try.prog 5 1 1 (.int .u8 0) := by unfold TyI; kernel_rfl
theorem Try_T22 : TyI Try.prog 22 1 24 (.slice none 0 0) := by unfold TyI; kernel_rfl
theorem Try_T24 : TyI Try.prog 24 3 40 (.agg #[.int .i64 0, .int .i64 0, .slice none 0 0]) := by unfold TyI; kernel_rfl
theorem Try_T29 : TyI Try.prog 29 1 24 (.slice none 0 0) := by unfold TyI; kernel_rfl
theorem Try_T31 : TyI Try.prog 31 3 40 (.agg #[.int .i64 0, .int .i64 0, .slice none 0 0]) := by unfold TyI; kernel_rfl
theorem Try_T38 : TyI Try.prog 38 1 24 (.slice none 0 0) := by unfold TyI; kernel_rfl
theorem Try_T44 : TyI Try.prog 44 1 24 (.slice none 0 0) := by unfold TyI; kernel_rfl
theorem Try_T46 : TyI Try.prog 46 1 24 (.agg #[.slice none 0 0]) := by unfold TyI; kernel_rfl
theorem Try_T48 : TyI Try.prog 48 4 32 (.agg #[.int .i64 0, .int .i64 0, .int .i64 0, .int .i64 0]) := by unfold TyI; kernel_rfl
theorem Try_T50 : TyI Try.prog 50 3 24 (.agg #[.int .i64 0, .int .i64 0, .int .i64 0]) := by unfold TyI; kernel_rfl
theorem Try_T54 : TyI Try.prog 54 1 24 (.slice none 0 0) := by unfold TyI; kernel_rfl
theorem Try_T56 : TyI Try.prog 56 3 56 (.agg #[.int .i64 0, .slice none 0 0, .slice none 0 0]) := by unfold TyI; kernel_rfl
theorem Try_T61 : TyI Try.prog 61 1 24 (.slice none 0 0) := by unfold TyI; kernel_rfl
theorem Try_T66 : TyI Try.prog 66 4 32 (.agg #[.int .i64 0, .int .i64 0, .int .i64 0, .int .i64 0]) := by unfold TyI; kernel_rfl
theorem Try_T84 : TyI Try.prog 84 1 24 (.slice none 0 0) := by unfold TyI; kernel_rfl
theorem Try_T86 : TyI Try.prog 86 1 24 (.agg #[.slice none 0 0]) := by unfold TyI; kernel_rfl
theorem Try_T114 : TyI Try.prog 114 3 24 (.agg #[.int .i64 0, .int .i64 0, .int .i64 0]) := by unfold TyI; kernel_rfl
theorem Try_B31 : BuildI Try.prog 31 [(0, 1), (1, 1), (2, 1)] #[.int .i64 0, .int .i64 0, .slice none 0 0] := by unfold BuildI; kernel_rfl
theorem Try_B46 : BuildI Try.prog 46 [(0, 1)] #[.slice none 0 0] := by unfold BuildI; kernel_rfl
theorem Try_B48 : BuildI Try.prog 48 [(0, 1), (1, 1), (2, 1), (3, 1)] #[.int .i64 0, .int .i64 0, .int .i64 0, .int .i64 0] := by unfold BuildI; kernel_rfl
theorem Try_B50 : BuildI Try.prog 50 [(0, 1), (1, 1), (2, 1)] #[.int .i64 0, .int .i64 0, .int .i64 0] := by unfold BuildI; kernel_rfl
theorem Try_B56 : BuildI Try.prog 56 [(0, 1), (1, 1), (2, 1)] #[.int .i64 0, .slice none 0 0, .slice none 0 0] := by unfold BuildI; kernel_rfl
theorem Try_B94 : BuildI Try.prog 94 [(0, 1), (1, 1), (2, 1)] #[.slice none 0 0, .int .i64 0, .int .i64 0] := by unfold BuildI; kernel_rfl
theorem Try_C8 : CallOK Try.prog 8 := ⟨_, _, Try.func8, rfl, by kernel_rfl⟩
theorem Try_C9 : CallOK Try.prog 9 := ⟨_, _, Try.func9, rfl, by kernel_rfl⟩
theorem Try_C10 : CallOK Try.prog 10 := ⟨_, _, Try.func10, rfl, by kernel_rfl⟩
theorem Try_C11 : CallOK Try.prog 11 := ⟨_, _, Try.func11, rfl, by kernel_rfl⟩
theorem Try_C12 : CallOK Try.prog 12 := ⟨_, _, Try.func12, rfl, by kernel_rfl⟩
theorem Try_C13 : CallOK Try.prog 13 := ⟨_, _, Try.func13, rfl, by kernel_rfl⟩
theorem Try_C14 : CallOK Try.prog 14 := ⟨_, _, Try.func14, rfl, by kernel_rfl⟩
theorem Try_C15 : CallOK Try.prog 15 := ⟨_, _, Try.func15, rfl, by kernel_rfl⟩
theorem Try_C16 : CallOK Try.prog 16 := ⟨_, _, Try.func16, rfl, by kernel_rfl⟩
theorem Try_C17 : CallOK Try.prog 17 := ⟨_, _, Try.func17, rfl, by kernel_rfl⟩
theorem Try_C18 : CallOK Try.prog 18 := ⟨_, _, Try.func18, rfl, by kernel_rfl⟩
theorem Try_C19 : CallOK Try.prog 19 := ⟨_, _, Try.func19, rfl, by kernel_rfl⟩
theorem Try_C20 : CallOK Try.prog 20 := ⟨_, _, Try.func20, rfl, by kernel_rfl⟩
theorem Try_C21 : CallOK Try.prog 21 := ⟨_, _, Try.func21, rfl, by kernel_rfl⟩
theorem Try_C22 : CallOK Try.prog 22 := ⟨_, _, Try.func22, rfl, by kernel_rfl⟩
theorem Try_C23 : CallOK Try.prog 23 := ⟨_, _, Try.func23, rfl, by kernel_rfl⟩
theorem Try_C24 : CallOK Try.prog 24 := ⟨_, _, Try.func24, rfl, by kernel_rfl⟩
theorem Try_C25 : CallOK Try.prog 25 := ⟨_, _, Try.func25, rfl, by kernel_rfl⟩
theorem Try_C26 : CallOK Try.prog 26 := ⟨_, _, Try.func26, rfl, by kernel_rfl⟩
theorem Try_C27 : CallOK Try.prog 27 := ⟨_, _, Try.func27, rfl, by kernel_rfl⟩
theorem Try_C28 : CallOK Try.prog 28 := ⟨_, _, Try.func28, rfl, by kernel_rfl⟩
theorem Try_C29 : CallOK Try.prog 29 := ⟨_, _, Try.func29, rfl, by kernel_rfl⟩
theorem Try_C30 : CallOK Try.prog 30 := ⟨_, _, Try.func30, rfl, by kernel_rfl⟩
theorem Try_C31 : CallOK Try.prog 31 := ⟨_, _, Try.func31, rfl, by kernel_rfl⟩
theorem Try_C32 : CallOK Try.prog 32 := ⟨_, _, Try.func32, rfl, by kernel_rfl⟩
theorem Try_C33 : CallOK Try.prog 33 := ⟨_, _, Try.func33, rfl, by kernel_rfl⟩
theorem Try_C34 : CallOK Try.prog 34 := ⟨_, _, Try.func34, rfl, by kernel_rfl⟩
theorem Try_C35 : CallOK Try.prog 35 := ⟨_, _, Try.func35, rfl, by kernel_rfl⟩
theorem Try_C36 : CallOK Try.prog 36 := ⟨_, _, Try.func36, rfl, by kernel_rfl⟩
theorem Try_C37 : CallOK Try.prog 37 := ⟨_, _, Try.func37, rfl, by kernel_rfl⟩
theorem Try_C38 : CallOK Try.prog 38 := ⟨_, _, Try.func38, rfl, by kernel_rfl⟩
theorem Try_C39 : CallOK Try.prog 39 := ⟨_, _, Try.func39, rfl, by kernel_rfl⟩
theorem Try_C40 : CallOK Try.prog 40 := ⟨_, _, Try.func40, rfl, by kernel_rfl⟩
theorem Try_C41 : CallOK Try.prog 41 := ⟨_, _, Try.func41, rfl, by kernel_rfl⟩
theorem Try_C42 : CallOK Try.prog 42 := ⟨_, _, Try.func42, rfl, by kernel_rfl⟩
theorem Try_C43 : CallOK Try.prog 43 := ⟨_, _, Try.func43, rfl, by kernel_rfl⟩
theorem Try_C44 : CallOK Try.prog 44 := ⟨_, _, Try.func44, rfl, by kernel_rfl⟩
theorem Try_C45 : CallOK Try.prog 45 := ⟨_, _, Try.func45, rfl, by kernel_rfl⟩
theorem Try_C46 : CallOK Try.prog 46 := ⟨_, _, Try.func46, rfl, by kernel_rfl⟩
theorem Try_C47 : CallOK Try.prog 47 := ⟨_, _, Try.func47, rfl, by kernel_rfl⟩
theorem Try_C48 : CallOK Try.prog 48 := ⟨_, _, Try.func48, rfl, by kernel_rfl⟩
theorem Try_C49 : CallOK Try.prog 49 := ⟨_, _, Try.func49, rfl, by kernel_rfl⟩
theorem Try_C50 : CallOK Try.prog 50 := ⟨_, _, Try.func50, rfl, by kernel_rfl⟩
theorem Try_C51 : CallOK Try.prog 51 := ⟨_, _, Try.func51, rfl, by kernel_rfl⟩
theorem Try_C52 : CallOK Try.prog 52 := ⟨_, _, Try.func52, rfl, by kernel_rfl⟩
theorem Try_C53 : CallOK Try.prog 53 := ⟨_, _, Try.func53, rfl, by kernel_rfl⟩
theorem Try_C54 : CallOK Try.prog 54 := ⟨_, _, Try.func54, rfl, by kernel_rfl⟩
theorem Try_C55 : CallOK Try.prog 55 := ⟨_, _, Try.func55, rfl, by kernel_rfl⟩
theorem Try_C56 : CallOK Try.prog 56 := ⟨_, _, Try.func56, rfl, by kernel_rfl⟩
theorem Try_C57 : CallOK Try.prog 57 := ⟨_, _, Try.func57, rfl, by kernel_rfl⟩
theorem Try_C58 : CallOK Try.prog 58 := ⟨_, _, Try.func58, rfl, by kernel_rfl⟩
theorem Try_C59 : CallOK Try.prog 59 := ⟨_, _, Try.func59, rfl, by kernel_rfl⟩
theorem Try_C60 : CallOK Try.prog 60 := ⟨_, _, Try.func60, rfl, by kernel_rfl⟩
theorem Try_C61 : CallOK Try.prog 61 := ⟨_, _, Try.func61, rfl, by kernel_rfl⟩
theorem Try_C62 : CallOK Try.prog 62 := ⟨_, _, Try.func62, rfl, by kernel_rfl⟩
theorem Try_C63 : CallOK Try.prog 63 := ⟨_, _, Try.func63, rfl, by kernel_rfl⟩
theorem Try_C64 : CallOK Try.prog 64 := ⟨_, _, Try.func64, rfl, by kernel_rfl⟩
theorem Try_C65 : CallOK Try.prog 65 := ⟨_, _, Try.func65, rfl, by kernel_rfl⟩
theorem Try_C66 : CallOK Try.prog 66 := ⟨_, _, Try.func66, rfl, by kernel_rfl⟩
theorem Try_C67 : CallOK Try.prog 67 := ⟨_, _, Try.func67, rfl, by kernel_rfl⟩
theorem Try_C68 : CallOK Try.prog 68 := ⟨_, _, Try.func68, rfl, by kernel_rfl⟩
theorem Try_C69 : CallOK Try.prog 69 := ⟨_, _, Try.func69, rfl, by kernel_rfl⟩
theorem Try_C70 : CallOK Try.prog 70 := ⟨_, _, Try.func70, rfl, by kernel_rfl⟩
theorem Try_C71 : CallOK Try.prog 71 := ⟨_, _, Try.func71, rfl, by kernel_rfl⟩
theorem Try_C72 : CallOK Try.prog 72 := ⟨_, _, Try.func72, rfl, by kernel_rfl⟩
theorem Try_C73 : CallOK Try.prog 73 := ⟨_, _, Try.func73, rfl, by kernel_rfl⟩
theorem Try_C74 : CallOK Try.prog 74 := ⟨_, _, Try.func74, rfl, by kernel_rfl⟩
theorem Try_C75 : CallOK Try.prog 75 := ⟨_, _, Try.func75, rfl, by kernel_rfl⟩
theorem Try_C76 : CallOK Try.prog 76 := ⟨_, _, Try.func76, rfl, by kernel_rfl⟩
theorem Try_C77 : CallOK Try.prog 77 := ⟨_, _, Try.func77, rfl, by kernel_rfl⟩
theorem Try_C78 : CallOK Try.prog 78 := ⟨_, _, Try.func78, rfl, by kernel_rfl⟩
theorem Try_C79 : CallOK Try.prog 79 := ⟨_, _, Try.func79, rfl, by kernel_rfl⟩
theorem Try_C80 : CallOK Try.prog 80 := ⟨_, _, Try.func80, rfl, by kernel_rfl⟩
theorem Try_C81 : CallOK Try.prog 81 := ⟨_, _, Try.func81, rfl, by kernel_rfl⟩
theorem Try_C82 : CallOK Try.prog 82 := ⟨_, _, Try.func82, rfl, by kernel_rfl⟩
theorem Try_C83 : CallOK Try.prog 83 := ⟨_, _, Try.func83, rfl, by kernel_rfl⟩
theorem Try_C84 : CallOK Try.prog 84 := ⟨_, _, Try.func84, rfl, by kernel_rfl⟩
theorem Try_C85 : CallOK Try.prog 85 := ⟨_, _, Try.func85, rfl, by kernel_rfl⟩
theorem Try_C86 : CallOK Try.prog 86 := ⟨_, _, Try.func86, rfl, by kernel_rfl⟩
theorem Try_C87 : CallOK Try.prog 87 := ⟨_, _, Try.func87, rfl, by kernel_rfl⟩
theorem Try_C88 : CallOK Try.prog 88 := ⟨_, _, Try.func88, rfl, by kernel_rfl⟩
theorem Try_C89 : CallOK Try.prog 89 := ⟨_, _, Try.func89, rfl, by kernel_rfl⟩
theorem Try_C90 : CallOK Try.prog 90 := ⟨_, _, Try.func90, rfl, by kernel_rfl⟩
theorem Try_C91 : CallOK Try.prog 91 := ⟨_, _, Try.func91, rfl, by kernel_rfl⟩
theorem Try_C92 : CallOK Try.prog 92 := ⟨_, _, Try.func92, rfl, by kernel_rfl⟩
theorem Try_C93 : CallOK Try.prog 93 := ⟨_, _, Try.func93, rfl, by kernel_rfl⟩
theorem Try_C94 : CallOK Try.prog 94 := ⟨_, _, Try.func94, rfl, by kernel_rfl⟩
theorem Try_C95 : CallOK Try.prog 95 := ⟨_, _, Try.func95, rfl, by kernel_rfl⟩
theorem Try_C96 : CallOK Try.prog 96 := ⟨_, _, Try.func96, rfl, by kernel_rfl⟩
theorem Try_C97 : CallOK Try.prog 97 := ⟨_, _, Try.func97, rfl, by kernel_rfl⟩
theorem Try_C98 : CallOK Try.prog 98 := ⟨_, _, Try.func98, rfl, by kernel_rfl⟩
theorem Try_C99 : CallOK Try.prog 99 := ⟨_, _, Try.func99, rfl, by kernel_rfl⟩

theorem M.laws_szFinishS_ok (w0 : World) (a0 : List Finish) {v1 : Value} (h2 : rdL (· < w0.heap.size) w0 v1 a0) (a1 : Int) {r : Int} (hm : M.laws_szFinishS a0 a1 = some r) :
    Calls Try.prog 84 #[v1, (.int .i64 a1)] w0 fun e w' => e = .returned (.int .i64 r) ∧ Fresh w0 w' [] := by
  unfold M.laws_szFinishS at hm
  refine calls_CW (args := [v1, (.int .i64 a1)]) Try.func84 rfl rfl rfl ?_
  have hL := Hp.start w0
  refine CW.seq ?_
  refine CW.regionL ?_
  refine OW.cons (OP.val (v := (.int .i64 0)) rfl (x_assign) ?_)
  refine OW.nil ?_
  refine CW.seq ?_
  refine CW.regionL ?_
  refine OW.cons (OP.val (v := (.int .i64 a1)) rfl (x_move) ?_)
  refine OW.cons (OP.val (v := v1) rfl (x_move) ?_)
  refine OW.cons (OP.val (v := (.int .i64 (a0.length : Int))) rfl (x_lenR Try.underlying84 rfl (hL.rdS 0 rfl h2)) ?_)
  refine OW.cons (OP.val (v := (.int .i64 (w64 (a1 - (a0.length : Int))))) rfl (x_sub rfl rfl) ?_)
  refine OW.cons (OP.val (v := (.int .i64 (w64 (a1 - (a0.length : Int))))) rfl (x_assign) ?_)
  refine OW.nil ?_
  refine CW.seq ?_
  refine CW.seq ?_
  refine CW.regionL ?_
  refine OW.cons (OP.val (v := (.int .i64 (w64 (a1 - (a0.length : Int))))) rfl (x_move) ?_)
  refine OW.cons (OP.val (v := (.bool (decide ((w64 (a1 - (a0.length : Int))) < 0)))) rfl (x_lss rfl rfl) ?_)
  refine OW.nil ?_
  refine CW.condM (t := decide ((w64 (a1 - (a0.length : Int))) < 0)) rfl hm (fun hb3 hm => ?_) (fun hb3 hm => ?_)
  · refine CW.seq ?_
    refine CW.regionL ?_
    refine OW.cons (OP.val (v := (.int .i64 (-1))) rfl (x_assign) ?_)
    refine OW.nil ?_
    refine CW.ret ?_
    obtain rfl := Option.some.inj hm
    exact RR1 rfl rfl ⟨rfl, hL.fresh 0 rfl [] (by decide) (by decide) rfl⟩
  · refine CW.skip ?_
    refine CW.seq ?_
    refine CW.regionL ?_
    refine OW.cons (OP.val (v := (.int .i64 (w64 (a1 - (a0.length : Int))))) rfl (x_move) ?_)
    refine OW.cons (OP.val (v := (.int .i64 (w64 (a1 - (a0.length : Int))))) rfl (x_assign) ?_)
    refine OW.nil ?_
    refine CW.ret ?_
    obtain rfl := Option.some.inj hm
    exact RR1 rfl rfl ⟨rfl, hL.fresh 0 rfl [] (by decide) (by decide) rfl⟩

theorem M.laws_szRace_ok (w0 : World) (a0 : Race) {v1 : Value} (h2 : rdL (· < w0.heap.size) w0 v1 a0.Finishes) (a1 : Int) {r : Int} (hm : M.laws_szRace a0 a1 = some r) :
    Calls Try.prog 60 #[(.agg #[v1]), (.int .i64 a1)] w0 fun e w' => e = .returned (.int .i64 r) ∧ Fresh w0 w' [] := by
  unfold M.laws_szRace at hm
  refine calls_CW (args := [(.agg #[v1]), (.int .i64 a1)]) Try.func60 rfl rfl rfl ?_
  have hL := Hp.start w0
  refine CW.seq ?_
  refine CW.regionL ?_
  refine OW.cons (S_box (cs := #[v1]) hL rfl rfl rfl ?_)
  intro wd3 b4 hL
  refine OW.cons (OP.val (v := (.int .i64 0)) rfl (x_assign) ?_)
  refine OW.nil ?_
  refine CW.seq ?_
  refine CW.regionL ?_
  refine OW.cons (OP.val (v := (.pointer (some ⟨b4, 0, none⟩))) rfl (x_fieldAddr (fsz := 1) 0 0 0 Try.underlying86 rfl Try_T84 rfl rfl rfl) ?_)
  refine OW.cons (OP.val (v := v1) rfl (x_load1 Try.underlying84 rfl rfl (hL.cellB 0 rfl rfl)) ?_)
  refine OW.cons (OP.val (v := (.int .i64 a1)) rfl (x_move) ?_)
  obtain ⟨x5, hx6, hm⟩ := bndE hm
  refine OW.cons (OP.call rfl (x_call (vs := [v1, (.int .i64 a1)]) Try_C84 ⟨rfl, rfl, trivial⟩) (M.laws_szFinishS_ok _ a0.Finishes (hL.rdS 1 rfl h2) a1 hx6) ?_)
  rintro e7 wd8 ⟨rfl, hF9⟩
  refine ⟨_, rfl, ?_⟩
  have hL := hL.pushAll hF9
  simp only [List.cons_append, List.nil_append, List.set_cons_zero, List.set_cons_succ] at hL
  refine OW.cons (OP.val (v := (.int .i64 x5)) rfl (x_assign) ?_)
  refine OW.nil ?_
  refine CW.seq ?_
  refine CW.seq ?_
  refine CW.regionL ?_
  refine OW.cons (OP.val (v := (.int .i64 x5)) rfl (x_move) ?_)
  refine OW.cons (OP.val (v := (.bool (decide (x5 < 0)))) rfl (x_lss rfl rfl) ?_)
  refine OW.nil ?_
  refine CW.condM (t := decide (x5 < 0)) rfl hm (fun hb10 hm => ?_) (fun hb10 hm => ?_)
  · refine CW.seq ?_
    refine CW.regionL ?_
    refine OW.cons (OP.val (v := (.int .i64 (-1))) rfl (x_assign) ?_)
    refine OW.nil ?_
    refine CW.ret ?_
    obtain rfl := Option.some.inj hm
    exact RR1 rfl rfl ⟨rfl, hL.fresh 1 rfl [] (by decide) (by decide) rfl⟩
  · refine CW.skip ?_
    refine CW.seq ?_
    refine CW.regionL ?_
    refine OW.cons (OP.val (v := (.int .i64 x5)) rfl (x_move) ?_)
    refine OW.cons (OP.val (v := (.int .i64 x5)) rfl (x_assign) ?_)
    refine OW.nil ?_
    refine CW.ret ?_
    obtain rfl := Option.some.inj hm
    exact RR1 rfl rfl ⟨rfl, hL.fresh 1 rfl [] (by decide) (by decide) rfl⟩

theorem M.laws_szRaceS_ok (w0 : World) (a0 : List Race) {v1 : Value} (h2 : rdL (· < w0.heap.size) w0 v1 a0) (a1 : Int) {r : Int} (hm : M.laws_szRaceS a0 a1 = some r) :
    Calls Try.prog 33 #[v1, (.int .i64 a1)] w0 fun e w' => e = .returned (.int .i64 r) ∧ Fresh w0 w' [] := by
  unfold M.laws_szRaceS at hm
  refine calls_CW (args := [v1, (.int .i64 a1)]) Try.func33 rfl rfl rfl ?_
  have hL := Hp.start w0
  refine CW.seq ?_
  refine CW.regionL ?_
  refine OW.cons (OP.val (v := (.int .i64 0)) rfl (x_assign) ?_)
  refine OW.nil ?_
  refine CW.seq ?_
  refine CW.regionL ?_
  refine OW.cons (OP.val (v := (.int .i64 a1)) rfl (x_move) ?_)
  refine OW.cons (OP.val (v := v1) rfl (x_move) ?_)
  refine OW.cons (OP.val (v := (.int .i64 (a0.length : Int))) rfl (x_lenR Try.underlying22 rfl (hL.rdS 0 rfl h2)) ?_)
  refine OW.cons (OP.val (v := (.int .i64 (w64 (a1 - (a0.length : Int))))) rfl (x_sub rfl rfl) ?_)
  refine OW.cons (OP.val (v := (.int .i64 (w64 (a1 - (a0.length : Int))))) rfl (x_assign) ?_)
  refine OW.nil ?_
  refine CW.seq ?_
  refine CW.seq ?_
  refine CW.regionL ?_
  refine OW.cons (OP.val (v := (.int .i64 (w64 (a1 - (a0.length : Int))))) rfl (x_move) ?_)
  refine OW.cons (OP.val (v := (.bool (decide ((w64 (a1 - (a0.length : Int))) < 0)))) rfl (x_lss rfl rfl) ?_)
  refine OW.nil ?_
  refine CW.condM (t := decide ((w64 (a1 - (a0.length : Int))) < 0)) rfl hm (fun hb3 hm => ?_) (fun hb3 hm => ?_)
  · refine CW.seq ?_
    refine CW.regionL ?_
    refine OW.cons (OP.val (v := (.int .i64 (-1))) rfl (x_assign) ?_)
    refine OW.nil ?_
    refine CW.ret ?_
    obtain rfl := Option.some.inj hm
    exact RR1 rfl rfl ⟨rfl, hL.fresh 0 rfl [] (by decide) (by decide) rfl⟩
  · refine CW.skip ?_
    refine CW.seq ?_
    refine CW.seq ?_
    refine CW.regionL ?_
    refine OW.cons (OP.val (v := (.int .i64 0)) rfl (x_assign) ?_)
    refine OW.nil ?_
    obtain ⟨o42, ho43, hm⟩ := bndE hm
    refine CW.loopB (fun (s_l1 : Int × Int) (F : Fr) (w : World) => F 0 = v1 ∧ F 1 = (.int .i64 s_l1.1) ∧ F 5 = (.int .i64 s_l1.2) ∧ Hp w0 [Ent.snap w0 w0.heap.size] w) (fun o => outc o (fun x => some x) (fun s => M.laws_szRaceS_a1 s) = some r) ho43 hm ⟨rfl, rfl, rfl, hL⟩ ?_ ?_
    · intro s_l1 F44 wd45 hJ hm
      have hm := outcE hm
      have hm : M.laws_szRaceS_a1 s_l1 = some r := hm
      unfold M.laws_szRaceS_a1 at hm
      obtain ⟨f46, f47, f48, hL⟩ := hJ
      refine CW.seq ?_
      refine CW.regionL ?_
      refine OW.cons (OP.val (v := (.int .i64 s_l1.1)) rfl (x_mv f47) ?_)
      refine OW.cons (OP.val (v := (.int .i64 s_l1.1)) rfl (x_assign) ?_)
      refine OW.nil ?_
      refine CW.ret ?_
      obtain rfl := Option.some.inj hm
      exact RR1 rfl rfl ⟨rfl, hL.fresh 0 rfl [] (by decide) (by decide) rfl⟩
    · intro s_l1 F49 wd50 t40 hJ hm hr41
      unfold M.laws_szRaceS_l1 at hm
      obtain ⟨f51, f52, f53, hL⟩ := hJ
      refine CW.seq ?_
      refine CW.seq ?_
      refine CW.regionL ?_
      refine OW.cons (OP.val (v := (.int .i64 s_l1.2)) rfl (x_mv f53) ?_)
      refine OW.cons (OP.val (v := v1) rfl (x_mv f51) ?_)
      refine OW.cons (OP.val (v := (.int .i64 (a0.length : Int))) rfl (x_lenR Try.underlying22 rfl (hL.rdS 0 rfl h2)) ?_)
      refine OW.cons (OP.val (v := (.bool (decide (s_l1.2 < (a0.length : Int))))) rfl (x_lss rfl rfl) ?_)
      refine OW.nil ?_
      refine CW.condM (t := decide (s_l1.2 < (a0.length : Int))) rfl hm (fun hb54 hm => ?_) (fun hb54 hm => ?_)
      · refine CW.skip ?_
        refine CW.seq ?_
        refine CW.block ?_
        refine CW.seq ?_
        refine CW.regionL ?_
        refine OW.cons (OP.val (v := v1) rfl (x_mv f51) ?_)
        refine OW.cons (OP.val (v := (.int .i64 s_l1.2)) rfl (x_mv f53) ?_)
        obtain ⟨x55, ha56, hm⟩ := bndE hm
        obtain ⟨hz57, ha65⟩ := idxE ha56
        obtain ⟨b58, q59, v60, hix61, hs62, hc63, hr64⟩ := rdN_at h2 hz57 ha65
        refine OW.cons (OP.val (v := (.pointer (some ⟨b58, q59, none⟩))) rfl (x_ix Try.underlying22 Try_T86 rfl rfl hix61) ?_)
        refine OW.cons (OP.val (v := (.agg #[v60])) rfl (x_loadN (cs := [v60]) Try.underlying86 Try_T86 rfl rfl (by intro j u hj; match j, hj with | 0, hj => (simp at hj; subst hj; exact (hL.cellS 0 rfl hs62 hc63)))) ?_)
        refine OW.cons (OP.val (v := (.int .i64 s_l1.1)) rfl (x_mv f52) ?_)
        obtain ⟨x66, hx67, hm⟩ := bndE hm
        refine OW.cons (OP.call rfl (x_call (vs := [(.agg #[v60]), (.int .i64 s_l1.1)]) Try_C60 ⟨rfl, rfl, trivial⟩) (M.laws_szRace_ok _ x55 (hL.rdS 0 rfl hr64) s_l1.1 hx67) ?_)
        rintro e68 wd69 ⟨rfl, hF70⟩
        refine ⟨_, rfl, ?_⟩
        have hL := hL.pushAll hF70
        simp only [List.cons_append, List.nil_append, List.set_cons_zero, List.set_cons_succ] at hL
        refine OW.cons (OP.val (v := (.int .i64 x66)) rfl (x_assign) ?_)
        refine OW.nil ?_
        refine CW.seq ?_
        refine CW.regionL ?_
        refine OW.cons (OP.val (v := (.int .i64 x66)) rfl (x_move) ?_)
        refine OW.cons (OP.val (v := (.bool (decide (x66 < 0)))) rfl (x_lss rfl rfl) ?_)
        refine OW.nil ?_
        refine CW.condM (t := decide (x66 < 0)) rfl hm (fun hb71 hm => ?_) (fun hb71 hm => ?_)
        · refine CW.seq ?_
          refine CW.regionL ?_
          refine OW.cons (OP.val (v := (.int .i64 (-1))) rfl (x_assign) ?_)
          refine OW.nil ?_
          refine CW.ret ?_
          obtain rfl := Option.some.inj hm
          have hm := hr41 _ rfl
          obtain rfl := Option.some.inj hm
          exact RR1 rfl rfl ⟨rfl, hL.fresh 0 rfl [] (by decide) (by decide) rfl⟩
        · refine CW.skip ?_
          refine CW.regionL ?_
          refine OW.cons (OP.val (v := (.int .i64 s_l1.2)) rfl (x_mv f53) ?_)
          refine OW.cons (OP.val (v := (.int .i64 (w64 (s_l1.2 + 1)))) rfl (x_add rfl rfl) ?_)
          refine OW.cons (OP.val (v := (.int .i64 (w64 (s_l1.2 + 1)))) rfl (x_assign) ?_)
          refine OW.nil ?_
          obtain rfl := Option.some.inj hm
          exact ⟨_, rfl, ⟨f51, rfl, rfl, hL⟩⟩
      · refine CW.exit ?_
        refine XJ.hit ?_
        obtain rfl := Option.some.inj hm
        exact ⟨_, rfl, ⟨f51, f52, f53, hL⟩⟩

theorem M.laws_szSeries_ok (w0 : World) (a0 : Series) {v1 : Value} (h2 : rdL (· < w0.heap.size) w0 v1 a0.Races) (a1 : Int) {r : Int} (hm : M.laws_szSeries a0 a1 = some r) :
    Calls Try.prog 8 #[(.agg #[(.int .i64 a0.Boats), (.int .i64 a0.Scheme), v1]), (.int .i64 a1)] w0 fun e w' => e = .returned (.int .i64 r) ∧ Fresh w0 w' [] := by
  unfold M.laws_szSeries at hm
  refine calls_CW (args := [(.agg #[(.int .i64 a0.Boats), (.int .i64 a0.Scheme), v1]), (.int .i64 a1)]) Try.func8 rfl rfl rfl ?_
  have hL := Hp.start w0
  refine CW.seq ?_
  refine CW.regionL ?_
  refine OW.cons (S_box (cs := #[(.int .i64 a0.Boats), (.int .i64 a0.Scheme), v1]) hL rfl rfl rfl ?_)
  intro wd3 b4 hL
  refine OW.cons (OP.val (v := (.int .i64 0)) rfl (x_assign) ?_)
  refine OW.nil ?_
  refine CW.seq ?_
  refine CW.regionL ?_
  refine OW.cons (OP.val (v := (.pointer (some ⟨b4, 2, none⟩))) rfl (x_fieldAddr (fsz := 1) 0 2 2 Try.underlying24 rfl Try_T22 rfl rfl rfl) ?_)
  refine OW.cons (OP.val (v := v1) rfl (x_load1 Try.underlying22 rfl rfl (hL.cellB 0 rfl rfl)) ?_)
  refine OW.cons (OP.val (v := (.int .i64 a1)) rfl (x_move) ?_)
  obtain ⟨x5, hx6, hm⟩ := bndE hm
  refine OW.cons (OP.call rfl (x_call (vs := [v1, (.int .i64 a1)]) Try_C33 ⟨rfl, rfl, trivial⟩) (M.laws_szRaceS_ok _ a0.Races (hL.rdS 1 rfl h2) a1 hx6) ?_)
  rintro e7 wd8 ⟨rfl, hF9⟩
  refine ⟨_, rfl, ?_⟩
  have hL := hL.pushAll hF9
  simp only [List.cons_append, List.nil_append, List.set_cons_zero, List.set_cons_succ] at hL
  refine OW.cons (OP.val (v := (.int .i64 x5)) rfl (x_assign) ?_)
  refine OW.nil ?_
  refine CW.seq ?_
  refine CW.seq ?_
  refine CW.regionL ?_
  refine OW.cons (OP.val (v := (.int .i64 x5)) rfl (x_move) ?_)
  refine OW.cons (OP.val (v := (.bool (decide (x5 < 0)))) rfl (x_lss rfl rfl) ?_)
  refine OW.nil ?_
  refine CW.condM (t := decide (x5 < 0)) rfl hm (fun hb10 hm => ?_) (fun hb10 hm => ?_)
  · refine CW.seq ?_
    refine CW.regionL ?_
    refine OW.cons (OP.val (v := (.int .i64 (-1))) rfl (x_assign) ?_)
    refine OW.nil ?_
    refine CW.ret ?_
    obtain rfl := Option.some.inj hm
    exact RR1 rfl rfl ⟨rfl, hL.fresh 1 rfl [] (by decide) (by decide) rfl⟩
  · refine CW.skip ?_
    refine CW.seq ?_
    refine CW.regionL ?_
    refine OW.cons (OP.val (v := (.int .i64 x5)) rfl (x_move) ?_)
    refine OW.cons (OP.val (v := (.int .i64 x5)) rfl (x_assign) ?_)
    refine OW.nil ?_
    refine CW.ret ?_
    obtain rfl := Option.some.inj hm
    exact RR1 rfl rfl ⟨rfl, hL.fresh 1 rfl [] (by decide) (by decide) rfl⟩

theorem M.laws_szPenaltyS_ok (w0 : World) (a0 : List Penalty) {v1 : Value} (h2 : rdL (· < w0.heap.size) w0 v1 a0) (a1 : Int) {r : Int} (hm : M.laws_szPenaltyS a0 a1 = some r) :
    Calls Try.prog 9 #[v1, (.int .i64 a1)] w0 fun e w' => e = .returned (.int .i64 r) ∧ Fresh w0 w' [] := by
  unfold M.laws_szPenaltyS at hm
  refine calls_CW (args := [v1, (.int .i64 a1)]) Try.func9 rfl rfl rfl ?_
  have hL := Hp.start w0
  refine CW.seq ?_
  refine CW.regionL ?_
  refine OW.cons (OP.val (v := (.int .i64 0)) rfl (x_assign) ?_)
  refine OW.nil ?_
  refine CW.seq ?_
  refine CW.regionL ?_
  refine OW.cons (OP.val (v := (.int .i64 a1)) rfl (x_move) ?_)
  refine OW.cons (OP.val (v := v1) rfl (x_move) ?_)
  refine OW.cons (OP.val (v := (.int .i64 (a0.length : Int))) rfl (x_lenR Try.underlying25 rfl (hL.rdS 0 rfl h2)) ?_)
  refine OW.cons (OP.val (v := (.int .i64 (w64 (a1 - (a0.length : Int))))) rfl (x_sub rfl rfl) ?_)
  refine OW.cons (OP.val (v := (.int .i64 (w64 (a1 - (a0.length : Int))))) rfl (x_assign) ?_)
  refine OW.nil ?_
  refine CW.seq ?_
  refine CW.seq ?_
  refine CW.regionL ?_
  refine OW.cons (OP.val (v := (.int .i64 (w64 (a1 - (a0.length : Int))))) rfl (x_move) ?_)
  refine OW.cons (OP.val (v := (.bool (decide ((w64 (a1 - (a0.length : Int))) < 0)))) rfl (x_lss rfl rfl) ?_)
  refine OW.nil ?_
  refine CW.condM (t := decide ((w64 (a1 - (a0.length : Int))) < 0)) rfl hm (fun hb3 hm => ?_) (fun hb3 hm => ?_)
  · refine CW.seq ?_
    refine CW.regionL ?_
    refine OW.cons (OP.val (v := (.int .i64 (-1))) rfl (x_assign) ?_)
    refine OW.nil ?_
    refine CW.ret ?_
    obtain rfl := Option.some.inj hm
    exact RR1 rfl rfl ⟨rfl, hL.fresh 0 rfl [] (by decide) (by decide) rfl⟩
  · refine CW.skip ?_
    refine CW.seq ?_
    refine CW.regionL ?_
    refine OW.cons (OP.val (v := (.int .i64 (w64 (a1 - (a0.length : Int))))) rfl (x_move) ?_)
    refine OW.cons (OP.val (v := (.int .i64 (w64 (a1 - (a0.length : Int))))) rfl (x_assign) ?_)
    refine OW.nil ?_
    refine CW.ret ?_
    obtain rfl := Option.some.inj hm
    exact RR1 rfl rfl ⟨rfl, hL.fresh 0 rfl [] (by decide) (by decide) rfl⟩

theorem M.laws_toFinish_ok (w0 : World) (a0 : Finish) {r : Finish} (hm : M.laws_toFinish a0 = some r) :
    Calls Try.prog 96 #[(.agg #[(.int .i64 a0.Boat), (.int .i64 a0.Code), (.int .i64 a0.Time)])] w0 fun e w' => e = .returned (.agg #[(.int .i64 r.Boat), (.int .i64 r.Code), (.int .i64 r.Time)]) ∧ Fresh w0 w' [] := by
  unfold M.laws_toFinish at hm
  refine calls_CW (args := [(.agg #[(.int .i64 a0.Boat), (.int .i64 a0.Code), (.int .i64 a0.Time)])]) Try.func96 rfl rfl rfl ?_
  have hL := Hp.start w0
  refine CW.seq ?_
  refine CW.regionL ?_
  refine OW.cons (S_box (cs := #[(.int .i64 a0.Boat), (.int .i64 a0.Code), (.int .i64 a0.Time)]) hL rfl rfl rfl ?_)
  intro wd1 b2 hL
  refine OW.cons (S_alloc (cs := #[(.int .i64 0), (.int .i64 0), (.int .i64 0)]) hL Try_T50 rfl rfl ?_)
  intro wd3 b4 hL
  refine OW.nil ?_
  refine CW.seq ?_
  refine CW.regionL ?_
  refine OW.cons (S_alloc (cs := #[(.int .i64 0), (.int .i64 0), (.int .i64 0)]) hL Try_T50 rfl rfl ?_)
  intro wd5 b6 hL
  refine OW.nil ?_
  refine CW.seq ?_
  refine CW.regionL ?_
  refine OW.cons (OP.val (v := (.pointer (some ⟨b2, 0, none⟩))) rfl (x_fieldAddr (fsz := 1) 0 0 0 Try.underlying114 rfl Try_T2 rfl rfl rfl) ?_)
  refine OW.cons (OP.val (v := (.int .i64 a0.Boat)) rfl (x_load1 Try.underlying2 rfl rfl (hL.cellB 2 rfl rfl)) ?_)
  refine OW.cons (OP.val (v := (.pointer (some ⟨b6, 0, none⟩))) rfl (x_fieldAddr (fsz := 1) 0 0 0 Try.underlying50 rfl Try_T2 rfl rfl rfl) ?_)
  refine OW.cons (S_store (cs' := #[(.int .i64 a0.Boat), (.int .i64 0), (.int .i64 0)]) hL 0 rfl Try_T2 rfl rfl rfl rfl rfl ?_)
  intro wd7 hL
  refine OW.nil ?_
  refine CW.seq ?_
  refine CW.regionL ?_
  refine OW.cons (OP.val (v := (.pointer (some ⟨b2, 1, none⟩))) rfl (x_fieldAddr (fsz := 1) 0 1 1 Try.underlying114 rfl Try_T2 rfl rfl rfl) ?_)
  refine OW.cons (OP.val (v := (.int .i64 a0.Code)) rfl (x_load1 Try.underlying2 rfl rfl (hL.cellB 2 rfl rfl)) ?_)
  refine OW.cons (OP.val (v := (.pointer (some ⟨b6, 1, none⟩))) rfl (x_fieldAddr (fsz := 1) 0 1 1 Try.underlying50 rfl Try_T2 rfl rfl rfl) ?_)
  refine OW.cons (S_store (cs' := #[(.int .i64 a0.Boat), (.int .i64 a0.Code), (.int .i64 0)]) hL 0 rfl Try_T2 rfl rfl rfl rfl rfl ?_)
  intro wd8 hL
  refine OW.nil ?_
  refine CW.seq ?_
  refine CW.regionL ?_
  refine OW.cons (OP.val (v := (.pointer (some ⟨b2, 2, none⟩))) rfl (x_fieldAddr (fsz := 1) 0 2 2 Try.underlying114 rfl Try_T2 rfl rfl rfl) ?_)
  refine OW.cons (OP.val (v := (.int .i64 a0.Time)) rfl (x_load1 Try.underlying2 rfl rfl (hL.cellB 2 rfl rfl)) ?_)
  refine OW.cons (OP.val (v := (.pointer (some ⟨b6, 2, none⟩))) rfl (x_fieldAddr (fsz := 1) 0 2 2 Try.underlying50 rfl Try_T2 rfl rfl rfl) ?_)
  refine OW.cons (S_store (cs' := #[(.int .i64 a0.Boat), (.int .i64 a0.Code), (.int .i64 a0.Time)]) hL 0 rfl Try_T2 rfl rfl rfl rfl rfl ?_)
  intro wd9 hL
  refine OW.nil ?_
  refine CW.seq ?_
  refine CW.regionL ?_
  refine OW.cons (OP.val (v := (.agg #[(.int .i64 a0.Boat), (.int .i64 a0.Code), (.int .i64 a0.Time)])) rfl (x_loadN (cs := [(.int .i64 a0.Boat), (.int .i64 a0.Code), (.int .i64 a0.Time)]) Try.underlying50 Try_T50 rfl rfl (hL.cellsB 0 rfl (o := 0) (l := [(.int .i64 a0.Boat), (.int .i64 a0.Code), (.int .i64 a0.Time)]) (by intro j u hj; exact (by simpa using hj)))) ?_)
  refine OW.cons (S_storeN (l := [(.int .i64 a0.Boat), (.int .i64 a0.Code), (.int .i64 a0.Time)]) (cs' := #[(.int .i64 a0.Boat), (.int .i64 a0.Code), (.int .i64 a0.Time)]) hL 1 rfl Try_T50 rfl rfl (List.forall_mem_cons.2 ⟨rfl, (List.forall_mem_cons.2 ⟨rfl, (List.forall_mem_cons.2 ⟨rfl, (fun _ h => by cases h)⟩)⟩)⟩) rfl (Nat.le_of_ble_eq_true rfl) rfl ?_)
  intro wd10 hL
  refine OW.nil ?_
  refine CW.ret ?_
  obtain rfl := Option.some.inj hm
  exact RRc rfl rfl (run_loadBlk Try.underlying50 Try_T50 (hL.get 1 rfl) rfl) ⟨rfl, hL.fresh 3 rfl [] (by decide) (by decide) rfl⟩

theorem M.laws_toFinishS_ok (w0 : World) (a0 : List Finish) {v1 : Value} (h2 : rdL (· < w0.heap.size) w0 v1 a0) {r : (List Finish)} (hm : M.laws_toFinishS a0 = some r) :
    Calls Try.prog 87 #[v1] w0 fun e w' => ∃ (rv0 : Value) (rS0 : Nat → Prop), e = .returned rv0 ∧ Fresh w0 w' [Ent.own 50 rS0 rv0 r] := by
  unfold M.laws_toFinishS at hm
  refine calls_CW (args := [v1]) Try.func87 rfl rfl rfl ?_
  have hL := Hp.start w0
  refine CW.seq ?_
  refine CW.regionL ?_
  refine OW.cons (OP.val (v := (.slice none 0 0)) rfl (x_assign) ?_)
  refine OW.nil ?_
  refine CW.seq ?_
  refine CW.regionL ?_
  refine OW.cons (OP.val (v := v1) rfl (x_move) ?_)
  refine OW.cons (OP.val (v := (.int .i64 (a0.length : Int))) rfl (x_lenR Try.underlying84 rfl (hL.rdS 0 rfl h2)) ?_)
  obtain ⟨hc6, hm⟩ := chkE hm
  refine OW.cons (S_make (α := Finish) (Finish.mk 0 0 0) hL Try.underlying44 Try_T50 rfl rfl rfl hc6 (by decide) rfl ?_)
  intro wd3 v4 S5 hL
  refine OW.cons (OP.val (v := v4) rfl (x_assign) ?_)
  refine OW.nil ?_
  refine CW.seq ?_
  refine CW.seq ?_
  refine CW.regionL ?_
  refine OW.cons (OP.val (v := (.int .i64 0)) rfl (x_assign) ?_)
  refine OW.nil ?_
  obtain ⟨o53, ho54, hm⟩ := bndE hm
  refine CW.loopB (fun (s_l1 : (List Finish) × Int) (F : Fr) (w : World) => ∃ (S50 : Nat → Prop), F 0 = v1 ∧ F 3 = v4 ∧ F 4 = (.int .i64 s_l1.2) ∧ Hp w0 [Ent.own 50 S50 v4 s_l1.1, Ent.snap w0 w0.heap.size] w) (fun o => outc o (fun x => some x) (fun s => M.laws_toFinishS_a1 s) = some r) ho54 hm ⟨S5, rfl, rfl, rfl, hL⟩ ?_ ?_
  · intro s_l1 F55 wd56 hJ hm
    have hm := outcE hm
    have hm : M.laws_toFinishS_a1 s_l1 = some r := hm
    unfold M.laws_toFinishS_a1 at hm
    obtain ⟨S50, f57, f58, f59, hL⟩ := hJ
    refine CW.seq ?_
    refine CW.regionL ?_
    refine OW.cons (OP.val (v := v4) rfl (x_mv f58) ?_)
    refine OW.cons (OP.val (v := v4) rfl (x_assign) ?_)
    refine OW.nil ?_
    refine CW.ret ?_
    obtain rfl := Option.some.inj hm
    exact RR1 rfl rfl ⟨v4, S50, rfl, hL.fresh 1 rfl [0] (by decide) (by decide) rfl⟩
  · intro s_l1 F60 wd61 t51 hJ hm hr52
    unfold M.laws_toFinishS_l1 at hm
    obtain ⟨S50, f62, f63, f64, hL⟩ := hJ
    refine CW.seq ?_
    refine CW.seq ?_
    refine CW.regionL ?_
    refine OW.cons (OP.val (v := (.int .i64 s_l1.2)) rfl (x_mv f64) ?_)
    refine OW.cons (OP.val (v := v1) rfl (x_mv f62) ?_)
    refine OW.cons (OP.val (v := (.int .i64 (a0.length : Int))) rfl (x_lenR Try.underlying84 rfl (hL.rdS 1 rfl h2)) ?_)
    refine OW.cons (OP.val (v := (.bool (decide (s_l1.2 < (a0.length : Int))))) rfl (x_lss rfl rfl) ?_)
    refine OW.nil ?_
    refine CW.condM (t := decide (s_l1.2 < (a0.length : Int))) rfl hm (fun hb65 hm => ?_) (fun hb65 hm => ?_)
    · refine CW.skip ?_
      refine CW.seq ?_
      refine CW.block ?_
      refine CW.regionL ?_
      refine OW.cons (OP.val (v := v4) rfl (x_mv f63) ?_)
      refine OW.cons (OP.val (v := (.int .i64 s_l1.2)) rfl (x_mv f64) ?_)
      refine OW.cons (OP.val (v := v1) rfl (x_mv f62) ?_)
      refine OW.cons (OP.val (v := (.int .i64 s_l1.2)) rfl (x_mv f64) ?_)
      obtain ⟨x66, ha67, hm⟩ := bndE hm
      obtain ⟨hz68, ha72⟩ := idxE ha67
      obtain ⟨b69, q70, hix71⟩ := rdL_ix (hL.rdS 1 rfl h2) hz68 ha72
      refine OW.cons (OP.val (v := (.pointer (some ⟨b69, q70, none⟩))) rfl (x_ix Try.underlying84 Try_T114 rfl rfl hix71) ?_)
      refine OW.cons (OP.val (v := (.agg #[(.int .i64 x66.Boat), (.int .i64 x66.Code), (.int .i64 x66.Time)])) rfl (x_loadN (cs := [(.int .i64 x66.Boat), (.int .i64 x66.Code), (.int .i64 x66.Time)]) Try.underlying114 Try_T114 rfl rfl (rdF_cells (hL.rdS 1 rfl h2) hix71 ha72)) ?_)
      obtain ⟨x73, hx74, hm⟩ := bndE hm
      refine OW.cons (OP.call rfl (x_call (vs := [(.agg #[(.int .i64 x66.Boat), (.int .i64 x66.Code), (.int .i64 x66.Time)])]) Try_C96 ⟨rfl, trivial⟩) (M.laws_toFinish_ok _ x66 hx74) ?_)
      rintro e75 wd76 ⟨rfl, hF77⟩
      refine ⟨_, rfl, ?_⟩
      have hL := hL.pushAll hF77
      simp only [List.cons_append, List.nil_append, List.set_cons_zero, List.set_cons_succ] at hL
      obtain ⟨x78, ha79, hm⟩ := bndE hm
      obtain ⟨hz80, ha84⟩ := idxE ha79
      obtain ⟨b81, q82, hix83⟩ := rdL_ix (hL.rdO 0 rfl) hz80 ha84
      refine OW.cons (OP.val (v := (.pointer (some ⟨b81, q82, none⟩))) rfl (x_ix Try.underlying44 Try_T50 rfl rfl hix83) ?_)
      refine OW.cons (S_storeXN (l := [(.int .i64 x73.Boat), (.int .i64 x73.Code), (.int .i64 x73.Time)]) x73 hL 0 rfl Try_T50 hix83 ha84 rfl rfl rfl ?_)
      intro wd85 hL
      refine OW.nil ?_
      refine CW.regionL ?_
      refine OW.cons (OP.val (v := (.int .i64 s_l1.2)) rfl (x_mv f64) ?_)
      refine OW.cons (OP.val (v := (.int .i64 (w64 (s_l1.2 + 1)))) rfl (x_add rfl rfl) ?_)
      refine OW.cons (OP.val (v := (.int .i64 (w64 (s_l1.2 + 1)))) rfl (x_assign) ?_)
      refine OW.nil ?_
      obtain rfl := Option.some.inj hm
      exact ⟨_, rfl, ⟨S50, f62, f63, rfl, hL⟩⟩
    · refine CW.exit ?_
      refine XJ.hit ?_
      obtain rfl := Option.some.inj hm
      exact ⟨_, rfl, ⟨S50, f62, f63, f64, hL⟩⟩

theorem M.laws_toRace_ok (w0 : World) (a0 : Race) {v1 : Value} (h2 : rdL (· < w0.heap.size) w0 v1 a0.Finishes) {r : Race} (hm : M.laws_toRace a0 = some r) :
    Calls Try.prog 64 #[(.agg #[v1])] w0 fun e w' => ∃ (rv0 : Value) (rS0 : Nat → Prop), e = .returned (.agg #[rv0]) ∧ Fresh w0 w' [Ent.own 50 rS0 rv0 r.Finishes] := by
  unfold M.laws_toRace at hm
  refine calls_CW (args := [(.agg #[v1])]) Try.func64 rfl rfl rfl ?_
  have hL := Hp.start w0
  refine CW.seq ?_
  refine CW.regionL ?_
  refine OW.cons (S_box (cs := #[v1]) hL rfl rfl rfl ?_)
  intro wd3 b4 hL
  refine OW.cons (S_alloc (cs := #[(.slice none 0 0)]) hL Try_T46 rfl rfl ?_)
  intro wd5 b6 hL
  refine OW.nil ?_
  refine CW.seq ?_
  refine CW.regionL ?_
  refine OW.cons (S_alloc (cs := #[(.slice none 0 0)]) hL Try_T46 rfl rfl ?_)
  intro wd7 b8 hL
  refine OW.nil ?_
  refine CW.seq ?_
  refine CW.regionL ?_
  refine OW.cons (OP.val (v := (.pointer (some ⟨b4, 0, none⟩))) rfl (x_fieldAddr (fsz := 1) 0 0 0 Try.underlying86 rfl Try_T84 rfl rfl rfl) ?_)
  refine OW.cons (OP.val (v := v1) rfl (x_load1 Try.underlying84 rfl rfl (hL.cellB 2 rfl rfl)) ?_)
  obtain ⟨x9, hx10, hm⟩ := bndE hm
  refine OW.cons (OP.call rfl (x_call (vs := [v1]) Try_C87 ⟨rfl, trivial⟩) (M.laws_toFinishS_ok _ a0.Finishes (hL.rdS 3 rfl h2) hx10) ?_)
  rintro e13 wd14 ⟨v12, S11, rfl, hF15⟩
  refine ⟨_, rfl, ?_⟩
  have hL := hL.pushAll hF15
  simp only [List.cons_append, List.nil_append, List.set_cons_zero, List.set_cons_succ] at hL
  refine OW.cons (OP.val (v := (.pointer (some ⟨b8, 0, none⟩))) rfl (x_fieldAddr (fsz := 1) 0 0 0 Try.underlying46 rfl Try_T44 rfl rfl rfl) ?_)
  refine OW.cons (S_store (cs' := #[v12]) hL 1 rfl Try_T44 rfl (rdL_one (hL.rdO 0 rfl)) rfl rfl rfl ?_)
  intro wd16 hL
  refine OW.nil ?_
  refine CW.seq ?_
  refine CW.regionL ?_
  refine OW.cons (OP.val (v := (.agg #[v12])) rfl (x_loadN (cs := [v12]) Try.underlying46 Try_T46 rfl rfl (hL.cellsB 1 rfl (o := 0) (l := [v12]) (by intro j u hj; exact (by simpa using hj)))) ?_)
  refine OW.cons (S_storeN (l := [v12]) (cs' := #[v12]) hL 2 rfl Try_T46 rfl rfl (List.forall_mem_cons.2 ⟨rdL_one (hL.rdO 0 rfl), (fun _ h => by cases h)⟩) rfl (Nat.le_of_ble_eq_true rfl) rfl ?_)
  intro wd17 hL
  refine OW.nil ?_
  refine CW.ret ?_
  obtain rfl := Option.some.inj hm
  exact RRc rfl rfl (run_loadBlk Try.underlying46 Try_T46 (hL.get 2 rfl) rfl) ⟨v12, S11, rfl, hL.fresh 4 rfl [0] (by decide) (by decide) rfl⟩

theorem M.laws_toRaceS_ok (w0 : World) (a0 : List Race) {v1 : Value} (h2 : rdL (· < w0.heap.size) w0 v1 a0) {r : (List Race)} (hm : M.laws_toRaceS a0 = some r) :
    Calls Try.prog 36 #[v1] w0 fun e w' => ∃ (rv0 : Value) (rS0 : Nat → Prop), e = .returned rv0 ∧ Fresh w0 w' [Ent.own 46 rS0 rv0 r] := by
  unfold M.laws_toRaceS at hm
  refine calls_CW (args := [v1]) Try.func36 rfl rfl rfl ?_
  have hL := Hp.start w0
  refine CW.seq ?_
  refine CW.regionL ?_
  refine OW.cons (OP.val (v := (.slice none 0 0)) rfl (x_assign) ?_)
  refine OW.nil ?_
  refine CW.seq ?_
  refine CW.regionL ?_
  refine OW.cons (OP.val (v := v1) rfl (x_move) ?_)
  refine OW.cons (OP.val (v := (.int .i64 (a0.length : Int))) rfl (x_lenR Try.underlying22 rfl (hL.rdS 0 rfl h2)) ?_)
  obtain ⟨hc6, hm⟩ := chkE hm
  refine OW.cons (S_makeN (α := Finish) (β := Race) (Race.mk ([] : List Finish)) rfl hL Try.underlying29 Try_T46 rfl rfl rfl hc6 (by decide) rfl ?_)
  intro wd3 v4 S5 hL
  refine OW.cons (OP.val (v := v4) rfl (x_assign) ?_)
  refine OW.nil ?_
  refine CW.seq ?_
  refine CW.seq ?_
  refine CW.regionL ?_
  refine OW.cons (OP.val (v := (.int .i64 0)) rfl (x_assign) ?_)
  refine OW.nil ?_
  obtain ⟨o79, ho80, hm⟩ := bndE hm
  refine CW.loopB (fun (s_l1 : (List Race) × Int) (F : Fr) (w : World) => ∃ (S76 : Nat → Prop), F 0 = v1 ∧ F 3 = v4 ∧ F 4 = (.int .i64 s_l1.2) ∧ Hp w0 [Ent.own 46 S76 v4 s_l1.1, Ent.snap w0 w0.heap.size] w) (fun o => outc o (fun x => some x) (fun s => M.laws_toRaceS_a1 s) = some r) ho80 hm ⟨S5, rfl, rfl, rfl, hL⟩ ?_ ?_
  · intro s_l1 F81 wd82 hJ hm
    have hm := outcE hm
    have hm : M.laws_toRaceS_a1 s_l1 = some r := hm
    unfold M.laws_toRaceS_a1 at hm
    obtain ⟨S76, f83, f84, f85, hL⟩ := hJ
    refine CW.seq ?_
    refine CW.regionL ?_
    refine OW.cons (OP.val (v := v4) rfl (x_mv f84) ?_)
    refine OW.cons (OP.val (v := v4) rfl (x_assign) ?_)
    refine OW.nil ?_
    refine CW.ret ?_
    obtain rfl := Option.some.inj hm
    exact RR1 rfl rfl ⟨v4, S76, rfl, hL.fresh 1 rfl [0] (by decide) (by decide) rfl⟩
  · intro s_l1 F86 wd87 t77 hJ hm hr78
    unfold M.laws_toRaceS_l1 at hm
    obtain ⟨S76, f88, f89, f90, hL⟩ := hJ
    refine CW.seq ?_
    refine CW.seq ?_
    refine CW.regionL ?_
    refine OW.cons (OP.val (v := (.int .i64 s_l1.2)) rfl (x_mv f90) ?_)
    refine OW.cons (OP.val (v := v1) rfl (x_mv f88) ?_)
    refine OW.cons (OP.val (v := (.int .i64 (a0.length : Int))) rfl (x_lenR Try.underlying22 rfl (hL.rdS 1 rfl h2)) ?_)
    refine OW.cons (OP.val (v := (.bool (decide (s_l1.2 < (a0.length : Int))))) rfl (x_lss rfl rfl) ?_)
    refine OW.nil ?_
    refine CW.condM (t := decide (s_l1.2 < (a0.length : Int))) rfl hm (fun hb91 hm => ?_) (fun hb91 hm => ?_)
    · refine CW.skip ?_
      refine CW.seq ?_
      refine CW.block ?_
      refine CW.regionL ?_
      refine OW.cons (OP.val (v := v4) rfl (x_mv f89) ?_)
      refine OW.cons (OP.val (v := (.int .i64 s_l1.2)) rfl (x_mv f90) ?_)
      refine OW.cons (OP.val (v := v1) rfl (x_mv f88) ?_)
      refine OW.cons (OP.val (v := (.int .i64 s_l1.2)) rfl (x_mv f90) ?_)
      obtain ⟨x92, ha93, hm⟩ := bndE hm
      obtain ⟨hz94, ha102⟩ := idxE ha93
      obtain ⟨b95, q96, v97, hix98, hs99, hc100, hr101⟩ := rdN_at h2 hz94 ha102
      refine OW.cons (OP.val (v := (.pointer (some ⟨b95, q96, none⟩))) rfl (x_ix Try.underlying22 Try_T86 rfl rfl hix98) ?_)
      refine OW.cons (OP.val (v := (.agg #[v97])) rfl (x_loadN (cs := [v97]) Try.underlying86 Try_T86 rfl rfl (by intro j u hj; match j, hj with | 0, hj => (simp at hj; subst hj; exact (hL.cellS 1 rfl hs99 hc100)))) ?_)
      obtain ⟨x103, hx104, hm⟩ := bndE hm
      refine OW.cons (OP.call rfl (x_call (vs := [(.agg #[v97])]) Try_C64 ⟨rfl, trivial⟩) (M.laws_toRace_ok _ x92 (hL.rdS 1 rfl hr101) hx104) ?_)
      rintro e107 wd108 ⟨v106, S105, rfl, hF109⟩
      refine ⟨_, rfl, ?_⟩
      have hL := hL.pushAll hF109
      simp only [List.cons_append, List.nil_append, List.set_cons_zero, List.set_cons_succ] at hL
      obtain ⟨wz110, hL, ho111⟩ := hL.freeze 1 rfl
      simp only [List.set_cons_zero, List.set_cons_succ] at hL
      obtain ⟨x112, ha113, hm⟩ := bndE hm
      obtain ⟨hz114, ha122⟩ := idxE ha113
      obtain ⟨b115, q116, v117, hix118, hs119, hc120, hr121⟩ := rdN_at ho111.1.rdL hz114 ha122
      refine OW.cons (OP.val (v := (.pointer (some ⟨b115, q116, none⟩))) rfl (x_ix Try.underlying29 Try_T46 rfl rfl hix118) ?_)
      have hL := hL.thaw 1 rfl ho111
      have hL := hL.sel [1, 0, 2] (by decide) rfl
      refine OW.cons (S_storeRS (Race.mk x103.Finishes) rfl hL Try_T46 hix118 ha122 rfl rfl ?_)
      intro wd123 S124 hL
      refine OW.nil ?_
      refine CW.regionL ?_
      refine OW.cons (OP.val (v := (.int .i64 s_l1.2)) rfl (x_mv f90) ?_)
      refine OW.cons (OP.val (v := (.int .i64 (w64 (s_l1.2 + 1)))) rfl (x_add rfl rfl) ?_)
      refine OW.cons (OP.val (v := (.int .i64 (w64 (s_l1.2 + 1)))) rfl (x_assign) ?_)
      refine OW.nil ?_
      obtain rfl := Option.some.inj hm
      exact ⟨_, rfl, ⟨S124, f88, f89, rfl, hL⟩⟩
    · refine CW.exit ?_
      refine XJ.hit ?_
      obtain rfl := Option.some.inj hm
      exact ⟨_, rfl, ⟨S76, f88, f89, f90, hL⟩⟩

theorem M.laws_toSeries_ok (w0 : World) (a0 : Series) {v1 : Value} (h2 : rdL (· < w0.heap.size) w0 v1 a0.Races) {r : Series} (hm : M.laws_toSeries a0 = some r) :
    Calls Try.prog 11 #[(.agg #[(.int .i64 a0.Boats), (.int .i64 a0.Scheme), v1])] w0 fun e w' => ∃ (rv0 : Value) (rS0 : Nat → Prop), e = .returned (.agg #[(.int .i64 r.Boats), (.int .i64 r.Scheme), rv0]) ∧ Fresh w0 w' [Ent.own 46 rS0 rv0 r.Races] := by
  unfold M.laws_toSeries at hm
  refine calls_CW (args := [(.agg #[(.int .i64 a0.Boats), (.int .i64 a0.Scheme), v1])]) Try.func11 rfl rfl rfl ?_
  have hL := Hp.start w0
  refine CW.seq ?_
  refine CW.regionL ?_
  refine OW.cons (S_box (cs := #[(.int .i64 a0.Boats), (.int .i64 a0.Scheme), v1]) hL rfl rfl rfl ?_)
  intro wd3 b4 hL
  refine OW.cons (S_alloc (cs := #[(.int .i64 0), (.int .i64 0), (.slice none 0 0)]) hL Try_T31 rfl rfl ?_)
  intro wd5 b6 hL
  refine OW.nil ?_
  refine CW.seq ?_
  refine CW.regionL ?_
  refine OW.cons (S_alloc (cs := #[(.int .i64 0), (.int .i64 0), (.slice none 0 0)]) hL Try_T31 rfl rfl ?_)
  intro wd7 b8 hL
  refine OW.nil ?_
  refine CW.seq ?_
  refine CW.regionL ?_
  refine OW.cons (OP.val (v := (.pointer (some ⟨b4, 0, none⟩))) rfl (x_fieldAddr (fsz := 1) 0 0 0 Try.underlying24 rfl Try_T2 rfl rfl rfl) ?_)
  refine OW.cons (OP.val (v := (.int .i64 a0.Boats)) rfl (x_load1 Try.underlying2 rfl rfl (hL.cellB 2 rfl rfl)) ?_)
  refine OW.cons (OP.val (v := (.pointer (some ⟨b8, 0, none⟩))) rfl (x_fieldAddr (fsz := 1) 0 0 0 Try.underlying31 rfl Try_T2 rfl rfl rfl) ?_)
  refine OW.cons (S_store (cs' := #[(.int .i64 a0.Boats), (.int .i64 0), (.slice none 0 0)]) hL 0 rfl Try_T2 rfl rfl rfl rfl rfl ?_)
  intro wd9 hL
  refine OW.nil ?_
  refine CW.seq ?_
  refine CW.regionL ?_
  refine OW.cons (OP.val (v := (.pointer (some ⟨b4, 1, none⟩))) rfl (x_fieldAddr (fsz := 1) 0 1 1 Try.underlying24 rfl Try_T2 rfl rfl rfl) ?_)
  refine OW.cons (OP.val (v := (.int .i64 a0.Scheme)) rfl (x_load1 Try.underlying2 rfl rfl (hL.cellB 2 rfl rfl)) ?_)
  refine OW.cons (OP.val (v := (.pointer (some ⟨b8, 1, none⟩))) rfl (x_fieldAddr (fsz := 1) 0 1 1 Try.underlying31 rfl Try_T2 rfl rfl rfl) ?_)
  refine OW.cons (S_store (cs' := #[(.int .i64 a0.Boats), (.int .i64 a0.Scheme), (.slice none 0 0)]) hL 0 rfl Try_T2 rfl rfl rfl rfl rfl ?_)
  intro wd10 hL
  refine OW.nil ?_
  refine CW.seq ?_
  refine CW.regionL ?_
  refine OW.cons (OP.val (v := (.pointer (some ⟨b4, 2, none⟩))) rfl (x_fieldAddr (fsz := 1) 0 2 2 Try.underlying24 rfl Try_T22 rfl rfl rfl) ?_)
  refine OW.cons (OP.val (v := v1) rfl (x_load1 Try.underlying22 rfl rfl (hL.cellB 2 rfl rfl)) ?_)
  obtain ⟨x11, hx12, hm⟩ := bndE hm
  refine OW.cons (OP.call rfl (x_call (vs := [v1]) Try_C36 ⟨rfl, trivial⟩) (M.laws_toRaceS_ok _ a0.Races (hL.rdS 3 rfl h2) hx12) ?_)
  rintro e15 wd16 ⟨v14, S13, rfl, hF17⟩
  refine ⟨_, rfl, ?_⟩
  have hL := hL.pushAll hF17
  simp only [List.cons_append, List.nil_append, List.set_cons_zero, List.set_cons_succ] at hL
  refine OW.cons (OP.val (v := (.pointer (some ⟨b8, 2, none⟩))) rfl (x_fieldAddr (fsz := 1) 0 2 2 Try.underlying31 rfl Try_T29 rfl rfl rfl) ?_)
  refine OW.cons (S_store (cs' := #[(.int .i64 a0.Boats), (.int .i64 a0.Scheme), v14]) hL 1 rfl Try_T29 rfl (rdL_one (hL.rdO 0 rfl)) rfl rfl rfl ?_)
  intro wd18 hL
  refine OW.nil ?_
  refine CW.seq ?_
  refine CW.regionL ?_
  refine OW.cons (OP.val (v := (.agg #[(.int .i64 a0.Boats), (.int .i64 a0.Scheme), v14])) rfl (x_loadN (cs := [(.int .i64 a0.Boats), (.int .i64 a0.Scheme), v14]) Try.underlying31 Try_T31 rfl rfl (hL.cellsB 1 rfl (o := 0) (l := [(.int .i64 a0.Boats), (.int .i64 a0.Scheme), v14]) (by intro j u hj; exact (by simpa using hj)))) ?_)
  refine OW.cons (S_storeN (l := [(.int .i64 a0.Boats), (.int .i64 a0.Scheme), v14]) (cs' := #[(.int .i64 a0.Boats), (.int .i64 a0.Scheme), v14]) hL 2 rfl Try_T31 rfl rfl (List.forall_mem_cons.2 ⟨rfl, (List.forall_mem_cons.2 ⟨rfl, (List.forall_mem_cons.2 ⟨rdL_one (hL.rdO 0 rfl), (fun _ h => by cases h)⟩)⟩)⟩) rfl (Nat.le_of_ble_eq_true rfl) rfl ?_)
  intro wd19 hL
  refine OW.nil ?_
  refine CW.ret ?_
  obtain rfl := Option.some.inj hm
  exact RRc rfl rfl (run_loadBlk Try.underlying31 Try_T31 (hL.get 2 rfl) rfl) ⟨v14, S13, rfl, hL.fresh 4 rfl [0] (by decide) (by decide) rfl⟩

theorem M.laws_toPenalty_ok (w0 : World) (a0 : Penalty) {r : Penalty} (hm : M.laws_toPenalty a0 = some r) :
    Calls Try.prog 37 #[(.agg #[(.int .i64 a0.Race), (.int .i64 a0.Boat), (.int .i64 a0.Kind), (.int .i64 a0.Value)])] w0 fun e w' => e = .returned (.agg #[(.int .i64 r.Race), (.int .i64 r.Boat), (.int .i64 r.Kind), (.int .i64 r.Value)]) ∧ Fresh w0 w' [] := by
  unfold M.laws_toPenalty at hm
  refine calls_CW (args := [(.agg #[(.int .i64 a0.Race), (.int .i64 a0.Boat), (.int .i64 a0.Kind), (.int .i64 a0.Value)])]) Try.func37 rfl rfl rfl ?_
  have hL := Hp.start w0
  refine CW.seq ?_
  refine CW.regionL ?_
  refine OW.cons (S_box (cs := #[(.int .i64 a0.Race), (.int .i64 a0.Boat), (.int .i64 a0.Kind), (.int .i64 a0.Value)]) hL rfl rfl rfl ?_)
  intro wd1 b2 hL
  refine OW.cons (S_alloc (cs := #[(.int .i64 0), (.int .i64 0), (.int .i64 0), (.int .i64 0)]) hL Try_T48 rfl rfl ?_)
  intro wd3 b4 hL
  refine OW.nil ?_
  refine CW.seq ?_
  refine CW.regionL ?_
  refine OW.cons (S_alloc (cs := #[(.int .i64 0), (.int .i64 0), (.int .i64 0), (.int .i64 0)]) hL Try_T48 rfl rfl ?_)
  intro wd5 b6 hL
  refine OW.nil ?_
  refine CW.seq ?_
  refine CW.regionL ?_
  refine OW.cons (OP.val (v := (.pointer (some ⟨b2, 0, none⟩))) rfl (x_fieldAddr (fsz := 1) 0 0 0 Try.underlying66 rfl Try_T2 rfl rfl rfl) ?_)
  refine OW.cons (OP.val (v := (.int .i64 a0.Race)) rfl (x_load1 Try.underlying2 rfl rfl (hL.cellB 2 rfl rfl)) ?_)
  refine OW.cons (OP.val (v := (.pointer (some ⟨b6, 0, none⟩))) rfl (x_fieldAddr (fsz := 1) 0 0 0 Try.underlying48 rfl Try_T2 rfl rfl rfl) ?_)
  refine OW.cons (S_store (cs' := #[(.int .i64 a0.Race), (.int .i64 0), (.int .i64 0), (.int .i64 0)]) hL 0 rfl Try_T2 rfl rfl rfl rfl rfl ?_)
  intro wd7 hL
  refine OW.nil ?_
  refine CW.seq ?_
  refine CW.regionL ?_
  refine OW.cons (OP.val (v := (.pointer (some ⟨b2, 1, none⟩))) rfl (x_fieldAddr (fsz := 1) 0 1 1 Try.underlying66 rfl Try_T2 rfl rfl rfl) ?_)
  refine OW.cons (OP.val (v := (.int .i64 a0.Boat)) rfl (x_load1 Try.underlying2 rfl rfl (hL.cellB 2 rfl rfl)) ?_)
  refine OW.cons (OP.val (v := (.pointer (some ⟨b6, 1, none⟩))) rfl (x_fieldAddr (fsz := 1) 0 1 1 Try.underlying48 rfl Try_T2 rfl rfl rfl) ?_)
  refine OW.cons (S_store (cs' := #[(.int .i64 a0.Race), (.int .i64 a0.Boat), (.int .i64 0), (.int .i64 0)]) hL 0 rfl Try_T2 rfl rfl rfl rfl rfl ?_)
  intro wd8 hL
  refine OW.nil ?_
  refine CW.seq ?_
  refine CW.regionL ?_
  refine OW.cons (OP.val (v := (.pointer (some ⟨b2, 2, none⟩))) rfl (x_fieldAddr (fsz := 1) 0 2 2 Try.underlying66 rfl Try_T2 rfl rfl rfl) ?_)
  refine OW.cons (OP.val (v := (.int .i64 a0.Kind)) rfl (x_load1 Try.underlying2 rfl rfl (hL.cellB 2 rfl rfl)) ?_)
  refine OW.cons (OP.val (v := (.pointer (some ⟨b6, 2, none⟩))) rfl (x_fieldAddr (fsz := 1) 0 2 2 Try.underlying48 rfl Try_T2 rfl rfl rfl) ?_)
  refine OW.cons (S_store (cs' := #[(.int .i64 a0.Race), (.int .i64 a0.Boat), (.int .i64 a0.Kind), (.int .i64 0)]) hL 0 rfl Try_T2 rfl rfl rfl rfl rfl ?_)
  intro wd9 hL
  refine OW.nil ?_
  refine CW.seq ?_
  refine CW.regionL ?_
  refine OW.cons (OP.val (v := (.pointer (some ⟨b2, 3, none⟩))) rfl (x_fieldAddr (fsz := 1) 0 3 3 Try.underlying66 rfl Try_T2 rfl rfl rfl) ?_)
  refine OW.cons (OP.val (v := (.int .i64 a0.Value)) rfl (x_load1 Try.underlying2 rfl rfl (hL.cellB 2 rfl rfl)) ?_)
  refine OW.cons (OP.val (v := (.pointer (some ⟨b6, 3, none⟩))) rfl (x_fieldAddr (fsz := 1) 0 3 3 Try.underlying48 rfl Try_T2 rfl rfl rfl) ?_)
  refine OW.cons (S_store (cs' := #[(.int .i64 a0.Race), (.int .i64 a0.Boat), (.int .i64 a0.Kind), (.int .i64 a0.Value)]) hL 0 rfl Try_T2 rfl rfl rfl rfl rfl ?_)
  intro wd10 hL
  refine OW.nil ?_
  refine CW.seq ?_
  refine CW.regionL ?_
  refine OW.cons (OP.val (v := (.agg #[(.int .i64 a0.Race), (.int .i64 a0.Boat), (.int .i64 a0.Kind), (.int .i64 a0.Value)])) rfl (x_loadN (cs := [(.int .i64 a0.Race), (.int .i64 a0.Boat), (.int .i64 a0.Kind), (.int .i64 a0.Value)]) Try.underlying48 Try_T48 rfl rfl (hL.cellsB 0 rfl (o := 0) (l := [(.int .i64 a0.Race), (.int .i64 a0.Boat), (.int .i64 a0.Kind), (.int .i64 a0.Value)]) (by intro j u hj; exact (by simpa using hj)))) ?_)
  refine OW.cons (S_storeN (l := [(.int .i64 a0.Race), (.int .i64 a0.Boat), (.int .i64 a0.Kind), (.int .i64 a0.Value)]) (cs' := #[(.int .i64 a0.Race), (.int .i64 a0.Boat), (.int .i64 a0.Kind), (.int .i64 a0.Value)]) hL 1 rfl Try_T48 rfl rfl (List.forall_mem_cons.2 ⟨rfl, (List.forall_mem_cons.2 ⟨rfl, (List.forall_mem_cons.2 ⟨rfl, (List.forall_mem_cons.2 ⟨rfl, (fun _ h => by cases h)⟩)⟩)⟩)⟩) rfl (Nat.le_of_ble_eq_true rfl) rfl ?_)
  intro wd11 hL
  refine OW.nil ?_
  refine CW.ret ?_
  obtain rfl := Option.some.inj hm
  exact RRc rfl rfl (run_loadBlk Try.underlying48 Try_T48 (hL.get 1 rfl) rfl) ⟨rfl, hL.fresh 3 rfl [] (by decide) (by decide) rfl⟩

theorem M.laws_toPenaltyS_ok (w0 : World) (a0 : List Penalty) {v1 : Value} (h2 : rdL (· < w0.heap.size) w0 v1 a0) {r : (List Penalty)} (hm : M.laws_toPenaltyS a0 = some r) :
    Calls Try.prog 12 #[v1] w0 fun e w' => ∃ (rv0 : Value) (rS0 : Nat → Prop), e = .returned rv0 ∧ Fresh w0 w' [Ent.own 48 rS0 rv0 r] := by
  unfold M.laws_toPenaltyS at hm
  refine calls_CW (args := [v1]) Try.func12 rfl rfl rfl ?_
  have hL := Hp.start w0
  refine CW.seq ?_
  refine CW.regionL ?_
  refine OW.cons (OP.val (v := (.slice none 0 0)) rfl (x_assign) ?_)
  refine OW.nil ?_
  refine CW.seq ?_
  refine CW.regionL ?_
  refine OW.cons (OP.val (v := v1) rfl (x_move) ?_)
  refine OW.cons (OP.val (v := (.int .i64 (a0.length : Int))) rfl (x_lenR Try.underlying25 rfl (hL.rdS 0 rfl h2)) ?_)
  obtain ⟨hc6, hm⟩ := chkE hm
  refine OW.cons (S_make (α := Penalty) (Penalty.mk 0 0 0 0) hL Try.underlying33 Try_T48 rfl rfl rfl hc6 (by decide) rfl ?_)
  intro wd3 v4 S5 hL
  refine OW.cons (OP.val (v := v4) rfl (x_assign) ?_)
  refine OW.nil ?_
  refine CW.seq ?_
  refine CW.seq ?_
  refine CW.regionL ?_
  refine OW.cons (OP.val (v := (.int .i64 0)) rfl (x_assign) ?_)
  refine OW.nil ?_
  obtain ⟨o53, ho54, hm⟩ := bndE hm
  refine CW.loopB (fun (s_l1 : (List Penalty) × Int) (F : Fr) (w : World) => ∃ (S50 : Nat → Prop), F 0 = v1 ∧ F 3 = v4 ∧ F 4 = (.int .i64 s_l1.2) ∧ Hp w0 [Ent.own 48 S50 v4 s_l1.1, Ent.snap w0 w0.heap.size] w) (fun o => outc o (fun x => some x) (fun s => M.laws_toPenaltyS_a1 s) = some r) ho54 hm ⟨S5, rfl, rfl, rfl, hL⟩ ?_ ?_
  · intro s_l1 F55 wd56 hJ hm
    have hm := outcE hm
    have hm : M.laws_toPenaltyS_a1 s_l1 = some r := hm
    unfold M.laws_toPenaltyS_a1 at hm
    obtain ⟨S50, f57, f58, f59, hL⟩ := hJ
    refine CW.seq ?_
    refine CW.regionL ?_
    refine OW.cons (OP.val (v := v4) rfl (x_mv f58) ?_)
    refine OW.cons (OP.val (v := v4) rfl (x_assign) ?_)
    refine OW.nil ?_
    refine CW.ret ?_
    obtain rfl := Option.some.inj hm
    exact RR1 rfl rfl ⟨v4, S50, rfl, hL.fresh 1 rfl [0] (by decide) (by decide) rfl⟩
  · intro s_l1 F60 wd61 t51 hJ hm hr52
    unfold M.laws_toPenaltyS_l1 at hm
    obtain ⟨S50, f62, f63, f64, hL⟩ := hJ
    refine CW.seq ?_
    refine CW.seq ?_
    refine CW.regionL ?_
    refine OW.cons (OP.val (v := (.int .i64 s_l1.2)) rfl (x_mv f64) ?_)
    refine OW.cons (OP.val (v := v1) rfl (x_mv f62) ?_)
    refine OW.cons (OP.val (v := (.int .i64 (a0.length : Int))) rfl (x_lenR Try.underlying25 rfl (hL.rdS 1 rfl h2)) ?_)
    refine OW.cons (OP.val (v := (.bool (decide (s_l1.2 < (a0.length : Int))))) rfl (x_lss rfl rfl) ?_)
    refine OW.nil ?_
    refine CW.condM (t := decide (s_l1.2 < (a0.length : Int))) rfl hm (fun hb65 hm => ?_) (fun hb65 hm => ?_)
    · refine CW.skip ?_
      refine CW.seq ?_
      refine CW.block ?_
      refine CW.regionL ?_
      refine OW.cons (OP.val (v := v4) rfl (x_mv f63) ?_)
      refine OW.cons (OP.val (v := (.int .i64 s_l1.2)) rfl (x_mv f64) ?_)
      refine OW.cons (OP.val (v := v1) rfl (x_mv f62) ?_)
      refine OW.cons (OP.val (v := (.int .i64 s_l1.2)) rfl (x_mv f64) ?_)
      obtain ⟨x66, ha67, hm⟩ := bndE hm
      obtain ⟨hz68, ha72⟩ := idxE ha67
      obtain ⟨b69, q70, hix71⟩ := rdL_ix (hL.rdS 1 rfl h2) hz68 ha72
      refine OW.cons (OP.val (v := (.pointer (some ⟨b69, q70, none⟩))) rfl (x_ix Try.underlying25 Try_T66 rfl rfl hix71) ?_)
      refine OW.cons (OP.val (v := (.agg #[(.int .i64 x66.Race), (.int .i64 x66.Boat), (.int .i64 x66.Kind), (.int .i64 x66.Value)])) rfl (x_loadN (cs := [(.int .i64 x66.Race), (.int .i64 x66.Boat), (.int .i64 x66.Kind), (.int .i64 x66.Value)]) Try.underlying66 Try_T66 rfl rfl (rdF_cells (hL.rdS 1 rfl h2) hix71 ha72)) ?_)
      obtain ⟨x73, hx74, hm⟩ := bndE hm
      refine OW.cons (OP.call rfl (x_call (vs := [(.agg #[(.int .i64 x66.Race), (.int .i64 x66.Boat), (.int .i64 x66.Kind), (.int .i64 x66.Value)])]) Try_C37 ⟨rfl, trivial⟩) (M.laws_toPenalty_ok _ x66 hx74) ?_)
      rintro e75 wd76 ⟨rfl, hF77⟩
      refine ⟨_, rfl, ?_⟩
      have hL := hL.pushAll hF77
      simp only [List.cons_append, List.nil_append, List.set_cons_zero, List.set_cons_succ] at hL
      obtain ⟨x78, ha79, hm⟩ := bndE hm
      obtain ⟨hz80, ha84⟩ := idxE ha79
      obtain ⟨b81, q82, hix83⟩ := rdL_ix (hL.rdO 0 rfl) hz80 ha84
      refine OW.cons (OP.val (v := (.pointer (some ⟨b81, q82, none⟩))) rfl (x_ix Try.underlying33 Try_T48 rfl rfl hix83) ?_)
      refine OW.cons (S_storeXN (l := [(.int .i64 x73.Race), (.int .i64 x73.Boat), (.int .i64 x73.Kind), (.int .i64 x73.Value)]) x73 hL 0 rfl Try_T48 hix83 ha84 rfl rfl rfl ?_)
      intro wd85 hL
      refine OW.nil ?_
      refine CW.regionL ?_
      refine OW.cons (OP.val (v := (.int .i64 s_l1.2)) rfl (x_mv f64) ?_)
      refine OW.cons (OP.val (v := (.int .i64 (w64 (s_l1.2 + 1)))) rfl (x_add rfl rfl) ?_)
      refine OW.cons (OP.val (v := (.int .i64 (w64 (s_l1.2 + 1)))) rfl (x_assign) ?_)
      refine OW.nil ?_
      obtain rfl := Option.some.inj hm
      exact ⟨_, rfl, ⟨S50, f62, f63, rfl, hL⟩⟩
    · refine CW.exit ?_
      refine XJ.hit ?_
      obtain rfl := Option.some.inj hm
      exact ⟨_, rfl, ⟨S50, f62, f63, f64, hL⟩⟩

theorem M.spec_l01In_ok (w0 : World) (a0 : Int) (a1 : Int) (a2 : Int) {r : Bool} (hm : M.spec_l01In a0 a1 a2 = some r) :
    Calls Try.prog 61 #[(.int .i64 a0), (.int .i64 a1), (.int .i64 a2)] w0 fun e w' => e = .returned (.bool r) ∧ Fresh w0 w' [] := by
  unfold M.spec_l01In at hm
  refine calls_CW (args := [(.int .i64 a0), (.int .i64 a1), (.int .i64 a2)]) Try.func61 rfl rfl rfl ?_
  have hL := Hp.start w0
  refine CW.seq ?_
  refine CW.regionL ?_
  refine OW.cons (OP.val (v := (.bool false)) rfl (x_assign) ?_)
  refine OW.nil ?_
  refine CW.seqJ (fun (s_j1 : Bool) (F : Fr) (w : World) => F 6 = (.bool s_j1) ∧ Hp w0 [Ent.snap w0 w0.heap.size] w) (fun s_j1 => M.spec_l01In_j1 s_j1 = some r) ?_ ?_
  · refine CW.regionL ?_
    refine OW.cons (OP.val (v := (.int .i64 a0)) rfl (x_move) ?_)
    refine OW.cons (OP.val (v := (.int .i64 a1)) rfl (x_move) ?_)
    refine OW.cons (OP.val (v := (.bool (decide (a1 ≤ a0)))) rfl (x_geq rfl rfl) ?_)
    refine OW.cons (OP.val (v := (.bool (decide (a1 ≤ a0)))) rfl (x_move) ?_)
    refine ifB_elim hm (fun hb5 hm => ?_) (fun hb5 hm => ?_)
    · refine OW.cons (OP.yes' rfl rfl hb5 (OP.val (v := (.int .i64 a0)) rfl (x_move) ?_))
      refine OW.cons (OP.yes' rfl rfl hb5 (OP.val (v := (.int .i64 a2)) rfl (x_move) ?_))
      refine OW.cons (OP.yes' rfl rfl hb5 (OP.val (v := (.bool (decide (a0 ≤ a2)))) rfl (x_leq rfl rfl) ?_))
      refine OW.cons (OP.val (v := (.bool (decide (a0 ≤ a2)))) rfl (x_pickT' rfl hb5 rfl) ?_)
      refine OW.cons (OP.val (v := (.bool (decide (a0 ≤ a2)))) rfl (x_assign) ?_)
      refine OW.nil ?_
      exact ⟨decide (a0 ≤ a2), hm, ⟨rfl, hL⟩⟩
    · refine OW.cons (OP.no' rfl rfl hb5 rfl ?_)
      refine OW.cons (OP.no' rfl rfl hb5 rfl ?_)
      refine OW.cons (OP.no' rfl rfl hb5 rfl ?_)
      refine OW.cons (OP.val (v := (.bool false)) rfl (x_pickF' rfl hb5 rfl) ?_)
      refine OW.cons (OP.val (v := (.bool false)) rfl (x_assign) ?_)
      refine OW.nil ?_
      exact ⟨false, hm, ⟨rfl, hL⟩⟩
  · intro s_j1 F2 wd3 hJ hm
    unfold M.spec_l01In_j1 at hm
    obtain ⟨f4, hL⟩ := hJ
    refine CW.ret ?_
    obtain rfl := Option.some.inj hm
    exact RR1 rfl f4 ⟨rfl, hL.fresh 0 rfl [] (by decide) (by decide) rfl⟩

theorem M.spec_l26Code_ok (w0 : World) (a0 : Int) {r : Bool} (hm : M.spec_l26Code a0 = some r) :
    Calls Try.prog 85 #[(.int .i64 a0)] w0 fun e w' => e = .returned (.bool r) ∧ Fresh w0 w' [] := by
  unfold M.spec_l26Code at hm
  refine calls_CW (args := [(.int .i64 a0)]) Try.func85 rfl rfl rfl ?_
  have hL := Hp.start w0
  refine CW.seq ?_
  refine CW.regionL ?_
  refine OW.cons (OP.val (v := (.bool false)) rfl (x_assign) ?_)
  refine OW.nil ?_
  refine CW.seq ?_
  refine CW.regionL ?_
  refine OW.cons (OP.val (v := (.int .i64 a0)) rfl (x_move) ?_)
  obtain ⟨x1, hx2, hm⟩ := bndE hm
  refine OW.cons (OP.call rfl (x_call (vs := [(.int .i64 a0), (.int .i64 0), (.int .i64 9)]) Try_C61 ⟨rfl, rfl, rfl, trivial⟩) (M.spec_l01In_ok _ a0 0 9 hx2) ?_)
  rintro e3 wd4 ⟨rfl, hF5⟩
  refine ⟨_, rfl, ?_⟩
  have hL := hL.pushAll hF5
  simp only [List.cons_append, List.nil_append, List.set_cons_zero, List.set_cons_succ] at hL
  refine OW.cons (OP.val (v := (.bool x1)) rfl (x_assign) ?_)
  refine OW.nil ?_
  refine CW.ret ?_
  obtain rfl := Option.some.inj hm
  exact RR1 rfl rfl ⟨rfl, hL.fresh 0 rfl [] (by decide) (by decide) rfl⟩

theorem M.spec_l26Race_ok (w0 : World) (a0 : Int) (a1 : Race) {v1 : Value} (h2 : rdL (· < w0.heap.size) w0 v1 a1.Finishes) {r : Bool} (hm : M.spec_l26Race a0 a1 = some r) :
    Calls Try.prog 62 #[(.int .i64 a0), (.agg #[v1])] w0 fun e w' => e = .returned (.bool r) ∧ Fresh w0 w' [] := by
  unfold M.spec_l26Race at hm
  refine calls_CW (args := [(.int .i64 a0), (.agg #[v1])]) Try.func62 rfl rfl rfl ?_
  have hL := Hp.start w0
  refine CW.seq ?_
  refine CW.regionL ?_
  refine OW.cons (S_box (cs := #[v1]) hL rfl rfl rfl ?_)
  intro wd3 b4 hL
  refine OW.cons (OP.val (v := (.bool false)) rfl (x_assign) ?_)
  refine OW.nil ?_
  refine CW.seq ?_
  refine CW.seq ?_
  refine CW.regionL ?_
  refine OW.cons (OP.val (v := (.pointer (some ⟨b4, 0, none⟩))) rfl (x_fieldAddr (fsz := 1) 0 0 0 Try.underlying46 rfl Try_T44 rfl rfl rfl) ?_)
  refine OW.cons (OP.val (v := v1) rfl (x_load1 Try.underlying44 rfl rfl (hL.cellB 0 rfl rfl)) ?_)
  refine OW.cons (OP.val (v := (.int .i64 (a1.Finishes.length : Int))) rfl (x_lenR Try.underlying44 rfl (hL.rdS 1 rfl h2)) ?_)
  refine OW.cons (OP.val (v := (.int .i64 a0)) rfl (x_move) ?_)
  refine OW.cons (OP.val (v := (.bool ((a1.Finishes.length : Int) != a0))) rfl (x_neq rfl rfl) ?_)
  refine OW.nil ?_
  refine CW.condM (t := (a1.Finishes.length : Int) != a0) rfl hm (fun hb5 hm => ?_) (fun hb5 hm => ?_)
  · refine CW.seq ?_
    refine CW.regionL ?_
    refine OW.cons (OP.val (v := (.bool false)) rfl (x_assign) ?_)
    refine OW.nil ?_
    refine CW.ret ?_
    obtain rfl := Option.some.inj hm
    exact RR1 rfl rfl ⟨rfl, hL.fresh 1 rfl [] (by decide) (by decide) rfl⟩
  · refine CW.skip ?_
    refine CW.seq ?_
    refine CW.seq ?_
    refine CW.regionL ?_
    refine OW.cons (OP.val (v := (.int .i64 0)) rfl (x_assign) ?_)
    refine OW.nil ?_
    obtain ⟨o116, ho117, hm⟩ := bndE hm
    refine CW.loopB (fun (s_l1 : Int) (F : Fr) (w : World) => F 3 = (.pointer (some ⟨b4, 0, none⟩)) ∧ F 5 = (.int .i64 s_l1) ∧ Hp w0 [Ent.blk b4 46 #[v1], Ent.snap w0 w0.heap.size] w) (fun o => outc o (fun x => some x) (fun s => M.spec_l26Race_a1 s) = some r) ho117 hm ⟨rfl, rfl, hL⟩ ?_ ?_
    · intro s_l1 F118 wd119 hJ hm
      have hm := outcE hm
      have hm : M.spec_l26Race_a1 s_l1 = some r := hm
      unfold M.spec_l26Race_a1 at hm
      obtain ⟨f120, f121, hL⟩ := hJ
      refine CW.seq ?_
      refine CW.regionL ?_
      refine OW.cons (OP.val (v := (.bool true)) rfl (x_assign) ?_)
      refine OW.nil ?_
      refine CW.ret ?_
      obtain rfl := Option.some.inj hm
      exact RR1 rfl rfl ⟨rfl, hL.fresh 1 rfl [] (by decide) (by decide) rfl⟩
    · intro s_l1 F122 wd123 t114 hJ hm hr115
      unfold M.spec_l26Race_l1 at hm
      obtain ⟨f124, f125, hL⟩ := hJ
      refine CW.seq ?_
      refine CW.seq ?_
      refine CW.regionL ?_
      refine OW.cons (OP.val (v := (.int .i64 s_l1)) rfl (x_mv f125) ?_)
      refine OW.cons (OP.val (v := (.pointer (some ⟨b4, 0, none⟩))) rfl (x_fieldAddr (fsz := 1) 0 0 0 Try.underlying46 rfl Try_T44 rfl f124 rfl) ?_)
      refine OW.cons (OP.val (v := v1) rfl (x_load1 Try.underlying44 rfl rfl (hL.cellB 0 rfl rfl)) ?_)
      refine OW.cons (OP.val (v := (.int .i64 (a1.Finishes.length : Int))) rfl (x_lenR Try.underlying44 rfl (hL.rdS 1 rfl h2)) ?_)
      refine OW.cons (OP.val (v := (.bool (decide (s_l1 < (a1.Finishes.length : Int))))) rfl (x_lss rfl rfl) ?_)
      refine OW.nil ?_
      refine CW.condM (t := decide (s_l1 < (a1.Finishes.length : Int))) rfl hm (fun hb126 hm => ?_) (fun hb126 hm => ?_)
      · refine CW.skip ?_
        refine CW.seq ?_
        refine CW.block ?_
        refine CW.seq ?_
        refine CW.regionL ?_
        refine OW.cons (OP.val (v := (.pointer (some ⟨b4, 0, none⟩))) rfl (x_fieldAddr (fsz := 1) 0 0 0 Try.underlying46 rfl Try_T44 rfl f124 rfl) ?_)
        refine OW.cons (OP.val (v := v1) rfl (x_load1 Try.underlying44 rfl rfl (hL.cellB 0 rfl rfl)) ?_)
        refine OW.cons (OP.val (v := (.int .i64 s_l1)) rfl (x_mv f125) ?_)
        obtain ⟨x127, ha128, hm⟩ := bndE hm
        obtain ⟨hz129, ha133⟩ := idxE ha128
        obtain ⟨b130, q131, hix132⟩ := rdL_ix (hL.rdS 1 rfl h2) hz129 ha133
        refine OW.cons (OP.val (v := (.pointer (some ⟨b130, q131, none⟩))) rfl (x_ix Try.underlying44 Try_T50 rfl rfl hix132) ?_)
        refine OW.cons (OP.val (v := (.agg #[(.int .i64 x127.Boat), (.int .i64 x127.Code), (.int .i64 x127.Time)])) rfl (x_loadN (cs := [(.int .i64 x127.Boat), (.int .i64 x127.Code), (.int .i64 x127.Time)]) Try.underlying50 Try_T50 rfl rfl (rdF_cells (hL.rdS 1 rfl h2) hix132 ha133)) ?_)
        refine OW.cons (S_alloc (cs := #[(.int .i64 0), (.int .i64 0), (.int .i64 0)]) hL Try_T50 rfl rfl ?_)
        intro wd134 b135 hL
        refine OW.cons (S_storeN (l := [(.int .i64 x127.Boat), (.int .i64 x127.Code), (.int .i64 x127.Time)]) (cs' := #[(.int .i64 x127.Boat), (.int .i64 x127.Code), (.int .i64 x127.Time)]) hL 0 rfl Try_T50 rfl rfl (List.forall_mem_cons.2 ⟨rfl, (List.forall_mem_cons.2 ⟨rfl, (List.forall_mem_cons.2 ⟨rfl, (fun _ h => by cases h)⟩)⟩)⟩) rfl (Nat.le_of_ble_eq_true rfl) rfl ?_)
        intro wd136 hL
        refine OW.nil ?_
        refine CW.seq ?_
        refine CW.seqJ (fun (s_j1 : Bool) (F : Fr) (w : World) => F 3 = (.pointer (some ⟨b4, 0, none⟩)) ∧ F 5 = (.int .i64 s_l1) ∧ F 6 = (.pointer (some ⟨b135, 0, none⟩)) ∧ F 33 = (.bool s_j1) ∧ Hp w0 [Ent.blk b135 50 #[(.int .i64 x127.Boat), (.int .i64 x127.Code), (.int .i64 x127.Time)], Ent.blk b4 46 #[v1], Ent.snap w0 w0.heap.size] w) (fun s_j1 => M.spec_l26Race_j1 s_l1 x127 s_j1 = some t114) ?_ ?_
        · refine CW.regionL ?_
          refine OW.cons (OP.val (v := (.pointer (some ⟨b135, 0, none⟩))) rfl (x_fieldAddr (fsz := 1) 0 0 0 Try.underlying50 rfl Try_T2 rfl rfl rfl) ?_)
          refine OW.cons (OP.val (v := (.int .i64 x127.Boat)) rfl (x_load1 Try.underlying2 rfl rfl (hL.cellB 0 rfl rfl)) ?_)
          refine OW.cons (OP.val (v := (.int .i64 s_l1)) rfl (x_mv f125) ?_)
          refine OW.cons (OP.val (v := (.bool (x127.Boat != s_l1))) rfl (x_neq rfl rfl) ?_)
          refine OW.cons (OP.val (v := (.bool (x127.Boat != s_l1))) rfl (x_move) ?_)
          refine ifB_elim hm (fun hb174 hm => ?_) (fun hb174 hm => ?_)
          · refine OW.cons (OP.no' rfl rfl hb174 rfl ?_)
            refine OW.cons (OP.no' rfl rfl hb174 rfl ?_)
            refine OW.cons (OP.no' rfl rfl hb174 rfl ?_)
            refine OW.cons (OP.no' rfl rfl hb174 rfl ?_)
            refine OW.cons (OP.val (v := (.bool true)) rfl (x_pickT' rfl hb174 rfl) ?_)
            refine OW.nil ?_
            exact ⟨true, hm, ⟨f124, f125, rfl, rfl, hL⟩⟩
          · refine OW.cons (OP.yes' rfl rfl hb174 (OP.val (v := (.pointer (some ⟨b135, 1, none⟩))) rfl (x_fieldAddr (fsz := 1) 0 1 1 Try.underlying50 rfl Try_T2 rfl rfl rfl) ?_))
            refine OW.cons (OP.yes' rfl rfl hb174 (OP.val (v := (.int .i64 x127.Code)) rfl (x_load1 Try.underlying2 rfl rfl (hL.cellB 0 rfl rfl)) ?_))
            obtain ⟨x175, hx176, hm⟩ := bndE hm
            refine OW.cons (OP.yes' rfl rfl hb174 (OP.call rfl (x_call (vs := [(.int .i64 x127.Code)]) Try_C85 ⟨rfl, trivial⟩) (M.spec_l26Code_ok _ x127.Code hx176) ?_))
            rintro e177 wd178 ⟨rfl, hF179⟩
            refine ⟨_, rfl, ?_⟩
            have hL := hL.pushAll hF179
            simp only [List.cons_append, List.nil_append, List.set_cons_zero, List.set_cons_succ] at hL
            refine OW.cons (OP.yes' rfl rfl hb174 (OP.val (v := (.bool (!x175))) rfl (x_not rfl) ?_))
            refine OW.cons (OP.val (v := (.bool (!x175))) rfl (x_pickF' rfl hb174 rfl) ?_)
            refine OW.nil ?_
            exact ⟨!x175, hm, ⟨f124, f125, rfl, rfl, hL⟩⟩
        · intro s_j1 F143 wd144 hJ hm
          unfold M.spec_l26Race_j1 at hm
          obtain ⟨f145, f146, f147, f148, hL⟩ := hJ
          refine CW.condM (t := s_j1) f148 hm (fun hb149 hm => ?_) (fun hb149 hm => ?_)
          · refine CW.seq ?_
            refine CW.regionL ?_
            refine OW.cons (OP.val (v := (.bool false)) rfl (x_assign) ?_)
            refine OW.nil ?_
            refine CW.ret ?_
            obtain rfl := Option.some.inj hm
            have hm := hr115 _ rfl
            obtain rfl := Option.some.inj hm
            exact RR1 rfl rfl ⟨rfl, hL.fresh 2 rfl [] (by decide) (by decide) rfl⟩
          · refine CW.skip ?_
            refine CW.seqJ (fun (s_j2 : Bool) (F : Fr) (w : World) => F 3 = (.pointer (some ⟨b4, 0, none⟩)) ∧ F 5 = (.int .i64 s_l1) ∧ F 52 = (.bool s_j2) ∧ Hp w0 [Ent.blk b135 50 #[(.int .i64 x127.Boat), (.int .i64 x127.Code), (.int .i64 x127.Time)], Ent.blk b4 46 #[v1], Ent.snap w0 w0.heap.size] w) (fun s_j2 => M.spec_l26Race_j2 s_l1 s_j2 = some t114) ?_ ?_
            · refine CW.regionL ?_
              refine OW.cons (OP.val (v := (.pointer (some ⟨b135, 1, none⟩))) rfl (x_fieldAddr (fsz := 1) 0 1 1 Try.underlying50 rfl Try_T2 rfl f147 rfl) ?_)
              refine OW.cons (OP.val (v := (.int .i64 x127.Code)) rfl (x_load1 Try.underlying2 rfl rfl (hL.cellB 0 rfl rfl)) ?_)
              refine OW.cons (OP.val (v := (.bool (x127.Code == 0))) rfl (x_eql rfl rfl) ?_)
              refine OW.cons (OP.val (v := (.bool (x127.Code == 0))) rfl (x_move) ?_)
              refine ifB_elim hm (fun hb165 hm => ?_) (fun hb165 hm => ?_)
              · refine OW.cons (OP.yes' rfl rfl hb165 (OP.val (v := (.pointer (some ⟨b135, 2, none⟩))) rfl (x_fieldAddr (fsz := 1) 0 2 2 Try.underlying50 rfl Try_T2 rfl f147 rfl) ?_))
                refine OW.cons (OP.yes' rfl rfl hb165 (OP.val (v := (.int .i64 x127.Time)) rfl (x_load1 Try.underlying2 rfl rfl (hL.cellB 0 rfl rfl)) ?_))
                obtain ⟨x166, hx167, hm⟩ := bndE hm
                refine OW.cons (OP.yes' rfl rfl hb165 (OP.call rfl (x_call (vs := [(.int .i64 x127.Time), (.int .i64 1), (.int .i64 1000000000)]) Try_C61 ⟨rfl, rfl, rfl, trivial⟩) (M.spec_l01In_ok _ x127.Time 1 1000000000 hx167) ?_))
                rintro e168 wd169 ⟨rfl, hF170⟩
                refine ⟨_, rfl, ?_⟩
                have hL := hL.pushAll hF170
                simp only [List.cons_append, List.nil_append, List.set_cons_zero, List.set_cons_succ] at hL
                refine OW.cons (OP.yes' rfl rfl hb165 (OP.val (v := (.bool (!x166))) rfl (x_not rfl) ?_))
                refine OW.cons (OP.val (v := (.bool (!x166))) rfl (x_pickT' rfl hb165 rfl) ?_)
                refine OW.cons (OP.val (v := (.bool (!x166))) rfl (x_move) ?_)
                refine ifB_elim hm (fun hb171 hm => ?_) (fun hb171 hm => ?_)
                · refine OW.cons (OP.no' rfl rfl hb171 rfl ?_)
                  refine OW.cons (OP.no' rfl rfl hb171 rfl ?_)
                  refine OW.cons (OP.no' rfl rfl hb171 rfl ?_)
                  refine OW.cons (OP.no' rfl rfl hb171 rfl ?_)
                  refine OW.cons (OP.noU rfl rfl rfl ?_)
                  refine OW.cons (OP.noU rfl rfl rfl ?_)
                  refine OW.cons (OP.noU rfl rfl rfl ?_)
                  refine OW.cons (OP.no' rfl rfl hb171 rfl ?_)
                  refine OW.cons (OP.val (v := (.bool true)) rfl (x_pickT' rfl hb171 rfl) ?_)
                  refine OW.nil ?_
                  exact ⟨true, hm, ⟨f145, f146, rfl, hL⟩⟩
                · refine OW.cons (OP.yes' rfl rfl hb171 (OP.val (v := (.pointer (some ⟨b135, 1, none⟩))) rfl (x_fieldAddr (fsz := 1) 0 1 1 Try.underlying50 rfl Try_T2 rfl f147 rfl) ?_))
                  refine OW.cons (OP.yes' rfl rfl hb171 (OP.val (v := (.int .i64 x127.Code)) rfl (x_load1 Try.underlying2 rfl rfl (hL.cellB 0 rfl rfl)) ?_))
                  refine OW.cons (OP.yes' rfl rfl hb171 (OP.val (v := (.bool (x127.Code != 0))) rfl (x_neq rfl rfl) ?_))
                  refine OW.cons (OP.yes' rfl rfl hb171 (OP.val (v := (.bool (x127.Code != 0))) rfl (x_move) ?_))
                  refine ifB_elim hm (fun hb172 hm => ?_) (fun hb172 hm => ?_)
                  · refine OW.cons (OP.yes' rfl rfl hb172 (OP.val (v := (.pointer (some ⟨b135, 2, none⟩))) rfl (x_fieldAddr (fsz := 1) 0 2 2 Try.underlying50 rfl Try_T2 rfl f147 rfl) ?_))
                    refine OW.cons (OP.yes' rfl rfl hb172 (OP.val (v := (.int .i64 x127.Time)) rfl (x_load1 Try.underlying2 rfl rfl (hL.cellB 0 rfl rfl)) ?_))
                    refine OW.cons (OP.yes' rfl rfl hb172 (OP.val (v := (.bool (x127.Time != 0))) rfl (x_neq rfl rfl) ?_))
                    refine OW.cons (OP.yes' rfl rfl hb171 (OP.val (v := (.bool (x127.Time != 0))) rfl (x_pickT' rfl hb172 rfl) ?_))
                    refine OW.cons (OP.val (v := (.bool (x127.Time != 0))) rfl (x_pickF' rfl hb171 rfl) ?_)
                    refine OW.nil ?_
                    exact ⟨x127.Time != 0, hm, ⟨f145, f146, rfl, hL⟩⟩
                  · refine OW.cons (OP.no' rfl rfl hb172 rfl ?_)
                    refine OW.cons (OP.no' rfl rfl hb172 rfl ?_)
                    refine OW.cons (OP.no' rfl rfl hb172 rfl ?_)
                    refine OW.cons (OP.yes' rfl rfl hb171 (OP.val (v := (.bool false)) rfl (x_pickF' rfl hb172 rfl) ?_))
                    refine OW.cons (OP.val (v := (.bool false)) rfl (x_pickF' rfl hb171 rfl) ?_)
                    refine OW.nil ?_
                    exact ⟨false, hm, ⟨f145, f146, rfl, hL⟩⟩
              · refine OW.cons (OP.no' rfl rfl hb165 rfl ?_)
                refine OW.cons (OP.no' rfl rfl hb165 rfl ?_)
                refine OW.cons (OP.no' rfl rfl hb165 rfl ?_)
                refine OW.cons (OP.no' rfl rfl hb165 rfl ?_)
                refine OW.cons (OP.val (v := (.bool false)) rfl (x_pickF' rfl hb165 rfl) ?_)
                refine OW.cons (OP.val (v := (.bool false)) rfl (x_move) ?_)
                refine OW.cons (OP.yes' rfl rfl rfl (OP.val (v := (.pointer (some ⟨b135, 1, none⟩))) rfl (x_fieldAddr (fsz := 1) 0 1 1 Try.underlying50 rfl Try_T2 rfl f147 rfl) ?_))
                refine OW.cons (OP.yes' rfl rfl rfl (OP.val (v := (.int .i64 x127.Code)) rfl (x_load1 Try.underlying2 rfl rfl (hL.cellB 0 rfl rfl)) ?_))
                refine OW.cons (OP.yes' rfl rfl rfl (OP.val (v := (.bool (x127.Code != 0))) rfl (x_neq rfl rfl) ?_))
                refine OW.cons (OP.yes' rfl rfl rfl (OP.val (v := (.bool (x127.Code != 0))) rfl (x_move) ?_))
                refine ifB_elim hm (fun hb173 hm => ?_) (fun hb173 hm => ?_)
                · refine OW.cons (OP.yes' rfl rfl hb173 (OP.val (v := (.pointer (some ⟨b135, 2, none⟩))) rfl (x_fieldAddr (fsz := 1) 0 2 2 Try.underlying50 rfl Try_T2 rfl f147 rfl) ?_))
                  refine OW.cons (OP.yes' rfl rfl hb173 (OP.val (v := (.int .i64 x127.Time)) rfl (x_load1 Try.underlying2 rfl rfl (hL.cellB 0 rfl rfl)) ?_))
                  refine OW.cons (OP.yes' rfl rfl hb173 (OP.val (v := (.bool (x127.Time != 0))) rfl (x_neq rfl rfl) ?_))
                  refine OW.cons (OP.yes' rfl rfl rfl (OP.val (v := (.bool (x127.Time != 0))) rfl (x_pickT' rfl hb173 rfl) ?_))
                  refine OW.cons (OP.val (v := (.bool (x127.Time != 0))) rfl (x_pickF' rfl rfl rfl) ?_)
                  refine OW.nil ?_
                  exact ⟨x127.Time != 0, hm, ⟨f145, f146, rfl, hL⟩⟩
                · refine OW.cons (OP.no' rfl rfl hb173 rfl ?_)
                  refine OW.cons (OP.no' rfl rfl hb173 rfl ?_)
                  refine OW.cons (OP.no' rfl rfl hb173 rfl ?_)
                  refine OW.cons (OP.yes' rfl rfl rfl (OP.val (v := (.bool false)) rfl (x_pickF' rfl hb173 rfl) ?_))
                  refine OW.cons (OP.val (v := (.bool false)) rfl (x_pickF' rfl rfl rfl) ?_)
                  refine OW.nil ?_
                  exact ⟨false, hm, ⟨f145, f146, rfl, hL⟩⟩
            · intro s_j2 F159 wd160 hJ hm
              unfold M.spec_l26Race_j2 at hm
              obtain ⟨f161, f162, f163, hL⟩ := hJ
              refine CW.condM (t := s_j2) f163 hm (fun hb164 hm => ?_) (fun hb164 hm => ?_)
              · refine CW.seq ?_
                refine CW.regionL ?_
                refine OW.cons (OP.val (v := (.bool false)) rfl (x_assign) ?_)
                refine OW.nil ?_
                refine CW.ret ?_
                obtain rfl := Option.some.inj hm
                have hm := hr115 _ rfl
                obtain rfl := Option.some.inj hm
                exact RR1 rfl rfl ⟨rfl, hL.fresh 2 rfl [] (by decide) (by decide) rfl⟩
              · refine CW.skip ?_
                refine CW.regionL ?_
                refine OW.cons (OP.val (v := (.int .i64 s_l1)) rfl (x_mv f162) ?_)
                refine OW.cons (OP.val (v := (.int .i64 (w64 (s_l1 + 1)))) rfl (x_add rfl rfl) ?_)
                refine OW.cons (OP.val (v := (.int .i64 (w64 (s_l1 + 1)))) rfl (x_assign) ?_)
                refine OW.nil ?_
                have hL := hL.sel [1, 2] (by decide) rfl
                obtain rfl := Option.some.inj hm
                exact ⟨_, rfl, ⟨f161, rfl, hL⟩⟩
      · refine CW.exit ?_
        refine XJ.hit ?_
        obtain rfl := Option.some.inj hm
        exact ⟨_, rfl, ⟨f124, f125, hL⟩⟩

theorem M.spec_IsSeries_ok (w0 : World) (a0 : Series) {v1 : Value} (h2 : rdL (· < w0.heap.size) w0 v1 a0.Races) {r : Bool} (hm : M.spec_IsSeries a0 = some r) :
    Calls Try.prog 34 #[(.agg #[(.int .i64 a0.Boats), (.int .i64 a0.Scheme), v1])] w0 fun e w' => e = .returned (.bool r) ∧ Fresh w0 w' [] := by
  unfold M.spec_IsSeries at hm
  refine calls_CW (args := [(.agg #[(.int .i64 a0.Boats), (.int .i64 a0.Scheme), v1])]) Try.func34 rfl rfl rfl ?_
  have hL := Hp.start w0
  refine CW.seq ?_
  refine CW.regionL ?_
  refine OW.cons (S_box (cs := #[(.int .i64 a0.Boats), (.int .i64 a0.Scheme), v1]) hL rfl rfl rfl ?_)
  intro wd3 b4 hL
  refine OW.cons (OP.val (v := (.bool false)) rfl (x_assign) ?_)
  refine OW.nil ?_
  refine CW.seq ?_
  refine CW.seqJ (fun (s_j1 : Bool) (F : Fr) (w : World) => F 1 = (.pointer (some ⟨b4, 0, none⟩)) ∧ F 19 = (.bool s_j1) ∧ Hp w0 [Ent.blk b4 31 #[(.int .i64 a0.Boats), (.int .i64 a0.Scheme), v1], Ent.snap w0 w0.heap.size] w) (fun s_j1 => M.spec_IsSeries_j1 a0 s_j1 = some r) ?_ ?_
  · refine CW.regionL ?_
    refine OW.cons (OP.val (v := (.pointer (some ⟨b4, 0, none⟩))) rfl (x_fieldAddr (fsz := 1) 0 0 0 Try.underlying31 rfl Try_T2 rfl rfl rfl) ?_)
    refine OW.cons (OP.val (v := (.int .i64 a0.Boats)) rfl (x_load1 Try.underlying2 rfl rfl (hL.cellB 0 rfl rfl)) ?_)
    obtain ⟨x82, hx83, hm⟩ := bndE hm
    refine OW.cons (OP.call rfl (x_call (vs := [(.int .i64 a0.Boats), (.int .i64 1), (.int .i64 16)]) Try_C61 ⟨rfl, rfl, rfl, trivial⟩) (M.spec_l01In_ok _ a0.Boats 1 16 hx83) ?_)
    rintro e84 wd85 ⟨rfl, hF86⟩
    refine ⟨_, rfl, ?_⟩
    have hL := hL.pushAll hF86
    simp only [List.cons_append, List.nil_append, List.set_cons_zero, List.set_cons_succ] at hL
    refine OW.cons (OP.val (v := (.bool (!x82))) rfl (x_not rfl) ?_)
    refine OW.cons (OP.val (v := (.bool (!x82))) rfl (x_move) ?_)
    refine ifB_elim hm (fun hb87 hm => ?_) (fun hb87 hm => ?_)
    · refine OW.cons (OP.no' rfl rfl hb87 rfl ?_)
      refine OW.cons (OP.no' rfl rfl hb87 rfl ?_)
      refine OW.cons (OP.no' rfl rfl hb87 rfl ?_)
      refine OW.cons (OP.no' rfl rfl hb87 rfl ?_)
      refine OW.cons (OP.val (v := (.bool true)) rfl (x_pickT' rfl hb87 rfl) ?_)
      refine OW.cons (OP.val (v := (.bool true)) rfl (x_move) ?_)
      refine OW.cons (OP.no' rfl rfl rfl rfl ?_)
      refine OW.cons (OP.no' rfl rfl rfl rfl ?_)
      refine OW.cons (OP.no' rfl rfl rfl rfl ?_)
      refine OW.cons (OP.no' rfl rfl rfl rfl ?_)
      refine OW.cons (OP.val (v := (.bool true)) rfl (x_pickT' rfl rfl rfl) ?_)
      refine OW.nil ?_
      exact ⟨true, hm, ⟨rfl, rfl, hL⟩⟩
    · refine OW.cons (OP.yes' rfl rfl hb87 (OP.val (v := (.pointer (some ⟨b4, 1, none⟩))) rfl (x_fieldAddr (fsz := 1) 0 1 1 Try.underlying31 rfl Try_T2 rfl rfl rfl) ?_))
      refine OW.cons (OP.yes' rfl rfl hb87 (OP.val (v := (.int .i64 a0.Scheme)) rfl (x_load1 Try.underlying2 rfl rfl (hL.cellB 0 rfl rfl)) ?_))
      obtain ⟨x88, hx89, hm⟩ := bndE hm
      refine OW.cons (OP.yes' rfl rfl hb87 (OP.call rfl (x_call (vs := [(.int .i64 a0.Scheme), (.int .i64 0), (.int .i64 1)]) Try_C61 ⟨rfl, rfl, rfl, trivial⟩) (M.spec_l01In_ok _ a0.Scheme 0 1 hx89) ?_))
      rintro e90 wd91 ⟨rfl, hF92⟩
      refine ⟨_, rfl, ?_⟩
      have hL := hL.pushAll hF92
      simp only [List.cons_append, List.nil_append, List.set_cons_zero, List.set_cons_succ] at hL
      refine OW.cons (OP.yes' rfl rfl hb87 (OP.val (v := (.bool (!x88))) rfl (x_not rfl) ?_))
      refine OW.cons (OP.val (v := (.bool (!x88))) rfl (x_pickF' rfl hb87 rfl) ?_)
      refine OW.cons (OP.val (v := (.bool (!x88))) rfl (x_move) ?_)
      refine ifB_elim hm (fun hb93 hm => ?_) (fun hb93 hm => ?_)
      · refine OW.cons (OP.no' rfl rfl hb93 rfl ?_)
        refine OW.cons (OP.no' rfl rfl hb93 rfl ?_)
        refine OW.cons (OP.no' rfl rfl hb93 rfl ?_)
        refine OW.cons (OP.no' rfl rfl hb93 rfl ?_)
        refine OW.cons (OP.val (v := (.bool true)) rfl (x_pickT' rfl hb93 rfl) ?_)
        refine OW.nil ?_
        exact ⟨true, hm, ⟨rfl, rfl, hL⟩⟩
      · refine OW.cons (OP.yes' rfl rfl hb93 (OP.val (v := (.pointer (some ⟨b4, 2, none⟩))) rfl (x_fieldAddr (fsz := 1) 0 2 2 Try.underlying31 rfl Try_T29 rfl rfl rfl) ?_))
        refine OW.cons (OP.yes' rfl rfl hb93 (OP.val (v := v1) rfl (x_load1 Try.underlying29 rfl rfl (hL.cellB 0 rfl rfl)) ?_))
        refine OW.cons (OP.yes' rfl rfl hb93 (OP.val (v := (.int .i64 (a0.Races.length : Int))) rfl (x_lenR Try.underlying29 rfl (hL.rdS 1 rfl h2)) ?_))
        refine OW.cons (OP.yes' rfl rfl hb93 (OP.val (v := (.bool (decide (12 < (a0.Races.length : Int))))) rfl (x_gtr rfl rfl) ?_))
        refine OW.cons (OP.val (v := (.bool (decide (12 < (a0.Races.length : Int))))) rfl (x_pickF' rfl hb93 rfl) ?_)
        refine OW.nil ?_
        exact ⟨decide (12 < (a0.Races.length : Int)), hm, ⟨rfl, rfl, hL⟩⟩
  · intro s_j1 F17 wd18 hJ hm
    unfold M.spec_IsSeries_j1 at hm
    obtain ⟨f19, f20, hL⟩ := hJ
    refine CW.condM (t := s_j1) f20 hm (fun hb21 hm => ?_) (fun hb21 hm => ?_)
    · refine CW.seq ?_
      refine CW.regionL ?_
      refine OW.cons (OP.val (v := (.bool false)) rfl (x_assign) ?_)
      refine OW.nil ?_
      refine CW.ret ?_
      obtain rfl := Option.some.inj hm
      exact RR1 rfl rfl ⟨rfl, hL.fresh 1 rfl [] (by decide) (by decide) rfl⟩
    · refine CW.skip ?_
      refine CW.seq ?_
      refine CW.seq ?_
      refine CW.regionL ?_
      refine OW.cons (OP.val (v := (.int .i64 0)) rfl (x_assign) ?_)
      refine OW.nil ?_
      obtain ⟨o56, ho57, hm⟩ := bndE hm
      refine CW.loopB (fun (s_l1 : Int) (F : Fr) (w : World) => F 1 = (.pointer (some ⟨b4, 0, none⟩)) ∧ F 3 = (.int .i64 s_l1) ∧ Hp w0 [Ent.blk b4 31 #[(.int .i64 a0.Boats), (.int .i64 a0.Scheme), v1], Ent.snap w0 w0.heap.size] w) (fun o => outc o (fun x => some x) (fun s => M.spec_IsSeries_a1 s) = some r) ho57 hm ⟨f19, rfl, hL⟩ ?_ ?_
      · intro s_l1 F58 wd59 hJ hm
        have hm := outcE hm
        have hm : M.spec_IsSeries_a1 s_l1 = some r := hm
        unfold M.spec_IsSeries_a1 at hm
        obtain ⟨f60, f61, hL⟩ := hJ
        refine CW.seq ?_
        refine CW.regionL ?_
        refine OW.cons (OP.val (v := (.bool true)) rfl (x_assign) ?_)
        refine OW.nil ?_
        refine CW.ret ?_
        obtain rfl := Option.some.inj hm
        exact RR1 rfl rfl ⟨rfl, hL.fresh 1 rfl [] (by decide) (by decide) rfl⟩
      · intro s_l1 F62 wd63 t54 hJ hm hr55
        unfold M.spec_IsSeries_l1 at hm
        obtain ⟨f64, f65, hL⟩ := hJ
        refine CW.seq ?_
        refine CW.seq ?_
        refine CW.regionL ?_
        refine OW.cons (OP.val (v := (.int .i64 s_l1)) rfl (x_mv f65) ?_)
        refine OW.cons (OP.val (v := (.pointer (some ⟨b4, 2, none⟩))) rfl (x_fieldAddr (fsz := 1) 0 2 2 Try.underlying31 rfl Try_T29 rfl f64 rfl) ?_)
        refine OW.cons (OP.val (v := v1) rfl (x_load1 Try.underlying29 rfl rfl (hL.cellB 0 rfl rfl)) ?_)
        refine OW.cons (OP.val (v := (.int .i64 (a0.Races.length : Int))) rfl (x_lenR Try.underlying29 rfl (hL.rdS 1 rfl h2)) ?_)
        refine OW.cons (OP.val (v := (.bool (decide (s_l1 < (a0.Races.length : Int))))) rfl (x_lss rfl rfl) ?_)
        refine OW.nil ?_
        refine CW.condM (t := decide (s_l1 < (a0.Races.length : Int))) rfl hm (fun hb66 hm => ?_) (fun hb66 hm => ?_)
        · refine CW.skip ?_
          refine CW.seq ?_
          refine CW.block ?_
          refine CW.seq ?_
          refine CW.draw Try_mixed ?_
          have hL := hL.call (Mod.drew _)
          refine DW.pre (fuel := 0) (fin := ((((((((((Array.replicate 9 false).setIfInBounds 0 true).setIfInBounds 1 true).setIfInBounds 2 true).setIfInBounds 3 true).setIfInBounds 4 true).setIfInBounds 5 true).setIfInBounds 6 true).setIfInBounds 7 true).setIfInBounds 8 true)) (C := fun w' => Mod None_ _ w') [0, 1, 2, 3, 4, 5, 6, 7, 8] (Mod.refl _ _) (by kernel_rfl) (by kernel_rfl) ?_
          refine QW.cons rfl (QP.val (v := (.pointer (some ⟨b4, 0, none⟩))) rfl (fun w' hm' => x_fieldAddr (fsz := 1) 0 0 0 Try.underlying31 rfl Try_T2 rfl f64 rfl) ?_)
          refine QW.cons rfl (QP.val (v := (.int .i64 a0.Boats)) rfl (fun w' hm' => x_load1 Try.underlying2 rfl rfl ((hL.call hm').cellB 0 rfl rfl)) ?_)
          refine QW.cons rfl (QP.val (v := (.pointer (some ⟨b4, 2, none⟩))) rfl (fun w' hm' => x_fieldAddr (fsz := 1) 0 2 2 Try.underlying31 rfl Try_T29 rfl f64 rfl) ?_)
          refine QW.cons rfl (QP.val (v := v1) rfl (fun w' hm' => x_load1 Try.underlying29 rfl rfl ((hL.call hm').cellB 0 rfl rfl)) ?_)
          refine QW.cons rfl (QP.val (v := (.int .i64 s_l1)) rfl (fun w' hm' => x_mv f65) ?_)
          obtain ⟨x67, ha68, hm⟩ := bndE hm
          obtain ⟨hz69, ha77⟩ := idxE ha68
          obtain ⟨b70, q71, v72, hix73, hs74, hc75, hr76⟩ := rdN_at h2 hz69 ha77
          refine QW.cons rfl (QP.val (v := (.pointer (some ⟨b70, q71, none⟩))) rfl (fun w' hm' => x_ix Try.underlying29 Try_T46 rfl rfl hix73) ?_)
          refine QW.cons rfl (QP.val (v := (.agg #[v72])) rfl (fun w' hm' => x_loadN (cs := [v72]) Try.underlying46 Try_T46 rfl rfl (by intro j u hj; match j, hj with | 0, hj => (simp at hj; subst hj; exact ((hL.call hm').cellS 1 rfl hs74 hc75)))) ?_)
          obtain ⟨x78, hx79, hm⟩ := bndE hm
          refine QW.cons rfl (QP.call (v := (.bool x78)) rfl (fun w' hm' => x_call (vs := [(.int .i64 a0.Boats), (.agg #[v72])]) Try_C62 ⟨rfl, rfl, trivial⟩) (fun w' hm' => (M.spec_l26Race_ok w' a0.Boats x67 ((hL.call hm').rdS 1 rfl hr76) hx79).mono (fun e w'' h => ⟨h.1, hm'.trans h.2.mod⟩)) ?_)
          refine QW.cons rfl (QP.val (v := (.bool (!x78))) rfl (fun w' hm' => x_not rfl) ?_)
          refine QW.nil ?_
          intro wd80 hmod
          have hL := hL.call hmod
          refine DW.done (by kernel_rfl) ?_
          refine CW.condM (t := !x78) rfl hm (fun hb81 hm => ?_) (fun hb81 hm => ?_)
          · refine CW.seq ?_
            refine CW.regionL ?_
            refine OW.cons (OP.val (v := (.bool false)) rfl (x_assign) ?_)
            refine OW.nil ?_
            refine CW.ret ?_
            obtain rfl := Option.some.inj hm
            have hm := hr55 _ rfl
            obtain rfl := Option.some.inj hm
            exact RR1 rfl rfl ⟨rfl, hL.fresh 1 rfl [] (by decide) (by decide) rfl⟩
          · refine CW.skip ?_
            refine CW.regionL ?_
            refine OW.cons (OP.val (v := (.int .i64 s_l1)) rfl (x_mv f65) ?_)
            refine OW.cons (OP.val (v := (.int .i64 (w64 (s_l1 + 1)))) rfl (x_add rfl rfl) ?_)
            refine OW.cons (OP.val (v := (.int .i64 (w64 (s_l1 + 1)))) rfl (x_assign) ?_)
            refine OW.nil ?_
            obtain rfl := Option.some.inj hm
            exact ⟨_, rfl, ⟨f64, rfl, hL⟩⟩
        · refine CW.exit ?_
          refine XJ.hit ?_
          obtain rfl := Option.some.inj hm
          exact ⟨_, rfl, ⟨f64, f65, hL⟩⟩

theorem M.spec_l21Code_ok (w0 : World) (a0 : Int) {r : Bool} (hm : M.spec_l21Code a0 = some r) :
    Calls Try.prog 86 #[(.int .i64 a0)] w0 fun e w' => e = .returned (.bool r) ∧ Fresh w0 w' [] := by
  unfold M.spec_l21Code at hm
  refine calls_CW (args := [(.int .i64 a0)]) Try.func86 rfl rfl rfl ?_
  have hL := Hp.start w0
  refine CW.seq ?_
  refine CW.regionL ?_
  refine OW.cons (OP.val (v := (.bool false)) rfl (x_assign) ?_)
  refine OW.nil ?_
  refine CW.seqJ (fun (s_j1 : Bool) (F : Fr) (w : World) => F 2 = (.bool s_j1) ∧ Hp w0 [Ent.snap w0 w0.heap.size] w) (fun s_j1 => M.spec_l21Code_j1 s_j1 = some r) ?_ ?_
  · refine CW.regionL ?_
    refine OW.cons (OP.val (v := (.int .i64 a0)) rfl (x_move) ?_)
    refine OW.cons (OP.val (v := (.bool (a0 == 6))) rfl (x_eql rfl rfl) ?_)
    refine OW.cons (OP.val (v := (.bool (a0 == 6))) rfl (x_move) ?_)
    refine ifB_elim hm (fun hb6 hm => ?_) (fun hb6 hm => ?_)
    · refine OW.cons (OP.no' rfl rfl hb6 rfl ?_)
      refine OW.cons (OP.no' rfl rfl hb6 rfl ?_)
      refine OW.cons (OP.val (v := (.bool true)) rfl (x_pickT' rfl hb6 rfl) ?_)
      refine OW.cons (OP.val (v := (.bool true)) rfl (x_move) ?_)
      refine OW.cons (OP.no' rfl rfl rfl rfl ?_)
      refine OW.cons (OP.no' rfl rfl rfl rfl ?_)
      refine OW.cons (OP.val (v := (.bool true)) rfl (x_pickT' rfl rfl rfl) ?_)
      refine OW.cons (OP.val (v := (.bool true)) rfl (x_assign) ?_)
      refine OW.nil ?_
      exact ⟨true, hm, ⟨rfl, hL⟩⟩
    · refine OW.cons (OP.yes' rfl rfl hb6 (OP.val (v := (.int .i64 a0)) rfl (x_move) ?_))
      refine OW.cons (OP.yes' rfl rfl hb6 (OP.val (v := (.bool (a0 == 7))) rfl (x_eql rfl rfl) ?_))
      refine OW.cons (OP.val (v := (.bool (a0 == 7))) rfl (x_pickF' rfl hb6 rfl) ?_)
      refine OW.cons (OP.val (v := (.bool (a0 == 7))) rfl (x_move) ?_)
      refine ifB_elim hm (fun hb7 hm => ?_) (fun hb7 hm => ?_)
      · refine OW.cons (OP.no' rfl rfl hb7 rfl ?_)
        refine OW.cons (OP.no' rfl rfl hb7 rfl ?_)
        refine OW.cons (OP.val (v := (.bool true)) rfl (x_pickT' rfl hb7 rfl) ?_)
        refine OW.cons (OP.val (v := (.bool true)) rfl (x_assign) ?_)
        refine OW.nil ?_
        exact ⟨true, hm, ⟨rfl, hL⟩⟩
      · refine OW.cons (OP.yes' rfl rfl hb7 (OP.val (v := (.int .i64 a0)) rfl (x_move) ?_))
        refine OW.cons (OP.yes' rfl rfl hb7 (OP.val (v := (.bool (a0 == 5))) rfl (x_eql rfl rfl) ?_))
        refine OW.cons (OP.val (v := (.bool (a0 == 5))) rfl (x_pickF' rfl hb7 rfl) ?_)
        refine OW.cons (OP.val (v := (.bool (a0 == 5))) rfl (x_assign) ?_)
        refine OW.nil ?_
        exact ⟨a0 == 5, hm, ⟨rfl, hL⟩⟩
  · intro s_j1 F3 wd4 hJ hm
    unfold M.spec_l21Code_j1 at hm
    obtain ⟨f5, hL⟩ := hJ
    refine CW.ret ?_
    obtain rfl := Option.some.inj hm
    exact RR1 rfl f5 ⟨rfl, hL.fresh 0 rfl [] (by decide) (by decide) rfl⟩

theorem M.spec_l21Value_ok (w0 : World) (a0 : Int) (a1 : Int) {r : Bool} (hm : M.spec_l21Value a0 a1 = some r) :
    Calls Try.prog 63 #[(.int .i64 a0), (.int .i64 a1)] w0 fun e w' => e = .returned (.bool r) ∧ Fresh w0 w' [] := by
  unfold M.spec_l21Value at hm
  refine calls_CW (args := [(.int .i64 a0), (.int .i64 a1)]) Try.func63 rfl rfl rfl ?_
  have hL := Hp.start w0
  refine CW.seq ?_
  refine CW.regionL ?_
  refine OW.cons (OP.val (v := (.bool false)) rfl (x_assign) ?_)
  refine OW.nil ?_
  refine CW.seq ?_
  refine CW.seq ?_
  refine CW.regionL ?_
  refine OW.cons (OP.val (v := (.int .i64 a0)) rfl (x_move) ?_)
  refine OW.nil ?_
  refine CW.block ?_
  refine CW.seq ?_
  refine CW.regionL ?_
  refine OW.cons (OP.val (v := (.bool (a0 == 1))) rfl (x_eql rfl rfl) ?_)
  refine OW.cons (OP.val (v := (.bool (a0 == 1))) rfl (x_assign) ?_)
  refine OW.nil ?_
  refine CW.condM (t := a0 == 1) rfl hm (fun hb1 hm => ?_) (fun hb1 hm => ?_)
  · refine CW.seq ?_
    refine CW.regionL ?_
    refine OW.cons (OP.val (v := (.int .i64 a1)) rfl (x_move) ?_)
    obtain ⟨x2, hx3, hm⟩ := bndE hm
    refine OW.cons (OP.call rfl (x_call (vs := [(.int .i64 a1)]) Try_C86 ⟨rfl, trivial⟩) (M.spec_l21Code_ok _ a1 hx3) ?_)
    rintro e4 wd5 ⟨rfl, hF6⟩
    refine ⟨_, rfl, ?_⟩
    have hL := hL.pushAll hF6
    simp only [List.cons_append, List.nil_append, List.set_cons_zero, List.set_cons_succ] at hL
    refine OW.cons (OP.val (v := (.bool x2)) rfl (x_assign) ?_)
    refine OW.nil ?_
    refine CW.ret ?_
    obtain rfl := Option.some.inj hm
    exact RR1 rfl rfl ⟨rfl, hL.fresh 0 rfl [] (by decide) (by decide) rfl⟩
  · refine CW.seq ?_
    refine CW.regionL ?_
    refine OW.cons (OP.val (v := (.bool (a0 == 2))) rfl (x_eql rfl rfl) ?_)
    refine OW.cons (OP.val (v := (.bool (a0 == 2))) rfl (x_assign) ?_)
    refine OW.nil ?_
    refine CW.condM (t := a0 == 2) rfl hm (fun hb7 hm => ?_) (fun hb7 hm => ?_)
    · refine CW.seq ?_
      refine CW.regionL ?_
      refine OW.cons (OP.val (v := (.int .i64 a1)) rfl (x_move) ?_)
      obtain ⟨x8, hx9, hm⟩ := bndE hm
      refine OW.cons (OP.call rfl (x_call (vs := [(.int .i64 a1), (.int .i64 1), (.int .i64 1000000000)]) Try_C61 ⟨rfl, rfl, rfl, trivial⟩) (M.spec_l01In_ok _ a1 1 1000000000 hx9) ?_)
      rintro e10 wd11 ⟨rfl, hF12⟩
      refine ⟨_, rfl, ?_⟩
      have hL := hL.pushAll hF12
      simp only [List.cons_append, List.nil_append, List.set_cons_zero, List.set_cons_succ] at hL
      refine OW.cons (OP.val (v := (.bool x8)) rfl (x_assign) ?_)
      refine OW.nil ?_
      refine CW.ret ?_
      obtain rfl := Option.some.inj hm
      exact RR1 rfl rfl ⟨rfl, hL.fresh 0 rfl [] (by decide) (by decide) rfl⟩
    · refine CW.seq ?_
      refine CW.regionL ?_
      refine OW.cons (OP.val (v := (.bool (a0 == 3))) rfl (x_eql rfl rfl) ?_)
      refine OW.cons (OP.val (v := (.bool (a0 == 3))) rfl (x_assign) ?_)
      refine OW.nil ?_
      refine CW.condM (t := a0 == 3) rfl hm (fun hb13 hm => ?_) (fun hb13 hm => ?_)
      · refine CW.seq ?_
        refine CW.regionL ?_
        refine OW.cons (OP.val (v := (.int .i64 a1)) rfl (x_move) ?_)
        obtain ⟨x14, hx15, hm⟩ := bndE hm
        refine OW.cons (OP.call rfl (x_call (vs := [(.int .i64 a1), (.int .i64 1), (.int .i64 100)]) Try_C61 ⟨rfl, rfl, rfl, trivial⟩) (M.spec_l01In_ok _ a1 1 100 hx15) ?_)
        rintro e16 wd17 ⟨rfl, hF18⟩
        refine ⟨_, rfl, ?_⟩
        have hL := hL.pushAll hF18
        simp only [List.cons_append, List.nil_append, List.set_cons_zero, List.set_cons_succ] at hL
        refine OW.cons (OP.val (v := (.bool x14)) rfl (x_assign) ?_)
        refine OW.nil ?_
        refine CW.ret ?_
        obtain rfl := Option.some.inj hm
        exact RR1 rfl rfl ⟨rfl, hL.fresh 0 rfl [] (by decide) (by decide) rfl⟩
      · refine CW.skip ?_
        refine CW.seq ?_
        refine CW.regionL ?_
        refine OW.cons (OP.val (v := (.bool false)) rfl (x_assign) ?_)
        refine OW.nil ?_
        refine CW.ret ?_
        obtain rfl := Option.some.inj hm
        exact RR1 rfl rfl ⟨rfl, hL.fresh 0 rfl [] (by decide) (by decide) rfl⟩

theorem M.spec_l21Valid_ok (w0 : World) (a0 : Series) {v1 : Value} (h2 : rdL (· < w0.heap.size) w0 v1 a0.Races) (a1 : List Penalty) {v3 : Value} (h4 : rdL (· < w0.heap.size) w0 v3 a1) {r : Bool} (hm : M.spec_l21Valid a0 a1 = some r) :
    Calls Try.prog 35 #[(.agg #[(.int .i64 a0.Boats), (.int .i64 a0.Scheme), v1]), v3] w0 fun e w' => e = .returned (.bool r) ∧ Fresh w0 w' [] := by
  unfold M.spec_l21Valid at hm
  refine calls_CW (args := [(.agg #[(.int .i64 a0.Boats), (.int .i64 a0.Scheme), v1]), v3]) Try.func35 rfl rfl rfl ?_
  have hL := Hp.start w0
  refine CW.seq ?_
  refine CW.regionL ?_
  refine OW.cons (S_box (cs := #[(.int .i64 a0.Boats), (.int .i64 a0.Scheme), v1]) hL rfl rfl rfl ?_)
  intro wd5 b6 hL
  refine OW.cons (OP.val (v := (.bool false)) rfl (x_assign) ?_)
  refine OW.nil ?_
  refine CW.seq ?_
  refine CW.seq ?_
  refine CW.regionL ?_
  refine OW.cons (OP.val (v := (.int .i64 0)) rfl (x_assign) ?_)
  refine OW.nil ?_
  obtain ⟨o113, ho114, hm⟩ := bndE hm
  refine CW.loopB (fun (s_l1 : Int) (F : Fr) (w : World) => F 1 = v3 ∧ F 2 = (.pointer (some ⟨b6, 0, none⟩)) ∧ F 5 = (.int .i64 s_l1) ∧ Hp w0 [Ent.blk b6 31 #[(.int .i64 a0.Boats), (.int .i64 a0.Scheme), v1], Ent.snap w0 w0.heap.size] w) (fun o => outc o (fun x => some x) (fun s => M.spec_l21Valid_a1 a1 s) = some r) ho114 hm ⟨rfl, rfl, rfl, hL⟩ ?_ ?_
  · intro s_l1 F115 wd116 hJ hm
    have hm := outcE hm
    have hm : M.spec_l21Valid_a1 a1 s_l1 = some r := hm
    unfold M.spec_l21Valid_a1 at hm
    obtain ⟨f117, f118, f119, hL⟩ := hJ
    refine CW.seq ?_
    refine CW.regionL ?_
    refine OW.cons (OP.val (v := v3) rfl (x_mv f117) ?_)
    refine OW.cons (OP.val (v := (.int .i64 (a1.length : Int))) rfl (x_lenR Try.underlying33 rfl (hL.rdS 1 rfl h4)) ?_)
    refine OW.cons (OP.val (v := (.bool (decide ((a1.length : Int) ≤ 60)))) rfl (x_leq rfl rfl) ?_)
    refine OW.cons (OP.val (v := (.bool (decide ((a1.length : Int) ≤ 60)))) rfl (x_assign) ?_)
    refine OW.nil ?_
    refine CW.ret ?_
    obtain rfl := Option.some.inj hm
    exact RR1 rfl rfl ⟨rfl, hL.fresh 1 rfl [] (by decide) (by decide) rfl⟩
  · intro s_l1 F120 wd121 t111 hJ hm hr112
    unfold M.spec_l21Valid_l1 at hm
    obtain ⟨f122, f123, f124, hL⟩ := hJ
    refine CW.seq ?_
    refine CW.seq ?_
    refine CW.regionL ?_
    refine OW.cons (OP.val (v := (.int .i64 s_l1)) rfl (x_mv f124) ?_)
    refine OW.cons (OP.val (v := v3) rfl (x_mv f122) ?_)
    refine OW.cons (OP.val (v := (.int .i64 (a1.length : Int))) rfl (x_lenR Try.underlying33 rfl (hL.rdS 1 rfl h4)) ?_)
    refine OW.cons (OP.val (v := (.bool (decide (s_l1 < (a1.length : Int))))) rfl (x_lss rfl rfl) ?_)
    refine OW.nil ?_
    refine CW.condM (t := decide (s_l1 < (a1.length : Int))) rfl hm (fun hb125 hm => ?_) (fun hb125 hm => ?_)
    · refine CW.skip ?_
      refine CW.seq ?_
      refine CW.block ?_
      refine CW.seq ?_
      refine CW.regionL ?_
      refine OW.cons (OP.val (v := v3) rfl (x_mv f122) ?_)
      refine OW.cons (OP.val (v := (.int .i64 s_l1)) rfl (x_mv f124) ?_)
      obtain ⟨x126, ha127, hm⟩ := bndE hm
      obtain ⟨hz128, ha132⟩ := idxE ha127
      obtain ⟨b129, q130, hix131⟩ := rdL_ix (hL.rdS 1 rfl h4) hz128 ha132
      refine OW.cons (OP.val (v := (.pointer (some ⟨b129, q130, none⟩))) rfl (x_ix Try.underlying33 Try_T48 rfl rfl hix131) ?_)
      refine OW.cons (OP.val (v := (.agg #[(.int .i64 x126.Race), (.int .i64 x126.Boat), (.int .i64 x126.Kind), (.int .i64 x126.Value)])) rfl (x_loadN (cs := [(.int .i64 x126.Race), (.int .i64 x126.Boat), (.int .i64 x126.Kind), (.int .i64 x126.Value)]) Try.underlying48 Try_T48 rfl rfl (rdF_cells (hL.rdS 1 rfl h4) hix131 ha132)) ?_)
      refine OW.cons (S_alloc (cs := #[(.int .i64 0), (.int .i64 0), (.int .i64 0), (.int .i64 0)]) hL Try_T48 rfl rfl ?_)
      intro wd133 b134 hL
      refine OW.cons (S_storeN (l := [(.int .i64 x126.Race), (.int .i64 x126.Boat), (.int .i64 x126.Kind), (.int .i64 x126.Value)]) (cs' := #[(.int .i64 x126.Race), (.int .i64 x126.Boat), (.int .i64 x126.Kind), (.int .i64 x126.Value)]) hL 0 rfl Try_T48 rfl rfl (List.forall_mem_cons.2 ⟨rfl, (List.forall_mem_cons.2 ⟨rfl, (List.forall_mem_cons.2 ⟨rfl, (List.forall_mem_cons.2 ⟨rfl, (fun _ h => by cases h)⟩)⟩)⟩)⟩) rfl (Nat.le_of_ble_eq_true rfl) rfl ?_)
      intro wd135 hL
      refine OW.nil ?_
      refine CW.seqJ (fun (s_j1 : Bool) (F : Fr) (w : World) => F 1 = v3 ∧ F 2 = (.pointer (some ⟨b6, 0, none⟩)) ∧ F 5 = (.int .i64 s_l1) ∧ F 41 = (.bool s_j1) ∧ Hp w0 [Ent.blk b134 48 #[(.int .i64 x126.Race), (.int .i64 x126.Boat), (.int .i64 x126.Kind), (.int .i64 x126.Value)], Ent.blk b6 31 #[(.int .i64 a0.Boats), (.int .i64 a0.Scheme), v1], Ent.snap w0 w0.heap.size] w) (fun s_j1 => M.spec_l21Valid_j1 s_l1 s_j1 = some t111) ?_ ?_
      · refine CW.regionL ?_
        refine OW.cons (OP.val (v := (.pointer (some ⟨b134, 0, none⟩))) rfl (x_fieldAddr (fsz := 1) 0 0 0 Try.underlying48 rfl Try_T2 rfl rfl rfl) ?_)
        refine OW.cons (OP.val (v := (.int .i64 x126.Race)) rfl (x_load1 Try.underlying2 rfl rfl (hL.cellB 0 rfl rfl)) ?_)
        refine OW.cons (OP.val (v := (.pointer (some ⟨b6, 2, none⟩))) rfl (x_fieldAddr (fsz := 1) 0 2 2 Try.underlying31 rfl Try_T29 rfl f123 rfl) ?_)
        refine OW.cons (OP.val (v := v1) rfl (x_load1 Try.underlying29 rfl rfl (hL.cellB 1 rfl rfl)) ?_)
        refine OW.cons (OP.val (v := (.int .i64 (a0.Races.length : Int))) rfl (x_lenR Try.underlying29 rfl (hL.rdS 2 rfl h2)) ?_)
        refine OW.cons (OP.val (v := (.int .i64 (w64 ((a0.Races.length : Int) - 1)))) rfl (x_sub rfl rfl) ?_)
        obtain ⟨x160, hx161, hm⟩ := bndE hm
        refine OW.cons (OP.call rfl (x_call (vs := [(.int .i64 x126.Race), (.int .i64 0), (.int .i64 (w64 ((a0.Races.length : Int) - 1)))]) Try_C61 ⟨rfl, rfl, rfl, trivial⟩) (M.spec_l01In_ok _ x126.Race 0 (w64 ((a0.Races.length : Int) - 1)) hx161) ?_)
        rintro e162 wd163 ⟨rfl, hF164⟩
        refine ⟨_, rfl, ?_⟩
        have hL := hL.pushAll hF164
        simp only [List.cons_append, List.nil_append, List.set_cons_zero, List.set_cons_succ] at hL
        refine OW.cons (OP.val (v := (.bool (!x160))) rfl (x_not rfl) ?_)
        refine OW.cons (OP.val (v := (.bool (!x160))) rfl (x_move) ?_)
        refine ifB_elim hm (fun hb165 hm => ?_) (fun hb165 hm => ?_)
        · refine OW.cons (OP.no' rfl rfl hb165 rfl ?_)
          refine OW.cons (OP.no' rfl rfl hb165 rfl ?_)
          refine OW.cons (OP.no' rfl rfl hb165 rfl ?_)
          refine OW.cons (OP.no' rfl rfl hb165 rfl ?_)
          refine OW.cons (OP.no' rfl rfl hb165 rfl ?_)
          refine OW.cons (OP.no' rfl rfl hb165 rfl ?_)
          refine OW.cons (OP.no' rfl rfl hb165 rfl ?_)
          refine OW.cons (OP.val (v := (.bool true)) rfl (x_pickT' rfl hb165 rfl) ?_)
          refine OW.cons (OP.val (v := (.bool true)) rfl (x_move) ?_)
          refine OW.cons (OP.no' rfl rfl rfl rfl ?_)
          refine OW.cons (OP.no' rfl rfl rfl rfl ?_)
          refine OW.cons (OP.no' rfl rfl rfl rfl ?_)
          refine OW.cons (OP.no' rfl rfl rfl rfl ?_)
          refine OW.cons (OP.no' rfl rfl rfl rfl ?_)
          refine OW.cons (OP.no' rfl rfl rfl rfl ?_)
          refine OW.cons (OP.val (v := (.bool true)) rfl (x_pickT' rfl rfl rfl) ?_)
          refine OW.nil ?_
          exact ⟨true, hm, ⟨f122, f123, f124, rfl, hL⟩⟩
        · refine OW.cons (OP.yes' rfl rfl hb165 (OP.val (v := (.pointer (some ⟨b134, 1, none⟩))) rfl (x_fieldAddr (fsz := 1) 0 1 1 Try.underlying48 rfl Try_T2 rfl rfl rfl) ?_))
          refine OW.cons (OP.yes' rfl rfl hb165 (OP.val (v := (.int .i64 x126.Boat)) rfl (x_load1 Try.underlying2 rfl rfl (hL.cellB 0 rfl rfl)) ?_))
          refine OW.cons (OP.yes' rfl rfl hb165 (OP.val (v := (.pointer (some ⟨b6, 0, none⟩))) rfl (x_fieldAddr (fsz := 1) 0 0 0 Try.underlying31 rfl Try_T2 rfl f123 rfl) ?_))
          refine OW.cons (OP.yes' rfl rfl hb165 (OP.val (v := (.int .i64 a0.Boats)) rfl (x_load1 Try.underlying2 rfl rfl (hL.cellB 1 rfl rfl)) ?_))
          refine OW.cons (OP.yes' rfl rfl hb165 (OP.val (v := (.int .i64 (w64 (a0.Boats - 1)))) rfl (x_sub rfl rfl) ?_))
          obtain ⟨x166, hx167, hm⟩ := bndE hm
          refine OW.cons (OP.yes' rfl rfl hb165 (OP.call rfl (x_call (vs := [(.int .i64 x126.Boat), (.int .i64 0), (.int .i64 (w64 (a0.Boats - 1)))]) Try_C61 ⟨rfl, rfl, rfl, trivial⟩) (M.spec_l01In_ok _ x126.Boat 0 (w64 (a0.Boats - 1)) hx167) ?_))
          rintro e168 wd169 ⟨rfl, hF170⟩
          refine ⟨_, rfl, ?_⟩
          have hL := hL.pushAll hF170
          simp only [List.cons_append, List.nil_append, List.set_cons_zero, List.set_cons_succ] at hL
          refine OW.cons (OP.yes' rfl rfl hb165 (OP.val (v := (.bool (!x166))) rfl (x_not rfl) ?_))
          refine OW.cons (OP.val (v := (.bool (!x166))) rfl (x_pickF' rfl hb165 rfl) ?_)
          refine OW.cons (OP.val (v := (.bool (!x166))) rfl (x_move) ?_)
          refine ifB_elim hm (fun hb171 hm => ?_) (fun hb171 hm => ?_)
          · refine OW.cons (OP.no' rfl rfl hb171 rfl ?_)
            refine OW.cons (OP.no' rfl rfl hb171 rfl ?_)
            refine OW.cons (OP.no' rfl rfl hb171 rfl ?_)
            refine OW.cons (OP.no' rfl rfl hb171 rfl ?_)
            refine OW.cons (OP.no' rfl rfl hb171 rfl ?_)
            refine OW.cons (OP.no' rfl rfl hb171 rfl ?_)
            refine OW.cons (OP.val (v := (.bool true)) rfl (x_pickT' rfl hb171 rfl) ?_)
            refine OW.nil ?_
            exact ⟨true, hm, ⟨f122, f123, f124, rfl, hL⟩⟩
          · refine OW.cons (OP.yes' rfl rfl hb171 (OP.val (v := (.pointer (some ⟨b134, 2, none⟩))) rfl (x_fieldAddr (fsz := 1) 0 2 2 Try.underlying48 rfl Try_T2 rfl rfl rfl) ?_))
            refine OW.cons (OP.yes' rfl rfl hb171 (OP.val (v := (.int .i64 x126.Kind)) rfl (x_load1 Try.underlying2 rfl rfl (hL.cellB 0 rfl rfl)) ?_))
            refine OW.cons (OP.yes' rfl rfl hb171 (OP.val (v := (.pointer (some ⟨b134, 3, none⟩))) rfl (x_fieldAddr (fsz := 1) 0 3 3 Try.underlying48 rfl Try_T2 rfl rfl rfl) ?_))
            refine OW.cons (OP.yes' rfl rfl hb171 (OP.val (v := (.int .i64 x126.Value)) rfl (x_load1 Try.underlying2 rfl rfl (hL.cellB 0 rfl rfl)) ?_))
            obtain ⟨x172, hx173, hm⟩ := bndE hm
            refine OW.cons (OP.yes' rfl rfl hb171 (OP.call rfl (x_call (vs := [(.int .i64 x126.Kind), (.int .i64 x126.Value)]) Try_C63 ⟨rfl, rfl, trivial⟩) (M.spec_l21Value_ok _ x126.Kind x126.Value hx173) ?_))
            rintro e174 wd175 ⟨rfl, hF176⟩
            refine ⟨_, rfl, ?_⟩
            have hL := hL.pushAll hF176
            simp only [List.cons_append, List.nil_append, List.set_cons_zero, List.set_cons_succ] at hL
            refine OW.cons (OP.yes' rfl rfl hb171 (OP.val (v := (.bool (!x172))) rfl (x_not rfl) ?_))
            refine OW.cons (OP.val (v := (.bool (!x172))) rfl (x_pickF' rfl hb171 rfl) ?_)
            refine OW.nil ?_
            exact ⟨!x172, hm, ⟨f122, f123, f124, rfl, hL⟩⟩
      · intro s_j1 F153 wd154 hJ hm
        unfold M.spec_l21Valid_j1 at hm
        obtain ⟨f155, f156, f157, f158, hL⟩ := hJ
        refine CW.condM (t := s_j1) f158 hm (fun hb159 hm => ?_) (fun hb159 hm => ?_)
        · refine CW.seq ?_
          refine CW.regionL ?_
          refine OW.cons (OP.val (v := (.bool false)) rfl (x_assign) ?_)
          refine OW.nil ?_
          refine CW.ret ?_
          obtain rfl := Option.some.inj hm
          have hm := hr112 _ rfl
          obtain rfl := Option.some.inj hm
          exact RR1 rfl rfl ⟨rfl, hL.fresh 2 rfl [] (by decide) (by decide) rfl⟩
        · refine CW.skip ?_
          refine CW.regionL ?_
          refine OW.cons (OP.val (v := (.int .i64 s_l1)) rfl (x_mv f157) ?_)
          refine OW.cons (OP.val (v := (.int .i64 (w64 (s_l1 + 1)))) rfl (x_add rfl rfl) ?_)
          refine OW.cons (OP.val (v := (.int .i64 (w64 (s_l1 + 1)))) rfl (x_assign) ?_)
          refine OW.nil ?_
          have hL := hL.sel [1, 2] (by decide) rfl
          obtain rfl := Option.some.inj hm
          exact ⟨_, rfl, ⟨f155, f156, rfl, hL⟩⟩
    · refine CW.exit ?_
      refine XJ.hit ?_
      obtain rfl := Option.some.inj hm
      exact ⟨_, rfl, ⟨f122, f123, f124, hL⟩⟩

theorem M.impl_within_ok (w0 : World) (a0 : Int) (a1 : Int) (a2 : Int) {r : Bool} (hm : M.impl_within a0 a1 a2 = some r) :
    Calls Try.prog 49 #[(.int .i64 a0), (.int .i64 a1), (.int .i64 a2)] w0 fun e w' => e = .returned (.bool r) ∧ Fresh w0 w' [] := by
  unfold M.impl_within at hm
  refine calls_CW (args := [(.int .i64 a0), (.int .i64 a1), (.int .i64 a2)]) Try.func49 rfl rfl rfl ?_
  have hL := Hp.start w0
  refine CW.seq ?_
  refine CW.regionL ?_
  refine OW.cons (OP.val (v := (.bool false)) rfl (x_assign) ?_)
  refine OW.nil ?_
  refine CW.seqJ (fun (s_j1 : Bool) (F : Fr) (w : World) => F 6 = (.bool s_j1) ∧ Hp w0 [Ent.snap w0 w0.heap.size] w) (fun s_j1 => M.impl_within_j1 s_j1 = some r) ?_ ?_
  · refine CW.regionL ?_
    refine OW.cons (OP.val (v := (.int .i64 a0)) rfl (x_move) ?_)
    refine OW.cons (OP.val (v := (.int .i64 a1)) rfl (x_move) ?_)
    refine OW.cons (OP.val (v := (.bool (decide (a1 ≤ a0)))) rfl (x_geq rfl rfl) ?_)
    refine OW.cons (OP.val (v := (.bool (decide (a1 ≤ a0)))) rfl (x_move) ?_)
    refine ifB_elim hm (fun hb5 hm => ?_) (fun hb5 hm => ?_)
    · refine OW.cons (OP.yes' rfl rfl hb5 (OP.val (v := (.int .i64 a0)) rfl (x_move) ?_))
      refine OW.cons (OP.yes' rfl rfl hb5 (OP.val (v := (.int .i64 a2)) rfl (x_move) ?_))
      refine OW.cons (OP.yes' rfl rfl hb5 (OP.val (v := (.bool (decide (a0 ≤ a2)))) rfl (x_leq rfl rfl) ?_))
      refine OW.cons (OP.val (v := (.bool (decide (a0 ≤ a2)))) rfl (x_pickT' rfl hb5 rfl) ?_)
      refine OW.cons (OP.val (v := (.bool (decide (a0 ≤ a2)))) rfl (x_assign) ?_)
      refine OW.nil ?_
      exact ⟨decide (a0 ≤ a2), hm, ⟨rfl, hL⟩⟩
    · refine OW.cons (OP.no' rfl rfl hb5 rfl ?_)
      refine OW.cons (OP.no' rfl rfl hb5 rfl ?_)
      refine OW.cons (OP.no' rfl rfl hb5 rfl ?_)
      refine OW.cons (OP.val (v := (.bool false)) rfl (x_pickF' rfl hb5 rfl) ?_)
      refine OW.cons (OP.val (v := (.bool false)) rfl (x_assign) ?_)
      refine OW.nil ?_
      exact ⟨false, hm, ⟨rfl, hL⟩⟩
  · intro s_j1 F2 wd3 hJ hm
    unfold M.impl_within_j1 at hm
    obtain ⟨f4, hL⟩ := hJ
    refine CW.ret ?_
    obtain rfl := Option.some.inj hm
    exact RR1 rfl f4 ⟨rfl, hL.fresh 0 rfl [] (by decide) (by decide) rfl⟩

theorem M.impl_isBoat_ok (w0 : World) (a0 : Int) {r : Bool} (hm : M.impl_isBoat a0 = some r) :
    Calls Try.prog 98 #[(.int .i64 a0)] w0 fun e w' => e = .returned (.bool r) ∧ Fresh w0 w' [] := by
  unfold M.impl_isBoat at hm
  refine calls_CW (args := [(.int .i64 a0)]) Try.func98 rfl rfl rfl ?_
  have hL := Hp.start w0
  refine CW.seq ?_
  refine CW.regionL ?_
  refine OW.cons (OP.val (v := (.bool false)) rfl (x_assign) ?_)
  refine OW.nil ?_
  refine CW.seq ?_
  refine CW.regionL ?_
  refine OW.cons (OP.val (v := (.int .i64 a0)) rfl (x_move) ?_)
  obtain ⟨x1, hx2, hm⟩ := bndE hm
  refine OW.cons (OP.call rfl (x_call (vs := [(.int .i64 a0), (.int .i64 0), (.int .i64 15)]) Try_C49 ⟨rfl, rfl, rfl, trivial⟩) (M.impl_within_ok _ a0 0 15 hx2) ?_)
  rintro e3 wd4 ⟨rfl, hF5⟩
  refine ⟨_, rfl, ?_⟩
  have hL := hL.pushAll hF5
  simp only [List.cons_append, List.nil_append, List.set_cons_zero, List.set_cons_succ] at hL
  refine OW.cons (OP.val (v := (.bool x1)) rfl (x_assign) ?_)
  refine OW.nil ?_
  refine CW.ret ?_
  obtain rfl := Option.some.inj hm
  exact RR1 rfl rfl ⟨rfl, hL.fresh 0 rfl [] (by decide) (by decide) rfl⟩

theorem M.impl_IsFinish_ok (w0 : World) (a0 : Finish) {r : Bool} (hm : M.impl_IsFinish a0 = some r) :
    Calls Try.prog 93 #[(.agg #[(.int .i64 a0.Boat), (.int .i64 a0.Code), (.int .i64 a0.Time)])] w0 fun e w' => e = .returned (.bool r) ∧ Fresh w0 w' [] := by
  unfold M.impl_IsFinish at hm
  refine calls_CW (args := [(.agg #[(.int .i64 a0.Boat), (.int .i64 a0.Code), (.int .i64 a0.Time)])]) Try.func93 rfl rfl rfl ?_
  have hL := Hp.start w0
  refine CW.seq ?_
  refine CW.regionL ?_
  refine OW.cons (S_box (cs := #[(.int .i64 a0.Boat), (.int .i64 a0.Code), (.int .i64 a0.Time)]) hL rfl rfl rfl ?_)
  intro wd1 b2 hL
  refine OW.cons (OP.val (v := (.bool false)) rfl (x_assign) ?_)
  refine OW.nil ?_
  refine CW.seq ?_
  refine CW.seq ?_
  refine CW.regionL ?_
  refine OW.cons (OP.val (v := (.pointer (some ⟨b2, 1, none⟩))) rfl (x_fieldAddr (fsz := 1) 0 1 1 Try.underlying50 rfl Try_T2 rfl rfl rfl) ?_)
  refine OW.cons (OP.val (v := (.int .i64 a0.Code)) rfl (x_load1 Try.underlying2 rfl rfl (hL.cellB 0 rfl rfl)) ?_)
  refine OW.cons (OP.val (v := (.bool (a0.Code == 0))) rfl (x_eql rfl rfl) ?_)
  refine OW.nil ?_
  refine CW.condM (t := a0.Code == 0) rfl hm (fun hb3 hm => ?_) (fun hb3 hm => ?_)
  · refine CW.seqJ (fun (s_j1 : Bool) (F : Fr) (w : World) => F 2 = (.bool s_j1) ∧ Hp w0 [Ent.blk b2 50 #[(.int .i64 a0.Boat), (.int .i64 a0.Code), (.int .i64 a0.Time)], Ent.snap w0 w0.heap.size] w) (fun s_j1 => M.impl_IsFinish_j1 s_j1 = some r) ?_ ?_
    · refine CW.regionL ?_
      refine OW.cons (OP.val (v := (.pointer (some ⟨b2, 0, none⟩))) rfl (x_fieldAddr (fsz := 1) 0 0 0 Try.underlying50 rfl Try_T2 rfl rfl rfl) ?_)
      refine OW.cons (OP.val (v := (.int .i64 a0.Boat)) rfl (x_load1 Try.underlying2 rfl rfl (hL.cellB 0 rfl rfl)) ?_)
      obtain ⟨x18, hx19, hm⟩ := bndE hm
      refine OW.cons (OP.call rfl (x_call (vs := [(.int .i64 a0.Boat)]) Try_C98 ⟨rfl, trivial⟩) (M.impl_isBoat_ok _ a0.Boat hx19) ?_)
      rintro e20 wd21 ⟨rfl, hF22⟩
      refine ⟨_, rfl, ?_⟩
      have hL := hL.pushAll hF22
      simp only [List.cons_append, List.nil_append, List.set_cons_zero, List.set_cons_succ] at hL
      refine OW.cons (OP.val (v := (.bool x18)) rfl (x_move) ?_)
      refine ifB_elim hm (fun hb23 hm => ?_) (fun hb23 hm => ?_)
      · refine OW.cons (OP.yes' rfl rfl hb23 (OP.val (v := (.pointer (some ⟨b2, 2, none⟩))) rfl (x_fieldAddr (fsz := 1) 0 2 2 Try.underlying50 rfl Try_T2 rfl rfl rfl) ?_))
        refine OW.cons (OP.yes' rfl rfl hb23 (OP.val (v := (.int .i64 a0.Time)) rfl (x_load1 Try.underlying2 rfl rfl (hL.cellB 0 rfl rfl)) ?_))
        obtain ⟨x24, hx25, hm⟩ := bndE hm
        refine OW.cons (OP.yes' rfl rfl hb23 (OP.call rfl (x_call (vs := [(.int .i64 a0.Time), (.int .i64 1), (.int .i64 1000000000)]) Try_C49 ⟨rfl, rfl, rfl, trivial⟩) (M.impl_within_ok _ a0.Time 1 1000000000 hx25) ?_))
        rintro e26 wd27 ⟨rfl, hF28⟩
        refine ⟨_, rfl, ?_⟩
        have hL := hL.pushAll hF28
        simp only [List.cons_append, List.nil_append, List.set_cons_zero, List.set_cons_succ] at hL
        refine OW.cons (OP.val (v := (.bool x24)) rfl (x_pickT' rfl hb23 rfl) ?_)
        refine OW.cons (OP.val (v := (.bool x24)) rfl (x_assign) ?_)
        refine OW.nil ?_
        exact ⟨x24, hm, ⟨rfl, hL⟩⟩
      · refine OW.cons (OP.no' rfl rfl hb23 rfl ?_)
        refine OW.cons (OP.no' rfl rfl hb23 rfl ?_)
        refine OW.cons (OP.no' rfl rfl hb23 rfl ?_)
        refine OW.cons (OP.val (v := (.bool false)) rfl (x_pickF' rfl hb23 rfl) ?_)
        refine OW.cons (OP.val (v := (.bool false)) rfl (x_assign) ?_)
        refine OW.nil ?_
        exact ⟨false, hm, ⟨rfl, hL⟩⟩
    · intro s_j1 F15 wd16 hJ hm
      unfold M.impl_IsFinish_j1 at hm
      obtain ⟨f17, hL⟩ := hJ
      refine CW.ret ?_
      obtain rfl := Option.some.inj hm
      exact RR1 rfl f17 ⟨rfl, hL.fresh 1 rfl [] (by decide) (by decide) rfl⟩
  · refine CW.skip ?_
    refine CW.seqJ (fun (s_j2 : Bool) (F : Fr) (w : World) => F 2 = (.bool s_j2) ∧ Hp w0 [Ent.blk b2 50 #[(.int .i64 a0.Boat), (.int .i64 a0.Code), (.int .i64 a0.Time)], Ent.snap w0 w0.heap.size] w) (fun s_j2 => M.impl_IsFinish_j2 s_j2 = some r) ?_ ?_
    · refine CW.regionL ?_
      refine OW.cons (OP.val (v := (.pointer (some ⟨b2, 0, none⟩))) rfl (x_fieldAddr (fsz := 1) 0 0 0 Try.underlying50 rfl Try_T2 rfl rfl rfl) ?_)
      refine OW.cons (OP.val (v := (.int .i64 a0.Boat)) rfl (x_load1 Try.underlying2 rfl rfl (hL.cellB 0 rfl rfl)) ?_)
      obtain ⟨x44, hx45, hm⟩ := bndE hm
      refine OW.cons (OP.call rfl (x_call (vs := [(.int .i64 a0.Boat)]) Try_C98 ⟨rfl, trivial⟩) (M.impl_isBoat_ok _ a0.Boat hx45) ?_)
      rintro e46 wd47 ⟨rfl, hF48⟩
      refine ⟨_, rfl, ?_⟩
      have hL := hL.pushAll hF48
      simp only [List.cons_append, List.nil_append, List.set_cons_zero, List.set_cons_succ] at hL
      refine OW.cons (OP.val (v := (.bool x44)) rfl (x_move) ?_)
      refine ifB_elim hm (fun hb49 hm => ?_) (fun hb49 hm => ?_)
      · refine OW.cons (OP.yes' rfl rfl hb49 (OP.val (v := (.pointer (some ⟨b2, 1, none⟩))) rfl (x_fieldAddr (fsz := 1) 0 1 1 Try.underlying50 rfl Try_T2 rfl rfl rfl) ?_))
        refine OW.cons (OP.yes' rfl rfl hb49 (OP.val (v := (.int .i64 a0.Code)) rfl (x_load1 Try.underlying2 rfl rfl (hL.cellB 0 rfl rfl)) ?_))
        obtain ⟨x50, hx51, hm⟩ := bndE hm
        refine OW.cons (OP.yes' rfl rfl hb49 (OP.call rfl (x_call (vs := [(.int .i64 a0.Code), (.int .i64 1), (.int .i64 9)]) Try_C49 ⟨rfl, rfl, rfl, trivial⟩) (M.impl_within_ok _ a0.Code 1 9 hx51) ?_))
        rintro e52 wd53 ⟨rfl, hF54⟩
        refine ⟨_, rfl, ?_⟩
        have hL := hL.pushAll hF54
        simp only [List.cons_append, List.nil_append, List.set_cons_zero, List.set_cons_succ] at hL
        refine OW.cons (OP.val (v := (.bool x50)) rfl (x_pickT' rfl hb49 rfl) ?_)
        refine OW.cons (OP.val (v := (.bool x50)) rfl (x_move) ?_)
        refine ifB_elim hm (fun hb55 hm => ?_) (fun hb55 hm => ?_)
        · refine OW.cons (OP.yes' rfl rfl hb55 (OP.val (v := (.pointer (some ⟨b2, 2, none⟩))) rfl (x_fieldAddr (fsz := 1) 0 2 2 Try.underlying50 rfl Try_T2 rfl rfl rfl) ?_))
          refine OW.cons (OP.yes' rfl rfl hb55 (OP.val (v := (.int .i64 a0.Time)) rfl (x_load1 Try.underlying2 rfl rfl (hL.cellB 0 rfl rfl)) ?_))
          refine OW.cons (OP.yes' rfl rfl hb55 (OP.val (v := (.bool (a0.Time == 0))) rfl (x_eql rfl rfl) ?_))
          refine OW.cons (OP.val (v := (.bool (a0.Time == 0))) rfl (x_pickT' rfl hb55 rfl) ?_)
          refine OW.cons (OP.val (v := (.bool (a0.Time == 0))) rfl (x_assign) ?_)
          refine OW.nil ?_
          exact ⟨a0.Time == 0, hm, ⟨rfl, hL⟩⟩
        · refine OW.cons (OP.no' rfl rfl hb55 rfl ?_)
          refine OW.cons (OP.no' rfl rfl hb55 rfl ?_)
          refine OW.cons (OP.no' rfl rfl hb55 rfl ?_)
          refine OW.cons (OP.val (v := (.bool false)) rfl (x_pickF' rfl hb55 rfl) ?_)
          refine OW.cons (OP.val (v := (.bool false)) rfl (x_assign) ?_)
          refine OW.nil ?_
          exact ⟨false, hm, ⟨rfl, hL⟩⟩
      · refine OW.cons (OP.no' rfl rfl hb49 rfl ?_)
        refine OW.cons (OP.no' rfl rfl hb49 rfl ?_)
        refine OW.cons (OP.no' rfl rfl hb49 rfl ?_)
        refine OW.cons (OP.val (v := (.bool false)) rfl (x_pickF' rfl hb49 rfl) ?_)
        refine OW.cons (OP.val (v := (.bool false)) rfl (x_move) ?_)
        refine OW.cons (OP.no' rfl rfl rfl rfl ?_)
        refine OW.cons (OP.no' rfl rfl rfl rfl ?_)
        refine OW.cons (OP.no' rfl rfl rfl rfl ?_)
        refine OW.cons (OP.val (v := (.bool false)) rfl (x_pickF' rfl rfl rfl) ?_)
        refine OW.cons (OP.val (v := (.bool false)) rfl (x_assign) ?_)
        refine OW.nil ?_
        exact ⟨false, hm, ⟨rfl, hL⟩⟩
    · intro s_j2 F41 wd42 hJ hm
      unfold M.impl_IsFinish_j2 at hm
      obtain ⟨f43, hL⟩ := hJ
      refine CW.ret ?_
      obtain rfl := Option.some.inj hm
      exact RR1 rfl f43 ⟨rfl, hL.fresh 1 rfl [] (by decide) (by decide) rfl⟩

theorem M.impl_areFinishes_ok (w0 : World) (a0 : Int) (a1 : List Finish) {v1 : Value} (h2 : rdL (· < w0.heap.size) w0 v1 a1) {r : Bool} (hm : M.impl_areFinishes a0 a1 = some r) :
    Calls Try.prog 71 #[(.int .i64 a0), v1] w0 fun e w' => e = .returned (.bool r) ∧ Fresh w0 w' [] := by
  unfold M.impl_areFinishes at hm
  refine calls_CW (args := [(.int .i64 a0), v1]) Try.func71 rfl rfl rfl ?_
  have hL := Hp.start w0
  refine CW.seq ?_
  refine CW.regionL ?_
  refine OW.cons (OP.val (v := (.bool false)) rfl (x_assign) ?_)
  refine OW.nil ?_
  refine CW.seq ?_
  refine CW.seqJ (fun (s_j1 : Bool) (F : Fr) (w : World) => F 1 = v1 ∧ F 15 = (.bool s_j1) ∧ Hp w0 [Ent.snap w0 w0.heap.size] w) (fun s_j1 => M.impl_areFinishes_j1 a1 s_j1 = some r) ?_ ?_
  · refine CW.regionL ?_
    refine OW.cons (OP.val (v := (.int .i64 a0)) rfl (x_move) ?_)
    obtain ⟨x118, hx119, hm⟩ := bndE hm
    refine OW.cons (OP.call rfl (x_call (vs := [(.int .i64 a0), (.int .i64 1), (.int .i64 16)]) Try_C49 ⟨rfl, rfl, rfl, trivial⟩) (M.impl_within_ok _ a0 1 16 hx119) ?_)
    rintro e120 wd121 ⟨rfl, hF122⟩
    refine ⟨_, rfl, ?_⟩
    have hL := hL.pushAll hF122
    simp only [List.cons_append, List.nil_append, List.set_cons_zero, List.set_cons_succ] at hL
    refine OW.cons (OP.val (v := (.bool (!x118))) rfl (x_not rfl) ?_)
    refine OW.cons (OP.val (v := (.bool (!x118))) rfl (x_move) ?_)
    refine ifB_elim hm (fun hb123 hm => ?_) (fun hb123 hm => ?_)
    · refine OW.cons (OP.no' rfl rfl hb123 rfl ?_)
      refine OW.cons (OP.no' rfl rfl hb123 rfl ?_)
      refine OW.cons (OP.no' rfl rfl hb123 rfl ?_)
      refine OW.cons (OP.no' rfl rfl hb123 rfl ?_)
      refine OW.cons (OP.val (v := (.bool true)) rfl (x_pickT' rfl hb123 rfl) ?_)
      refine OW.nil ?_
      exact ⟨true, hm, ⟨rfl, rfl, hL⟩⟩
    · refine OW.cons (OP.yes' rfl rfl hb123 (OP.val (v := v1) rfl (x_move) ?_))
      refine OW.cons (OP.yes' rfl rfl hb123 (OP.val (v := (.int .i64 (a1.length : Int))) rfl (x_lenR Try.underlying44 rfl (hL.rdS 0 rfl h2)) ?_))
      refine OW.cons (OP.yes' rfl rfl hb123 (OP.val (v := (.int .i64 a0)) rfl (x_move) ?_))
      refine OW.cons (OP.yes' rfl rfl hb123 (OP.val (v := (.bool ((a1.length : Int) != a0))) rfl (x_neq rfl rfl) ?_))
      refine OW.cons (OP.val (v := (.bool ((a1.length : Int) != a0))) rfl (x_pickF' rfl hb123 rfl) ?_)
      refine OW.nil ?_
      exact ⟨(a1.length : Int) != a0, hm, ⟨rfl, rfl, hL⟩⟩
  · intro s_j1 F9 wd10 hJ hm
    unfold M.impl_areFinishes_j1 at hm
    obtain ⟨f11, f12, hL⟩ := hJ
    refine CW.condM (t := s_j1) f12 hm (fun hb13 hm => ?_) (fun hb13 hm => ?_)
    · refine CW.seq ?_
      refine CW.regionL ?_
      refine OW.cons (OP.val (v := (.bool false)) rfl (x_assign) ?_)
      refine OW.nil ?_
      refine CW.ret ?_
      obtain rfl := Option.some.inj hm
      exact RR1 rfl rfl ⟨rfl, hL.fresh 0 rfl [] (by decide) (by decide) rfl⟩
    · refine CW.skip ?_
      refine CW.seq ?_
      refine CW.seq ?_
      refine CW.regionL ?_
      refine OW.cons (OP.val (v := v1) rfl (x_mv f11) ?_)
      refine OW.cons (OP.val (v := (.int .i64 (a1.length : Int))) rfl (x_lenR Try.underlying44 rfl (hL.rdS 0 rfl h2)) ?_)
      refine OW.cons (OP.val (v := (.int .i64 0)) rfl (x_move) ?_)
      refine OW.nil ?_
      obtain ⟨o76, ho77, hm⟩ := bndE hm
      refine CW.loopB (fun (s_l1 : Int) (F : Fr) (w : World) => F 16 = v1 ∧ F 17 = (.int .i64 (a1.length : Int)) ∧ F 18 = (.int .i64 s_l1) ∧ Hp w0 [Ent.snap w0 w0.heap.size] w) (fun o => outc o (fun x => some x) (fun s => M.impl_areFinishes_a1 s) = some r) ho77 hm ⟨rfl, rfl, rfl, hL⟩ ?_ ?_
      · intro s_l1 F78 wd79 hJ hm
        have hm := outcE hm
        have hm : M.impl_areFinishes_a1 s_l1 = some r := hm
        unfold M.impl_areFinishes_a1 at hm
        obtain ⟨f80, f81, f82, hL⟩ := hJ
        refine CW.seq ?_
        refine CW.regionL ?_
        refine OW.cons (OP.val (v := (.bool true)) rfl (x_assign) ?_)
        refine OW.nil ?_
        refine CW.ret ?_
        obtain rfl := Option.some.inj hm
        exact RR1 rfl rfl ⟨rfl, hL.fresh 0 rfl [] (by decide) (by decide) rfl⟩
      · intro s_l1 F83 wd84 t74 hJ hm hr75
        unfold M.impl_areFinishes_l1 at hm
        obtain ⟨f85, f86, f87, hL⟩ := hJ
        refine CW.seq ?_
        refine CW.regionL ?_
        refine OW.cons (OP.val (v := (.bool (decide (s_l1 < (a1.length : Int))))) rfl (x_lss f87 f86) ?_)
        refine OW.nil ?_
        refine CW.seq ?_
        refine CW.condM (t := decide (s_l1 < (a1.length : Int))) rfl hm (fun hb88 hm => ?_) (fun hb88 hm => ?_)
        · refine CW.skip ?_
          refine CW.seq ?_
          refine CW.block ?_
          refine CW.seq ?_
          refine CW.regionL ?_
          refine OW.cons (OP.val (v := (.int .i64 s_l1)) rfl (x_mv f87) ?_)
          obtain ⟨x89, ha90, hm⟩ := bndE hm
          obtain ⟨hz91, ha95⟩ := idxE ha90
          obtain ⟨b92, q93, hix94⟩ := rdL_ix (hL.rdS 0 rfl h2) hz91 ha95
          refine OW.cons (OP.val (v := (.pointer (some ⟨b92, q93, none⟩))) rfl (x_ix Try.underlying44 Try_T50 f85 f87 hix94) ?_)
          refine OW.cons (OP.val (v := (.agg #[(.int .i64 x89.Boat), (.int .i64 x89.Code), (.int .i64 x89.Time)])) rfl (x_loadN (cs := [(.int .i64 x89.Boat), (.int .i64 x89.Code), (.int .i64 x89.Time)]) Try.underlying50 Try_T50 rfl rfl (rdF_cells (hL.rdS 0 rfl h2) hix94 ha95)) ?_)
          refine OW.cons (S_alloc (cs := #[(.int .i64 0), (.int .i64 0), (.int .i64 0)]) hL Try_T50 rfl rfl ?_)
          intro wd96 b97 hL
          refine OW.cons (OP.val (v := (.int .i64 s_l1)) rfl (x_assign) ?_)
          refine OW.cons (S_storeN (l := [(.int .i64 x89.Boat), (.int .i64 x89.Code), (.int .i64 x89.Time)]) (cs' := #[(.int .i64 x89.Boat), (.int .i64 x89.Code), (.int .i64 x89.Time)]) hL 0 rfl Try_T50 rfl rfl (List.forall_mem_cons.2 ⟨rfl, (List.forall_mem_cons.2 ⟨rfl, (List.forall_mem_cons.2 ⟨rfl, (fun _ h => by cases h)⟩)⟩)⟩) rfl (Nat.le_of_ble_eq_true rfl) rfl ?_)
          intro wd98 hL
          refine OW.nil ?_
          refine CW.seqJ (fun (s_j2 : Bool) (F : Fr) (w : World) => F 16 = v1 ∧ F 17 = (.int .i64 (a1.length : Int)) ∧ F 18 = (.int .i64 s_l1) ∧ F 31 = (.bool s_j2) ∧ Hp w0 [Ent.blk b97 50 #[(.int .i64 x89.Boat), (.int .i64 x89.Code), (.int .i64 x89.Time)], Ent.snap w0 w0.heap.size] w) (fun s_j2 => M.impl_areFinishes_j2 s_l1 s_j2 = some t74) ?_ ?_
          · refine CW.regionL ?_
            refine OW.cons (OP.val (v := (.pointer (some ⟨b97, 0, none⟩))) rfl (x_fieldAddr (fsz := 1) 0 0 0 Try.underlying50 rfl Try_T2 rfl rfl rfl) ?_)
            refine OW.cons (OP.val (v := (.int .i64 x89.Boat)) rfl (x_load1 Try.underlying2 rfl rfl (hL.cellB 0 rfl rfl)) ?_)
            refine OW.cons (OP.val (v := (.int .i64 s_l1)) rfl (x_move) ?_)
            refine OW.cons (OP.val (v := (.bool (x89.Boat != s_l1))) rfl (x_neq rfl rfl) ?_)
            refine OW.cons (OP.val (v := (.bool (x89.Boat != s_l1))) rfl (x_move) ?_)
            refine ifB_elim hm (fun hb112 hm => ?_) (fun hb112 hm => ?_)
            · refine OW.cons (OP.no' rfl rfl hb112 rfl ?_)
              refine OW.cons (OP.no' rfl rfl hb112 rfl ?_)
              refine OW.cons (OP.no' rfl rfl hb112 rfl ?_)
              refine OW.cons (OP.val (v := (.bool true)) rfl (x_pickT' rfl hb112 rfl) ?_)
              refine OW.nil ?_
              exact ⟨true, hm, ⟨f85, f86, f87, rfl, hL⟩⟩
            · refine OW.cons (OP.yes' rfl rfl hb112 (OP.val (v := (.agg #[(.int .i64 x89.Boat), (.int .i64 x89.Code), (.int .i64 x89.Time)])) rfl (x_loadN (cs := [(.int .i64 x89.Boat), (.int .i64 x89.Code), (.int .i64 x89.Time)]) Try.underlying50 Try_T50 rfl rfl (hL.cellsB 0 rfl (o := 0) (l := [(.int .i64 x89.Boat), (.int .i64 x89.Code), (.int .i64 x89.Time)]) (by intro j u hj; exact (by simpa using hj)))) ?_))
              obtain ⟨x113, hx114, hm⟩ := bndE hm
              refine OW.cons (OP.yes' rfl rfl hb112 (OP.call rfl (x_call (vs := [(.agg #[(.int .i64 x89.Boat), (.int .i64 x89.Code), (.int .i64 x89.Time)])]) Try_C93 ⟨rfl, trivial⟩) (M.impl_IsFinish_ok _ x89 hx114) ?_))
              rintro e115 wd116 ⟨rfl, hF117⟩
              refine ⟨_, rfl, ?_⟩
              have hL := hL.pushAll hF117
              simp only [List.cons_append, List.nil_append, List.set_cons_zero, List.set_cons_succ] at hL
              refine OW.cons (OP.yes' rfl rfl hb112 (OP.val (v := (.bool (!x113))) rfl (x_not rfl) ?_))
              refine OW.cons (OP.val (v := (.bool (!x113))) rfl (x_pickF' rfl hb112 rfl) ?_)
              refine OW.nil ?_
              exact ⟨!x113, hm, ⟨f85, f86, f87, rfl, hL⟩⟩
          · intro s_j2 F105 wd106 hJ hm
            unfold M.impl_areFinishes_j2 at hm
            obtain ⟨f107, f108, f109, f110, hL⟩ := hJ
            refine CW.condM (t := s_j2) f110 hm (fun hb111 hm => ?_) (fun hb111 hm => ?_)
            · refine CW.seq ?_
              refine CW.regionL ?_
              refine OW.cons (OP.val (v := (.bool false)) rfl (x_assign) ?_)
              refine OW.nil ?_
              refine CW.ret ?_
              obtain rfl := Option.some.inj hm
              have hm := hr75 _ rfl
              obtain rfl := Option.some.inj hm
              exact RR1 rfl rfl ⟨rfl, hL.fresh 1 rfl [] (by decide) (by decide) rfl⟩
            · refine CW.skip ?_
              refine CW.regionL ?_
              refine OW.cons (OP.val (v := (.int .i64 (w64 (s_l1 + 1)))) rfl (x_add f109 rfl) ?_)
              refine OW.cons (OP.val (v := (.int .i64 (w64 (s_l1 + 1)))) rfl (x_move) ?_)
              refine OW.nil ?_
              have hL := hL.sel [1] (by decide) rfl
              obtain rfl := Option.some.inj hm
              exact ⟨_, rfl, ⟨f107, f108, rfl, hL⟩⟩
        · refine CW.exit ?_
          refine XJ.hit ?_
          obtain rfl := Option.some.inj hm
          exact ⟨_, rfl, ⟨f85, f86, f87, hL⟩⟩

theorem M.impl_IsRace_ok (w0 : World) (a0 : Int) (a1 : Race) {v1 : Value} (h2 : rdL (· < w0.heap.size) w0 v1 a1.Finishes) {r : Bool} (hm : M.impl_IsRace a0 a1 = some r) :
    Calls Try.prog 48 #[(.int .i64 a0), (.agg #[v1])] w0 fun e w' => e = .returned (.bool r) ∧ Fresh w0 w' [] := by
  unfold M.impl_IsRace at hm
  refine calls_CW (args := [(.int .i64 a0), (.agg #[v1])]) Try.func48 rfl rfl rfl ?_
  have hL := Hp.start w0
  refine CW.seq ?_
  refine CW.regionL ?_
  refine OW.cons (S_box (cs := #[v1]) hL rfl rfl rfl ?_)
  intro wd3 b4 hL
  refine OW.cons (OP.val (v := (.bool false)) rfl (x_assign) ?_)
  refine OW.nil ?_
  refine CW.seq ?_
  refine CW.regionL ?_
  refine OW.cons (OP.val (v := (.int .i64 a0)) rfl (x_move) ?_)
  refine OW.cons (OP.val (v := (.pointer (some ⟨b4, 0, none⟩))) rfl (x_fieldAddr (fsz := 1) 0 0 0 Try.underlying46 rfl Try_T44 rfl rfl rfl) ?_)
  refine OW.cons (OP.val (v := v1) rfl (x_load1 Try.underlying44 rfl rfl (hL.cellB 0 rfl rfl)) ?_)
  obtain ⟨x5, hx6, hm⟩ := bndE hm
  refine OW.cons (OP.call rfl (x_call (vs := [(.int .i64 a0), v1]) Try_C71 ⟨rfl, rfl, trivial⟩) (M.impl_areFinishes_ok _ a0 a1.Finishes (hL.rdS 1 rfl h2) hx6) ?_)
  rintro e7 wd8 ⟨rfl, hF9⟩
  refine ⟨_, rfl, ?_⟩
  have hL := hL.pushAll hF9
  simp only [List.cons_append, List.nil_append, List.set_cons_zero, List.set_cons_succ] at hL
  refine OW.cons (OP.val (v := (.bool x5)) rfl (x_assign) ?_)
  refine OW.nil ?_
  refine CW.ret ?_
  obtain rfl := Option.some.inj hm
  exact RR1 rfl rfl ⟨rfl, hL.fresh 1 rfl [] (by decide) (by decide) rfl⟩

theorem M.impl_isScheme_ok (w0 : World) (a0 : Int) {r : Bool} (hm : M.impl_isScheme a0 = some r) :
    Calls Try.prog 50 #[(.int .i64 a0)] w0 fun e w' => e = .returned (.bool r) ∧ Fresh w0 w' [] := by
  unfold M.impl_isScheme at hm
  refine calls_CW (args := [(.int .i64 a0)]) Try.func50 rfl rfl rfl ?_
  have hL := Hp.start w0
  refine CW.seq ?_
  refine CW.regionL ?_
  refine OW.cons (OP.val (v := (.bool false)) rfl (x_assign) ?_)
  refine OW.nil ?_
  refine CW.seq ?_
  refine CW.regionL ?_
  refine OW.cons (OP.val (v := (.int .i64 a0)) rfl (x_move) ?_)
  obtain ⟨x1, hx2, hm⟩ := bndE hm
  refine OW.cons (OP.call rfl (x_call (vs := [(.int .i64 a0), (.int .i64 0), (.int .i64 1)]) Try_C49 ⟨rfl, rfl, rfl, trivial⟩) (M.impl_within_ok _ a0 0 1 hx2) ?_)
  rintro e3 wd4 ⟨rfl, hF5⟩
  refine ⟨_, rfl, ?_⟩
  have hL := hL.pushAll hF5
  simp only [List.cons_append, List.nil_append, List.set_cons_zero, List.set_cons_succ] at hL
  refine OW.cons (OP.val (v := (.bool x1)) rfl (x_assign) ?_)
  refine OW.nil ?_
  refine CW.ret ?_
  obtain rfl := Option.some.inj hm
  exact RR1 rfl rfl ⟨rfl, hL.fresh 0 rfl [] (by decide) (by decide) rfl⟩

theorem M.impl_IsSeries_ok (w0 : World) (a0 : Series) {v1 : Value} (h2 : rdL (· < w0.heap.size) w0 v1 a0.Races) {r : Bool} (hm : M.impl_IsSeries a0 = some r) :
    Calls Try.prog 21 #[(.agg #[(.int .i64 a0.Boats), (.int .i64 a0.Scheme), v1])] w0 fun e w' => e = .returned (.bool r) ∧ Fresh w0 w' [] := by
  unfold M.impl_IsSeries at hm
  refine calls_CW (args := [(.agg #[(.int .i64 a0.Boats), (.int .i64 a0.Scheme), v1])]) Try.func21 rfl rfl rfl ?_
  have hL := Hp.start w0
  refine CW.seq ?_
  refine CW.regionL ?_
  refine OW.cons (S_box (cs := #[(.int .i64 a0.Boats), (.int .i64 a0.Scheme), v1]) hL rfl rfl rfl ?_)
  intro wd3 b4 hL
  refine OW.cons (OP.val (v := (.bool false)) rfl (x_assign) ?_)
  refine OW.nil ?_
  refine CW.seq ?_
  refine CW.seq ?_
  refine CW.regionL ?_
  refine OW.cons (OP.val (v := (.pointer (some ⟨b4, 2, none⟩))) rfl (x_fieldAddr (fsz := 1) 0 2 2 Try.underlying31 rfl Try_T29 rfl rfl rfl) ?_)
  refine OW.cons (OP.val (v := v1) rfl (x_load1 Try.underlying29 rfl rfl (hL.cellB 0 rfl rfl)) ?_)
  refine OW.cons (OP.val (v := (.int .i64 (a0.Races.length : Int))) rfl (x_lenR Try.underlying29 rfl (hL.rdS 1 rfl h2)) ?_)
  refine OW.cons (OP.val (v := (.int .i64 0)) rfl (x_move) ?_)
  refine OW.nil ?_
  obtain ⟨o49, ho50, hm⟩ := bndE hm
  refine CW.loopB (fun (s_l1 : Int) (F : Fr) (w : World) => F 1 = (.pointer (some ⟨b4, 0, none⟩)) ∧ F 6 = v1 ∧ F 7 = (.int .i64 (a0.Races.length : Int)) ∧ F 8 = (.int .i64 s_l1) ∧ Hp w0 [Ent.blk b4 31 #[(.int .i64 a0.Boats), (.int .i64 a0.Scheme), v1], Ent.snap w0 w0.heap.size] w) (fun o => outc o (fun x => some x) (fun s => M.impl_IsSeries_a1 a0 s) = some r) ho50 hm ⟨rfl, rfl, rfl, rfl, hL⟩ ?_ ?_
  · intro s_l1 F51 wd52 hJ hm
    have hm := outcE hm
    have hm : M.impl_IsSeries_a1 a0 s_l1 = some r := hm
    unfold M.impl_IsSeries_a1 at hm
    obtain ⟨f53, f54, f55, f56, hL⟩ := hJ
    refine CW.seqJ (fun (s_j1 : Bool) (F : Fr) (w : World) => F 2 = (.bool s_j1) ∧ Hp w0 [Ent.blk b4 31 #[(.int .i64 a0.Boats), (.int .i64 a0.Scheme), v1], Ent.snap w0 w0.heap.size] w) (fun s_j1 => M.impl_IsSeries_j1 s_j1 = some r) ?_ ?_
    · refine CW.regionL ?_
      refine OW.cons (OP.val (v := (.pointer (some ⟨b4, 0, none⟩))) rfl (x_fieldAddr (fsz := 1) 0 0 0 Try.underlying31 rfl Try_T2 rfl f53 rfl) ?_)
      refine OW.cons (OP.val (v := (.int .i64 a0.Boats)) rfl (x_load1 Try.underlying2 rfl rfl (hL.cellB 0 rfl rfl)) ?_)
      obtain ⟨x72, hx73, hm⟩ := bndE hm
      refine OW.cons (OP.call rfl (x_call (vs := [(.int .i64 a0.Boats), (.int .i64 1), (.int .i64 16)]) Try_C49 ⟨rfl, rfl, rfl, trivial⟩) (M.impl_within_ok _ a0.Boats 1 16 hx73) ?_)
      rintro e74 wd75 ⟨rfl, hF76⟩
      refine ⟨_, rfl, ?_⟩
      have hL := hL.pushAll hF76
      simp only [List.cons_append, List.nil_append, List.set_cons_zero, List.set_cons_succ] at hL
      refine OW.cons (OP.val (v := (.bool x72)) rfl (x_move) ?_)
      refine ifB_elim hm (fun hb77 hm => ?_) (fun hb77 hm => ?_)
      · refine OW.cons (OP.yes' rfl rfl hb77 (OP.val (v := (.pointer (some ⟨b4, 1, none⟩))) rfl (x_fieldAddr (fsz := 1) 0 1 1 Try.underlying31 rfl Try_T2 rfl f53 rfl) ?_))
        refine OW.cons (OP.yes' rfl rfl hb77 (OP.val (v := (.int .i64 a0.Scheme)) rfl (x_load1 Try.underlying2 rfl rfl (hL.cellB 0 rfl rfl)) ?_))
        obtain ⟨x78, hx79, hm⟩ := bndE hm
        refine OW.cons (OP.yes' rfl rfl hb77 (OP.call rfl (x_call (vs := [(.int .i64 a0.Scheme)]) Try_C50 ⟨rfl, trivial⟩) (M.impl_isScheme_ok _ a0.Scheme hx79) ?_))
        rintro e80 wd81 ⟨rfl, hF82⟩
        refine ⟨_, rfl, ?_⟩
        have hL := hL.pushAll hF82
        simp only [List.cons_append, List.nil_append, List.set_cons_zero, List.set_cons_succ] at hL
        refine OW.cons (OP.val (v := (.bool x78)) rfl (x_pickT' rfl hb77 rfl) ?_)
        refine OW.cons (OP.val (v := (.bool x78)) rfl (x_move) ?_)
        refine ifB_elim hm (fun hb83 hm => ?_) (fun hb83 hm => ?_)
        · refine OW.cons (OP.yes' rfl rfl hb83 (OP.val (v := (.pointer (some ⟨b4, 2, none⟩))) rfl (x_fieldAddr (fsz := 1) 0 2 2 Try.underlying31 rfl Try_T29 rfl f53 rfl) ?_))
          refine OW.cons (OP.yes' rfl rfl hb83 (OP.val (v := v1) rfl (x_load1 Try.underlying29 rfl rfl (hL.cellB 0 rfl rfl)) ?_))
          refine OW.cons (OP.yes' rfl rfl hb83 (OP.val (v := (.int .i64 (a0.Races.length : Int))) rfl (x_lenR Try.underlying29 rfl (hL.rdS 1 rfl h2)) ?_))
          refine OW.cons (OP.yes' rfl rfl hb83 (OP.val (v := (.bool (decide ((a0.Races.length : Int) ≤ 12)))) rfl (x_leq rfl rfl) ?_))
          refine OW.cons (OP.val (v := (.bool (decide ((a0.Races.length : Int) ≤ 12)))) rfl (x_pickT' rfl hb83 rfl) ?_)
          refine OW.cons (OP.val (v := (.bool (decide ((a0.Races.length : Int) ≤ 12)))) rfl (x_assign) ?_)
          refine OW.nil ?_
          exact ⟨decide ((a0.Races.length : Int) ≤ 12), hm, ⟨rfl, hL⟩⟩
        · refine OW.cons (OP.no' rfl rfl hb83 rfl ?_)
          refine OW.cons (OP.no' rfl rfl hb83 rfl ?_)
          refine OW.cons (OP.no' rfl rfl hb83 rfl ?_)
          refine OW.cons (OP.no' rfl rfl hb83 rfl ?_)
          refine OW.cons (OP.val (v := (.bool false)) rfl (x_pickF' rfl hb83 rfl) ?_)
          refine OW.cons (OP.val (v := (.bool false)) rfl (x_assign) ?_)
          refine OW.nil ?_
          exact ⟨false, hm, ⟨rfl, hL⟩⟩
      · refine OW.cons (OP.no' rfl rfl hb77 rfl ?_)
        refine OW.cons (OP.no' rfl rfl hb77 rfl ?_)
        refine OW.cons (OP.no' rfl rfl hb77 rfl ?_)
        refine OW.cons (OP.val (v := (.bool false)) rfl (x_pickF' rfl hb77 rfl) ?_)
        refine OW.cons (OP.val (v := (.bool false)) rfl (x_move) ?_)
        refine OW.cons (OP.no' rfl rfl rfl rfl ?_)
        refine OW.cons (OP.no' rfl rfl rfl rfl ?_)
        refine OW.cons (OP.no' rfl rfl rfl rfl ?_)
        refine OW.cons (OP.no' rfl rfl rfl rfl ?_)
        refine OW.cons (OP.val (v := (.bool false)) rfl (x_pickF' rfl rfl rfl) ?_)
        refine OW.cons (OP.val (v := (.bool false)) rfl (x_assign) ?_)
        refine OW.nil ?_
        exact ⟨false, hm, ⟨rfl, hL⟩⟩
    · intro s_j1 F69 wd70 hJ hm
      unfold M.impl_IsSeries_j1 at hm
      obtain ⟨f71, hL⟩ := hJ
      refine CW.ret ?_
      obtain rfl := Option.some.inj hm
      exact RR1 rfl f71 ⟨rfl, hL.fresh 1 rfl [] (by decide) (by decide) rfl⟩
  · intro s_l1 F84 wd85 t47 hJ hm hr48
    unfold M.impl_IsSeries_l1 at hm
    obtain ⟨f86, f87, f88, f89, hL⟩ := hJ
    refine CW.seq ?_
    refine CW.regionL ?_
    refine OW.cons (OP.val (v := (.bool (decide (s_l1 < (a0.Races.length : Int))))) rfl (x_lss f89 f88) ?_)
    refine OW.nil ?_
    refine CW.seq ?_
    refine CW.condM (t := decide (s_l1 < (a0.Races.length : Int))) rfl hm (fun hb90 hm => ?_) (fun hb90 hm => ?_)
    · refine CW.skip ?_
      refine CW.seq ?_
      refine CW.block ?_
      refine CW.seq ?_
      refine CW.regionL ?_
      obtain ⟨x91, ha92, hm⟩ := bndE hm
      obtain ⟨hz93, ha101⟩ := idxE ha92
      obtain ⟨b94, q95, v96, hix97, hs98, hc99, hr100⟩ := rdN_at h2 hz93 ha101
      refine OW.cons (OP.val (v := (.pointer (some ⟨b94, q95, none⟩))) rfl (x_ix Try.underlying29 Try_T46 f87 f89 hix97) ?_)
      refine OW.cons (OP.val (v := (.agg #[v96])) rfl (x_loadN (cs := [v96]) Try.underlying46 Try_T46 rfl rfl (by intro j u hj; match j, hj with | 0, hj => (simp at hj; subst hj; exact (hL.cellS 1 rfl hs98 hc99)))) ?_)
      refine OW.cons (S_alloc (cs := #[(.slice none 0 0)]) hL Try_T46 rfl rfl ?_)
      intro wd102 b103 hL
      refine OW.cons (S_storeN (l := [v96]) (cs' := #[v96]) hL 0 rfl Try_T46 rfl rfl (List.forall_mem_cons.2 ⟨rdL_one (hL.rdS 2 rfl hr100), (fun _ h => by cases h)⟩) rfl (Nat.le_of_ble_eq_true rfl) rfl ?_)
      intro wd104 hL
      refine OW.nil ?_
      refine CW.seq ?_
      refine CW.regionL ?_
      refine OW.cons (OP.val (v := (.pointer (some ⟨b4, 0, none⟩))) rfl (x_fieldAddr (fsz := 1) 0 0 0 Try.underlying31 rfl Try_T2 rfl f86 rfl) ?_)
      refine OW.cons (OP.val (v := (.int .i64 a0.Boats)) rfl (x_load1 Try.underlying2 rfl rfl (hL.cellB 1 rfl rfl)) ?_)
      refine OW.cons (OP.val (v := (.agg #[v96])) rfl (x_loadN (cs := [v96]) Try.underlying46 Try_T46 rfl rfl (hL.cellsB 0 rfl (o := 0) (l := [v96]) (by intro j u hj; exact (by simpa using hj)))) ?_)
      obtain ⟨x105, hx106, hm⟩ := bndE hm
      refine OW.cons (OP.call rfl (x_call (vs := [(.int .i64 a0.Boats), (.agg #[v96])]) Try_C48 ⟨rfl, rfl, trivial⟩) (M.impl_IsRace_ok _ a0.Boats x91 (hL.rdS 2 rfl hr100) hx106) ?_)
      rintro e107 wd108 ⟨rfl, hF109⟩
      refine ⟨_, rfl, ?_⟩
      have hL := hL.pushAll hF109
      simp only [List.cons_append, List.nil_append, List.set_cons_zero, List.set_cons_succ] at hL
      refine OW.cons (OP.val (v := (.bool (!x105))) rfl (x_not rfl) ?_)
      refine OW.nil ?_
      refine CW.condM (t := !x105) rfl hm (fun hb110 hm => ?_) (fun hb110 hm => ?_)
      · refine CW.seq ?_
        refine CW.regionL ?_
        refine OW.cons (OP.val (v := (.bool false)) rfl (x_assign) ?_)
        refine OW.nil ?_
        refine CW.ret ?_
        obtain rfl := Option.some.inj hm
        have hm := hr48 _ rfl
        obtain rfl := Option.some.inj hm
        exact RR1 rfl rfl ⟨rfl, hL.fresh 2 rfl [] (by decide) (by decide) rfl⟩
      · refine CW.skip ?_
        refine CW.regionL ?_
        refine OW.cons (OP.val (v := (.int .i64 (w64 (s_l1 + 1)))) rfl (x_add f89 rfl) ?_)
        refine OW.cons (OP.val (v := (.int .i64 (w64 (s_l1 + 1)))) rfl (x_move) ?_)
        refine OW.nil ?_
        have hL := hL.sel [1, 2] (by decide) rfl
        obtain rfl := Option.some.inj hm
        exact ⟨_, rfl, ⟨f86, f87, f88, rfl, hL⟩⟩
    · refine CW.exit ?_
      refine XJ.hit ?_
      obtain rfl := Option.some.inj hm
      exact ⟨_, rfl, ⟨f86, f87, f88, f89, hL⟩⟩

theorem M.impl_isPenaltyCode_ok (w0 : World) (a0 : Int) {r : Bool} (hm : M.impl_isPenaltyCode a0 = some r) :
    Calls Try.prog 88 #[(.int .i64 a0)] w0 fun e w' => e = .returned (.bool r) ∧ Fresh w0 w' [] := by
  unfold M.impl_isPenaltyCode at hm
  refine calls_CW (args := [(.int .i64 a0)]) Try.func88 rfl rfl rfl ?_
  have hL := Hp.start w0
  refine CW.seq ?_
  refine CW.regionL ?_
  refine OW.cons (OP.val (v := (.bool false)) rfl (x_assign) ?_)
  refine OW.nil ?_
  refine CW.seqJ (fun (s_j1 : Bool) (F : Fr) (w : World) => F 2 = (.bool s_j1) ∧ Hp w0 [Ent.snap w0 w0.heap.size] w) (fun s_j1 => M.impl_isPenaltyCode_j1 s_j1 = some r) ?_ ?_
  · refine CW.regionL ?_
    refine OW.cons (OP.val (v := (.int .i64 a0)) rfl (x_move) ?_)
    refine OW.cons (OP.val (v := (.bool (a0 == 6))) rfl (x_eql rfl rfl) ?_)
    refine OW.cons (OP.val (v := (.bool (a0 == 6))) rfl (x_move) ?_)
    refine ifB_elim hm (fun hb6 hm => ?_) (fun hb6 hm => ?_)
    · refine OW.cons (OP.no' rfl rfl hb6 rfl ?_)
      refine OW.cons (OP.no' rfl rfl hb6 rfl ?_)
      refine OW.cons (OP.val (v := (.bool true)) rfl (x_pickT' rfl hb6 rfl) ?_)
      refine OW.cons (OP.val (v := (.bool true)) rfl (x_move) ?_)
      refine OW.cons (OP.no' rfl rfl rfl rfl ?_)
      refine OW.cons (OP.no' rfl rfl rfl rfl ?_)
      refine OW.cons (OP.val (v := (.bool true)) rfl (x_pickT' rfl rfl rfl) ?_)
      refine OW.cons (OP.val (v := (.bool true)) rfl (x_assign) ?_)
      refine OW.nil ?_
      exact ⟨true, hm, ⟨rfl, hL⟩⟩
    · refine OW.cons (OP.yes' rfl rfl hb6 (OP.val (v := (.int .i64 a0)) rfl (x_move) ?_))
      refine OW.cons (OP.yes' rfl rfl hb6 (OP.val (v := (.bool (a0 == 7))) rfl (x_eql rfl rfl) ?_))
      refine OW.cons (OP.val (v := (.bool (a0 == 7))) rfl (x_pickF' rfl hb6 rfl) ?_)
      refine OW.cons (OP.val (v := (.bool (a0 == 7))) rfl (x_move) ?_)
      refine ifB_elim hm (fun hb7 hm => ?_) (fun hb7 hm => ?_)
      · refine OW.cons (OP.no' rfl rfl hb7 rfl ?_)
        refine OW.cons (OP.no' rfl rfl hb7 rfl ?_)
        refine OW.cons (OP.val (v := (.bool true)) rfl (x_pickT' rfl hb7 rfl) ?_)
        refine OW.cons (OP.val (v := (.bool true)) rfl (x_assign) ?_)
        refine OW.nil ?_
        exact ⟨true, hm, ⟨rfl, hL⟩⟩
      · refine OW.cons (OP.yes' rfl rfl hb7 (OP.val (v := (.int .i64 a0)) rfl (x_move) ?_))
        refine OW.cons (OP.yes' rfl rfl hb7 (OP.val (v := (.bool (a0 == 5))) rfl (x_eql rfl rfl) ?_))
        refine OW.cons (OP.val (v := (.bool (a0 == 5))) rfl (x_pickF' rfl hb7 rfl) ?_)
        refine OW.cons (OP.val (v := (.bool (a0 == 5))) rfl (x_assign) ?_)
        refine OW.nil ?_
        exact ⟨a0 == 5, hm, ⟨rfl, hL⟩⟩
  · intro s_j1 F3 wd4 hJ hm
    unfold M.impl_isPenaltyCode_j1 at hm
    obtain ⟨f5, hL⟩ := hJ
    refine CW.ret ?_
    obtain rfl := Option.some.inj hm
    exact RR1 rfl f5 ⟨rfl, hL.fresh 0 rfl [] (by decide) (by decide) rfl⟩

theorem M.impl_isElapsed_ok (w0 : World) (a0 : Int) {r : Bool} (hm : M.impl_isElapsed a0 = some r) :
    Calls Try.prog 89 #[(.int .i64 a0)] w0 fun e w' => e = .returned (.bool r) ∧ Fresh w0 w' [] := by
  unfold M.impl_isElapsed at hm
  refine calls_CW (args := [(.int .i64 a0)]) Try.func89 rfl rfl rfl ?_
  have hL := Hp.start w0
  refine CW.seq ?_
  refine CW.regionL ?_
  refine OW.cons (OP.val (v := (.bool false)) rfl (x_assign) ?_)
  refine OW.nil ?_
  refine CW.seq ?_
  refine CW.regionL ?_
  refine OW.cons (OP.val (v := (.int .i64 a0)) rfl (x_move) ?_)
  obtain ⟨x1, hx2, hm⟩ := bndE hm
  refine OW.cons (OP.call rfl (x_call (vs := [(.int .i64 a0), (.int .i64 1), (.int .i64 1000000000)]) Try_C49 ⟨rfl, rfl, rfl, trivial⟩) (M.impl_within_ok _ a0 1 1000000000 hx2) ?_)
  rintro e3 wd4 ⟨rfl, hF5⟩
  refine ⟨_, rfl, ?_⟩
  have hL := hL.pushAll hF5
  simp only [List.cons_append, List.nil_append, List.set_cons_zero, List.set_cons_succ] at hL
  refine OW.cons (OP.val (v := (.bool x1)) rfl (x_assign) ?_)
  refine OW.nil ?_
  refine CW.ret ?_
  obtain rfl := Option.some.inj hm
  exact RR1 rfl rfl ⟨rfl, hL.fresh 0 rfl [] (by decide) (by decide) rfl⟩

theorem M.impl_isPenalty_ok (w0 : World) (a0 : Penalty) {r : Bool} (hm : M.impl_isPenalty a0 = some r) :
    Calls Try.prog 65 #[(.agg #[(.int .i64 a0.Race), (.int .i64 a0.Boat), (.int .i64 a0.Kind), (.int .i64 a0.Value)])] w0 fun e w' => e = .returned (.bool r) ∧ Fresh w0 w' [] := by
  unfold M.impl_isPenalty at hm
  refine calls_CW (args := [(.agg #[(.int .i64 a0.Race), (.int .i64 a0.Boat), (.int .i64 a0.Kind), (.int .i64 a0.Value)])]) Try.func65 rfl rfl rfl ?_
  have hL := Hp.start w0
  refine CW.seq ?_
  refine CW.regionL ?_
  refine OW.cons (S_box (cs := #[(.int .i64 a0.Race), (.int .i64 a0.Boat), (.int .i64 a0.Kind), (.int .i64 a0.Value)]) hL rfl rfl rfl ?_)
  intro wd1 b2 hL
  refine OW.cons (OP.val (v := (.bool false)) rfl (x_assign) ?_)
  refine OW.nil ?_
  refine CW.seq ?_
  refine CW.seq ?_
  refine CW.regionL ?_
  refine OW.cons (OP.val (v := (.pointer (some ⟨b2, 2, none⟩))) rfl (x_fieldAddr (fsz := 1) 0 2 2 Try.underlying48 rfl Try_T2 rfl rfl rfl) ?_)
  refine OW.cons (OP.val (v := (.int .i64 a0.Kind)) rfl (x_load1 Try.underlying2 rfl rfl (hL.cellB 0 rfl rfl)) ?_)
  refine OW.nil ?_
  refine CW.block ?_
  refine CW.seq ?_
  refine CW.regionL ?_
  refine OW.cons (OP.val (v := (.bool (a0.Kind == 1))) rfl (x_eql rfl rfl) ?_)
  refine OW.cons (OP.val (v := (.bool (a0.Kind == 1))) rfl (x_assign) ?_)
  refine OW.nil ?_
  refine CW.condM (t := a0.Kind == 1) rfl hm (fun hb3 hm => ?_) (fun hb3 hm => ?_)
  · refine CW.seq ?_
    refine CW.regionL ?_
    refine OW.cons (OP.val (v := (.pointer (some ⟨b2, 3, none⟩))) rfl (x_fieldAddr (fsz := 1) 0 3 3 Try.underlying48 rfl Try_T2 rfl rfl rfl) ?_)
    refine OW.cons (OP.val (v := (.int .i64 a0.Value)) rfl (x_load1 Try.underlying2 rfl rfl (hL.cellB 0 rfl rfl)) ?_)
    obtain ⟨x4, hx5, hm⟩ := bndE hm
    refine OW.cons (OP.call rfl (x_call (vs := [(.int .i64 a0.Value)]) Try_C88 ⟨rfl, trivial⟩) (M.impl_isPenaltyCode_ok _ a0.Value hx5) ?_)
    rintro e6 wd7 ⟨rfl, hF8⟩
    refine ⟨_, rfl, ?_⟩
    have hL := hL.pushAll hF8
    simp only [List.cons_append, List.nil_append, List.set_cons_zero, List.set_cons_succ] at hL
    refine OW.cons (OP.val (v := (.bool x4)) rfl (x_assign) ?_)
    refine OW.nil ?_
    refine CW.ret ?_
    obtain rfl := Option.some.inj hm
    exact RR1 rfl rfl ⟨rfl, hL.fresh 1 rfl [] (by decide) (by decide) rfl⟩
  · refine CW.seq ?_
    refine CW.regionL ?_
    refine OW.cons (OP.val (v := (.bool (a0.Kind == 2))) rfl (x_eql rfl rfl) ?_)
    refine OW.cons (OP.val (v := (.bool (a0.Kind == 2))) rfl (x_assign) ?_)
    refine OW.nil ?_
    refine CW.condM (t := a0.Kind == 2) rfl hm (fun hb9 hm => ?_) (fun hb9 hm => ?_)
    · refine CW.seq ?_
      refine CW.regionL ?_
      refine OW.cons (OP.val (v := (.pointer (some ⟨b2, 3, none⟩))) rfl (x_fieldAddr (fsz := 1) 0 3 3 Try.underlying48 rfl Try_T2 rfl rfl rfl) ?_)
      refine OW.cons (OP.val (v := (.int .i64 a0.Value)) rfl (x_load1 Try.underlying2 rfl rfl (hL.cellB 0 rfl rfl)) ?_)
      obtain ⟨x10, hx11, hm⟩ := bndE hm
      refine OW.cons (OP.call rfl (x_call (vs := [(.int .i64 a0.Value)]) Try_C89 ⟨rfl, trivial⟩) (M.impl_isElapsed_ok _ a0.Value hx11) ?_)
      rintro e12 wd13 ⟨rfl, hF14⟩
      refine ⟨_, rfl, ?_⟩
      have hL := hL.pushAll hF14
      simp only [List.cons_append, List.nil_append, List.set_cons_zero, List.set_cons_succ] at hL
      refine OW.cons (OP.val (v := (.bool x10)) rfl (x_assign) ?_)
      refine OW.nil ?_
      refine CW.ret ?_
      obtain rfl := Option.some.inj hm
      exact RR1 rfl rfl ⟨rfl, hL.fresh 1 rfl [] (by decide) (by decide) rfl⟩
    · refine CW.skip ?_
      refine CW.seqJ (fun (s_j1 : Bool) (F : Fr) (w : World) => F 2 = (.bool s_j1) ∧ Hp w0 [Ent.blk b2 48 #[(.int .i64 a0.Race), (.int .i64 a0.Boat), (.int .i64 a0.Kind), (.int .i64 a0.Value)], Ent.snap w0 w0.heap.size] w) (fun s_j1 => M.impl_isPenalty_j1 s_j1 = some r) ?_ ?_
      · refine CW.regionL ?_
        refine OW.cons (OP.val (v := (.pointer (some ⟨b2, 2, none⟩))) rfl (x_fieldAddr (fsz := 1) 0 2 2 Try.underlying48 rfl Try_T2 rfl rfl rfl) ?_)
        refine OW.cons (OP.val (v := (.int .i64 a0.Kind)) rfl (x_load1 Try.underlying2 rfl rfl (hL.cellB 0 rfl rfl)) ?_)
        refine OW.cons (OP.val (v := (.bool (a0.Kind == 3))) rfl (x_eql rfl rfl) ?_)
        refine OW.cons (OP.val (v := (.bool (a0.Kind == 3))) rfl (x_move) ?_)
        refine ifB_elim hm (fun hb24 hm => ?_) (fun hb24 hm => ?_)
        · refine OW.cons (OP.yes' rfl rfl hb24 (OP.val (v := (.pointer (some ⟨b2, 3, none⟩))) rfl (x_fieldAddr (fsz := 1) 0 3 3 Try.underlying48 rfl Try_T2 rfl rfl rfl) ?_))
          refine OW.cons (OP.yes' rfl rfl hb24 (OP.val (v := (.int .i64 a0.Value)) rfl (x_load1 Try.underlying2 rfl rfl (hL.cellB 0 rfl rfl)) ?_))
          obtain ⟨x25, hx26, hm⟩ := bndE hm
          refine OW.cons (OP.yes' rfl rfl hb24 (OP.call rfl (x_call (vs := [(.int .i64 a0.Value), (.int .i64 1), (.int .i64 100)]) Try_C49 ⟨rfl, rfl, rfl, trivial⟩) (M.impl_within_ok _ a0.Value 1 100 hx26) ?_))
          rintro e27 wd28 ⟨rfl, hF29⟩
          refine ⟨_, rfl, ?_⟩
          have hL := hL.pushAll hF29
          simp only [List.cons_append, List.nil_append, List.set_cons_zero, List.set_cons_succ] at hL
          refine OW.cons (OP.val (v := (.bool x25)) rfl (x_pickT' rfl hb24 rfl) ?_)
          refine OW.cons (OP.val (v := (.bool x25)) rfl (x_assign) ?_)
          refine OW.nil ?_
          exact ⟨x25, hm, ⟨rfl, hL⟩⟩
        · refine OW.cons (OP.no' rfl rfl hb24 rfl ?_)
          refine OW.cons (OP.no' rfl rfl hb24 rfl ?_)
          refine OW.cons (OP.no' rfl rfl hb24 rfl ?_)
          refine OW.cons (OP.val (v := (.bool false)) rfl (x_pickF' rfl hb24 rfl) ?_)
          refine OW.cons (OP.val (v := (.bool false)) rfl (x_assign) ?_)
          refine OW.nil ?_
          exact ⟨false, hm, ⟨rfl, hL⟩⟩
      · intro s_j1 F21 wd22 hJ hm
        unfold M.impl_isPenalty_j1 at hm
        obtain ⟨f23, hL⟩ := hJ
        refine CW.ret ?_
        obtain rfl := Option.some.inj hm
        exact RR1 rfl f23 ⟨rfl, hL.fresh 1 rfl [] (by decide) (by decide) rfl⟩

theorem M.impl_arePenalties_ok (w0 : World) (a0 : Series) {v1 : Value} (h2 : rdL (· < w0.heap.size) w0 v1 a0.Races) (a1 : List Penalty) {v3 : Value} (h4 : rdL (· < w0.heap.size) w0 v3 a1) {r : Bool} (hm : M.impl_arePenalties a0 a1 = some r) :
    Calls Try.prog 38 #[(.agg #[(.int .i64 a0.Boats), (.int .i64 a0.Scheme), v1]), v3] w0 fun e w' => e = .returned (.bool r) ∧ Fresh w0 w' [] := by
  unfold M.impl_arePenalties at hm
  refine calls_CW (args := [(.agg #[(.int .i64 a0.Boats), (.int .i64 a0.Scheme), v1]), v3]) Try.func38 rfl rfl rfl ?_
  have hL := Hp.start w0
  refine CW.seq ?_
  refine CW.regionL ?_
  refine OW.cons (S_box (cs := #[(.int .i64 a0.Boats), (.int .i64 a0.Scheme), v1]) hL rfl rfl rfl ?_)
  intro wd5 b6 hL
  refine OW.cons (OP.val (v := (.bool false)) rfl (x_assign) ?_)
  refine OW.nil ?_
  refine CW.seq ?_
  refine CW.seq ?_
  refine CW.regionL ?_
  refine OW.cons (OP.val (v := v3) rfl (x_move) ?_)
  refine OW.cons (OP.val (v := (.int .i64 (a1.length : Int))) rfl (x_lenR Try.underlying33 rfl (hL.rdS 1 rfl h4)) ?_)
  refine OW.cons (OP.val (v := (.int .i64 0)) rfl (x_move) ?_)
  refine OW.nil ?_
  obtain ⟨o117, ho118, hm⟩ := bndE hm
  refine CW.loopB (fun (s_l1 : Int) (F : Fr) (w : World) => F 1 = v3 ∧ F 2 = (.pointer (some ⟨b6, 0, none⟩)) ∧ F 7 = v3 ∧ F 8 = (.int .i64 (a1.length : Int)) ∧ F 9 = (.int .i64 s_l1) ∧ Hp w0 [Ent.blk b6 31 #[(.int .i64 a0.Boats), (.int .i64 a0.Scheme), v1], Ent.snap w0 w0.heap.size] w) (fun o => outc o (fun x => some x) (fun s => M.impl_arePenalties_a1 a1 s) = some r) ho118 hm ⟨rfl, rfl, rfl, rfl, rfl, hL⟩ ?_ ?_
  · intro s_l1 F119 wd120 hJ hm
    have hm := outcE hm
    have hm : M.impl_arePenalties_a1 a1 s_l1 = some r := hm
    unfold M.impl_arePenalties_a1 at hm
    obtain ⟨f121, f122, f123, f124, f125, hL⟩ := hJ
    refine CW.seq ?_
    refine CW.regionL ?_
    refine OW.cons (OP.val (v := v3) rfl (x_mv f121) ?_)
    refine OW.cons (OP.val (v := (.int .i64 (a1.length : Int))) rfl (x_lenR Try.underlying33 rfl (hL.rdS 1 rfl h4)) ?_)
    refine OW.cons (OP.val (v := (.bool (decide ((a1.length : Int) ≤ 60)))) rfl (x_leq rfl rfl) ?_)
    refine OW.cons (OP.val (v := (.bool (decide ((a1.length : Int) ≤ 60)))) rfl (x_assign) ?_)
    refine OW.nil ?_
    refine CW.ret ?_
    obtain rfl := Option.some.inj hm
    exact RR1 rfl rfl ⟨rfl, hL.fresh 1 rfl [] (by decide) (by decide) rfl⟩
  · intro s_l1 F126 wd127 t115 hJ hm hr116
    unfold M.impl_arePenalties_l1 at hm
    obtain ⟨f128, f129, f130, f131, f132, hL⟩ := hJ
    refine CW.seq ?_
    refine CW.regionL ?_
    refine OW.cons (OP.val (v := (.bool (decide (s_l1 < (a1.length : Int))))) rfl (x_lss f132 f131) ?_)
    refine OW.nil ?_
    refine CW.seq ?_
    refine CW.condM (t := decide (s_l1 < (a1.length : Int))) rfl hm (fun hb133 hm => ?_) (fun hb133 hm => ?_)
    · refine CW.skip ?_
      refine CW.seq ?_
      refine CW.block ?_
      refine CW.seq ?_
      refine CW.regionL ?_
      obtain ⟨x134, ha135, hm⟩ := bndE hm
      obtain ⟨hz136, ha140⟩ := idxE ha135
      obtain ⟨b137, q138, hix139⟩ := rdL_ix (hL.rdS 1 rfl h4) hz136 ha140
      refine OW.cons (OP.val (v := (.pointer (some ⟨b137, q138, none⟩))) rfl (x_ix Try.underlying33 Try_T48 f130 f132 hix139) ?_)
      refine OW.cons (OP.val (v := (.agg #[(.int .i64 x134.Race), (.int .i64 x134.Boat), (.int .i64 x134.Kind), (.int .i64 x134.Value)])) rfl (x_loadN (cs := [(.int .i64 x134.Race), (.int .i64 x134.Boat), (.int .i64 x134.Kind), (.int .i64 x134.Value)]) Try.underlying48 Try_T48 rfl rfl (rdF_cells (hL.rdS 1 rfl h4) hix139 ha140)) ?_)
      refine OW.cons (S_alloc (cs := #[(.int .i64 0), (.int .i64 0), (.int .i64 0), (.int .i64 0)]) hL Try_T48 rfl rfl ?_)
      intro wd141 b142 hL
      refine OW.cons (S_storeN (l := [(.int .i64 x134.Race), (.int .i64 x134.Boat), (.int .i64 x134.Kind), (.int .i64 x134.Value)]) (cs' := #[(.int .i64 x134.Race), (.int .i64 x134.Boat), (.int .i64 x134.Kind), (.int .i64 x134.Value)]) hL 0 rfl Try_T48 rfl rfl (List.forall_mem_cons.2 ⟨rfl, (List.forall_mem_cons.2 ⟨rfl, (List.forall_mem_cons.2 ⟨rfl, (List.forall_mem_cons.2 ⟨rfl, (fun _ h => by cases h)⟩)⟩)⟩)⟩) rfl (Nat.le_of_ble_eq_true rfl) rfl ?_)
      intro wd143 hL
      refine OW.nil ?_
      refine CW.seqJ (fun (s_j1 : Bool) (F : Fr) (w : World) => F 1 = v3 ∧ F 2 = (.pointer (some ⟨b6, 0, none⟩)) ∧ F 7 = v3 ∧ F 8 = (.int .i64 (a1.length : Int)) ∧ F 9 = (.int .i64 s_l1) ∧ F 34 = (.bool s_j1) ∧ Hp w0 [Ent.blk b142 48 #[(.int .i64 x134.Race), (.int .i64 x134.Boat), (.int .i64 x134.Kind), (.int .i64 x134.Value)], Ent.blk b6 31 #[(.int .i64 a0.Boats), (.int .i64 a0.Scheme), v1], Ent.snap w0 w0.heap.size] w) (fun s_j1 => M.impl_arePenalties_j1 s_l1 s_j1 = some t115) ?_ ?_
      · refine CW.regionL ?_
        refine OW.cons (OP.val (v := (.pointer (some ⟨b142, 0, none⟩))) rfl (x_fieldAddr (fsz := 1) 0 0 0 Try.underlying48 rfl Try_T2 rfl rfl rfl) ?_)
        refine OW.cons (OP.val (v := (.int .i64 x134.Race)) rfl (x_load1 Try.underlying2 rfl rfl (hL.cellB 0 rfl rfl)) ?_)
        refine OW.cons (OP.val (v := (.pointer (some ⟨b6, 2, none⟩))) rfl (x_fieldAddr (fsz := 1) 0 2 2 Try.underlying31 rfl Try_T29 rfl f129 rfl) ?_)
        refine OW.cons (OP.val (v := v1) rfl (x_load1 Try.underlying29 rfl rfl (hL.cellB 1 rfl rfl)) ?_)
        refine OW.cons (OP.val (v := (.int .i64 (a0.Races.length : Int))) rfl (x_lenR Try.underlying29 rfl (hL.rdS 2 rfl h2)) ?_)
        refine OW.cons (OP.val (v := (.int .i64 (w64 ((a0.Races.length : Int) - 1)))) rfl (x_sub rfl rfl) ?_)
        obtain ⟨x170, hx171, hm⟩ := bndE hm
        refine OW.cons (OP.call rfl (x_call (vs := [(.int .i64 x134.Race), (.int .i64 0), (.int .i64 (w64 ((a0.Races.length : Int) - 1)))]) Try_C49 ⟨rfl, rfl, rfl, trivial⟩) (M.impl_within_ok _ x134.Race 0 (w64 ((a0.Races.length : Int) - 1)) hx171) ?_)
        rintro e172 wd173 ⟨rfl, hF174⟩
        refine ⟨_, rfl, ?_⟩
        have hL := hL.pushAll hF174
        simp only [List.cons_append, List.nil_append, List.set_cons_zero, List.set_cons_succ] at hL
        refine OW.cons (OP.val (v := (.bool (!x170))) rfl (x_not rfl) ?_)
        refine OW.cons (OP.val (v := (.bool (!x170))) rfl (x_move) ?_)
        refine ifB_elim hm (fun hb175 hm => ?_) (fun hb175 hm => ?_)
        · refine OW.cons (OP.no' rfl rfl hb175 rfl ?_)
          refine OW.cons (OP.no' rfl rfl hb175 rfl ?_)
          refine OW.cons (OP.no' rfl rfl hb175 rfl ?_)
          refine OW.cons (OP.no' rfl rfl hb175 rfl ?_)
          refine OW.cons (OP.no' rfl rfl hb175 rfl ?_)
          refine OW.cons (OP.no' rfl rfl hb175 rfl ?_)
          refine OW.cons (OP.no' rfl rfl hb175 rfl ?_)
          refine OW.cons (OP.val (v := (.bool true)) rfl (x_pickT' rfl hb175 rfl) ?_)
          refine OW.cons (OP.val (v := (.bool true)) rfl (x_move) ?_)
          refine OW.cons (OP.no' rfl rfl rfl rfl ?_)
          refine OW.cons (OP.no' rfl rfl rfl rfl ?_)
          refine OW.cons (OP.no' rfl rfl rfl rfl ?_)
          refine OW.cons (OP.val (v := (.bool true)) rfl (x_pickT' rfl rfl rfl) ?_)
          refine OW.nil ?_
          exact ⟨true, hm, ⟨f128, f129, f130, f131, f132, rfl, hL⟩⟩
        · refine OW.cons (OP.yes' rfl rfl hb175 (OP.val (v := (.pointer (some ⟨b142, 1, none⟩))) rfl (x_fieldAddr (fsz := 1) 0 1 1 Try.underlying48 rfl Try_T2 rfl rfl rfl) ?_))
          refine OW.cons (OP.yes' rfl rfl hb175 (OP.val (v := (.int .i64 x134.Boat)) rfl (x_load1 Try.underlying2 rfl rfl (hL.cellB 0 rfl rfl)) ?_))
          refine OW.cons (OP.yes' rfl rfl hb175 (OP.val (v := (.pointer (some ⟨b6, 0, none⟩))) rfl (x_fieldAddr (fsz := 1) 0 0 0 Try.underlying31 rfl Try_T2 rfl f129 rfl) ?_))
          refine OW.cons (OP.yes' rfl rfl hb175 (OP.val (v := (.int .i64 a0.Boats)) rfl (x_load1 Try.underlying2 rfl rfl (hL.cellB 1 rfl rfl)) ?_))
          refine OW.cons (OP.yes' rfl rfl hb175 (OP.val (v := (.int .i64 (w64 (a0.Boats - 1)))) rfl (x_sub rfl rfl) ?_))
          obtain ⟨x176, hx177, hm⟩ := bndE hm
          refine OW.cons (OP.yes' rfl rfl hb175 (OP.call rfl (x_call (vs := [(.int .i64 x134.Boat), (.int .i64 0), (.int .i64 (w64 (a0.Boats - 1)))]) Try_C49 ⟨rfl, rfl, rfl, trivial⟩) (M.impl_within_ok _ x134.Boat 0 (w64 (a0.Boats - 1)) hx177) ?_))
          rintro e178 wd179 ⟨rfl, hF180⟩
          refine ⟨_, rfl, ?_⟩
          have hL := hL.pushAll hF180
          simp only [List.cons_append, List.nil_append, List.set_cons_zero, List.set_cons_succ] at hL
          refine OW.cons (OP.yes' rfl rfl hb175 (OP.val (v := (.bool (!x176))) rfl (x_not rfl) ?_))
          refine OW.cons (OP.val (v := (.bool (!x176))) rfl (x_pickF' rfl hb175 rfl) ?_)
          refine OW.cons (OP.val (v := (.bool (!x176))) rfl (x_move) ?_)
          refine ifB_elim hm (fun hb181 hm => ?_) (fun hb181 hm => ?_)
          · refine OW.cons (OP.no' rfl rfl hb181 rfl ?_)
            refine OW.cons (OP.no' rfl rfl hb181 rfl ?_)
            refine OW.cons (OP.no' rfl rfl hb181 rfl ?_)
            refine OW.cons (OP.val (v := (.bool true)) rfl (x_pickT' rfl hb181 rfl) ?_)
            refine OW.nil ?_
            exact ⟨true, hm, ⟨f128, f129, f130, f131, f132, rfl, hL⟩⟩
          · refine OW.cons (OP.yes' rfl rfl hb181 (OP.val (v := (.agg #[(.int .i64 x134.Race), (.int .i64 x134.Boat), (.int .i64 x134.Kind), (.int .i64 x134.Value)])) rfl (x_loadN (cs := [(.int .i64 x134.Race), (.int .i64 x134.Boat), (.int .i64 x134.Kind), (.int .i64 x134.Value)]) Try.underlying48 Try_T48 rfl rfl (hL.cellsB 0 rfl (o := 0) (l := [(.int .i64 x134.Race), (.int .i64 x134.Boat), (.int .i64 x134.Kind), (.int .i64 x134.Value)]) (by intro j u hj; exact (by simpa using hj)))) ?_))
            obtain ⟨x182, hx183, hm⟩ := bndE hm
            refine OW.cons (OP.yes' rfl rfl hb181 (OP.call rfl (x_call (vs := [(.agg #[(.int .i64 x134.Race), (.int .i64 x134.Boat), (.int .i64 x134.Kind), (.int .i64 x134.Value)])]) Try_C65 ⟨rfl, trivial⟩) (M.impl_isPenalty_ok _ x134 hx183) ?_))
            rintro e184 wd185 ⟨rfl, hF186⟩
            refine ⟨_, rfl, ?_⟩
            have hL := hL.pushAll hF186
            simp only [List.cons_append, List.nil_append, List.set_cons_zero, List.set_cons_succ] at hL
            refine OW.cons (OP.yes' rfl rfl hb181 (OP.val (v := (.bool (!x182))) rfl (x_not rfl) ?_))
            refine OW.cons (OP.val (v := (.bool (!x182))) rfl (x_pickF' rfl hb181 rfl) ?_)
            refine OW.nil ?_
            exact ⟨!x182, hm, ⟨f128, f129, f130, f131, f132, rfl, hL⟩⟩
      · intro s_j1 F161 wd162 hJ hm
        unfold M.impl_arePenalties_j1 at hm
        obtain ⟨f163, f164, f165, f166, f167, f168, hL⟩ := hJ
        refine CW.condM (t := s_j1) f168 hm (fun hb169 hm => ?_) (fun hb169 hm => ?_)
        · refine CW.seq ?_
          refine CW.regionL ?_
          refine OW.cons (OP.val (v := (.bool false)) rfl (x_assign) ?_)
          refine OW.nil ?_
          refine CW.ret ?_
          obtain rfl := Option.some.inj hm
          have hm := hr116 _ rfl
          obtain rfl := Option.some.inj hm
          exact RR1 rfl rfl ⟨rfl, hL.fresh 2 rfl [] (by decide) (by decide) rfl⟩
        · refine CW.skip ?_
          refine CW.regionL ?_
          refine OW.cons (OP.val (v := (.int .i64 (w64 (s_l1 + 1)))) rfl (x_add f167 rfl) ?_)
          refine OW.cons (OP.val (v := (.int .i64 (w64 (s_l1 + 1)))) rfl (x_move) ?_)
          refine OW.nil ?_
          have hL := hL.sel [1, 2] (by decide) rfl
          obtain rfl := Option.some.inj hm
          exact ⟨_, rfl, ⟨f163, f164, f165, f166, rfl, hL⟩⟩
    · refine CW.exit ?_
      refine XJ.hit ?_
      obtain rfl := Option.some.inj hm
      exact ⟨_, rfl, ⟨f128, f129, f130, f131, f132, hL⟩⟩

theorem M.laws_eqFinish_ok (w0 : World) (a0 : Finish) (a1 : Finish) {r : Bool} (hm : M.laws_eqFinish a0 a1 = some r) :
    Calls Try.prog 97 #[(.agg #[(.int .i64 a0.Boat), (.int .i64 a0.Code), (.int .i64 a0.Time)]), (.agg #[(.int .i64 a1.Boat), (.int .i64 a1.Code), (.int .i64 a1.Time)])] w0 fun e w' => e = .returned (.bool r) ∧ Fresh w0 w' [] := by
  unfold M.laws_eqFinish at hm
  refine calls_CW (args := [(.agg #[(.int .i64 a0.Boat), (.int .i64 a0.Code), (.int .i64 a0.Time)]), (.agg #[(.int .i64 a1.Boat), (.int .i64 a1.Code), (.int .i64 a1.Time)])]) Try.func97 rfl rfl rfl ?_
  have hL := Hp.start w0
  refine CW.seq ?_
  refine CW.regionL ?_
  refine OW.cons (S_box (cs := #[(.int .i64 a0.Boat), (.int .i64 a0.Code), (.int .i64 a0.Time)]) hL rfl rfl rfl ?_)
  intro wd1 b2 hL
  refine OW.cons (S_box (cs := #[(.int .i64 a1.Boat), (.int .i64 a1.Code), (.int .i64 a1.Time)]) hL rfl rfl rfl ?_)
  intro wd3 b4 hL
  refine OW.cons (OP.val (v := (.bool false)) rfl (x_assign) ?_)
  refine OW.nil ?_
  refine CW.seq ?_
  refine CW.seq ?_
  refine CW.regionL ?_
  refine OW.cons (OP.val (v := (.pointer (some ⟨b2, 0, none⟩))) rfl (x_fieldAddr (fsz := 1) 0 0 0 Try.underlying50 rfl Try_T2 rfl rfl rfl) ?_)
  refine OW.cons (OP.val (v := (.int .i64 a0.Boat)) rfl (x_load1 Try.underlying2 rfl rfl (hL.cellB 1 rfl rfl)) ?_)
  refine OW.cons (OP.val (v := (.pointer (some ⟨b4, 0, none⟩))) rfl (x_fieldAddr (fsz := 1) 0 0 0 Try.underlying50 rfl Try_T2 rfl rfl rfl) ?_)
  refine OW.cons (OP.val (v := (.int .i64 a1.Boat)) rfl (x_load1 Try.underlying2 rfl rfl (hL.cellB 0 rfl rfl)) ?_)
  refine OW.cons (OP.val (v := (.bool (a0.Boat != a1.Boat))) rfl (x_neq rfl rfl) ?_)
  refine OW.nil ?_
  refine CW.condM (t := a0.Boat != a1.Boat) rfl hm (fun hb5 hm => ?_) (fun hb5 hm => ?_)
  · refine CW.seq ?_
    refine CW.regionL ?_
    refine OW.cons (OP.val (v := (.bool false)) rfl (x_assign) ?_)
    refine OW.nil ?_
    refine CW.ret ?_
    obtain rfl := Option.some.inj hm
    exact RR1 rfl rfl ⟨rfl, hL.fresh 2 rfl [] (by decide) (by decide) rfl⟩
  · refine CW.skip ?_
    refine CW.seq ?_
    refine CW.seq ?_
    refine CW.regionL ?_
    refine OW.cons (OP.val (v := (.pointer (some ⟨b2, 1, none⟩))) rfl (x_fieldAddr (fsz := 1) 0 1 1 Try.underlying50 rfl Try_T2 rfl rfl rfl) ?_)
    refine OW.cons (OP.val (v := (.int .i64 a0.Code)) rfl (x_load1 Try.underlying2 rfl rfl (hL.cellB 1 rfl rfl)) ?_)
    refine OW.cons (OP.val (v := (.pointer (some ⟨b4, 1, none⟩))) rfl (x_fieldAddr (fsz := 1) 0 1 1 Try.underlying50 rfl Try_T2 rfl rfl rfl) ?_)
    refine OW.cons (OP.val (v := (.int .i64 a1.Code)) rfl (x_load1 Try.underlying2 rfl rfl (hL.cellB 0 rfl rfl)) ?_)
    refine OW.cons (OP.val (v := (.bool (a0.Code != a1.Code))) rfl (x_neq rfl rfl) ?_)
    refine OW.nil ?_
    refine CW.condM (t := a0.Code != a1.Code) rfl hm (fun hb6 hm => ?_) (fun hb6 hm => ?_)
    · refine CW.seq ?_
      refine CW.regionL ?_
      refine OW.cons (OP.val (v := (.bool false)) rfl (x_assign) ?_)
      refine OW.nil ?_
      refine CW.ret ?_
      obtain rfl := Option.some.inj hm
      exact RR1 rfl rfl ⟨rfl, hL.fresh 2 rfl [] (by decide) (by decide) rfl⟩
    · refine CW.skip ?_
      refine CW.seq ?_
      refine CW.seq ?_
      refine CW.regionL ?_
      refine OW.cons (OP.val (v := (.pointer (some ⟨b2, 2, none⟩))) rfl (x_fieldAddr (fsz := 1) 0 2 2 Try.underlying50 rfl Try_T2 rfl rfl rfl) ?_)
      refine OW.cons (OP.val (v := (.int .i64 a0.Time)) rfl (x_load1 Try.underlying2 rfl rfl (hL.cellB 1 rfl rfl)) ?_)
      refine OW.cons (OP.val (v := (.pointer (some ⟨b4, 2, none⟩))) rfl (x_fieldAddr (fsz := 1) 0 2 2 Try.underlying50 rfl Try_T2 rfl rfl rfl) ?_)
      refine OW.cons (OP.val (v := (.int .i64 a1.Time)) rfl (x_load1 Try.underlying2 rfl rfl (hL.cellB 0 rfl rfl)) ?_)
      refine OW.cons (OP.val (v := (.bool (a0.Time != a1.Time))) rfl (x_neq rfl rfl) ?_)
      refine OW.nil ?_
      refine CW.condM (t := a0.Time != a1.Time) rfl hm (fun hb7 hm => ?_) (fun hb7 hm => ?_)
      · refine CW.seq ?_
        refine CW.regionL ?_
        refine OW.cons (OP.val (v := (.bool false)) rfl (x_assign) ?_)
        refine OW.nil ?_
        refine CW.ret ?_
        obtain rfl := Option.some.inj hm
        exact RR1 rfl rfl ⟨rfl, hL.fresh 2 rfl [] (by decide) (by decide) rfl⟩
      · refine CW.skip ?_
        refine CW.seq ?_
        refine CW.regionL ?_
        refine OW.cons (OP.val (v := (.bool true)) rfl (x_assign) ?_)
        refine OW.nil ?_
        refine CW.ret ?_
        obtain rfl := Option.some.inj hm
        exact RR1 rfl rfl ⟨rfl, hL.fresh 2 rfl [] (by decide) (by decide) rfl⟩

theorem M.laws_eqFinishS_ok (w0 : World) (a0 : List Finish) {v1 : Value} (h2 : rdL (· < w0.heap.size) w0 v1 a0) (a1 : List Finish) {v3 : Value} (h4 : rdL (· < w0.heap.size) w0 v3 a1) {r : Bool} (hm : M.laws_eqFinishS a0 a1 = some r) :
    Calls Try.prog 90 #[v1, v3] w0 fun e w' => e = .returned (.bool r) ∧ Fresh w0 w' [] := by
  unfold M.laws_eqFinishS at hm
  refine calls_CW (args := [v1, v3]) Try.func90 rfl rfl rfl ?_
  have hL := Hp.start w0
  refine CW.seq ?_
  refine CW.regionL ?_
  refine OW.cons (OP.val (v := (.bool false)) rfl (x_assign) ?_)
  refine OW.nil ?_
  refine CW.seq ?_
  refine CW.seq ?_
  refine CW.regionL ?_
  refine OW.cons (OP.val (v := v1) rfl (x_move) ?_)
  refine OW.cons (OP.val (v := (.int .i64 (a0.length : Int))) rfl (x_lenR Try.underlying44 rfl (hL.rdS 0 rfl h2)) ?_)
  refine OW.cons (OP.val (v := v3) rfl (x_move) ?_)
  refine OW.cons (OP.val (v := (.int .i64 (a1.length : Int))) rfl (x_lenR Try.underlying44 rfl (hL.rdS 0 rfl h4)) ?_)
  refine OW.cons (OP.val (v := (.bool ((a0.length : Int) != (a1.length : Int)))) rfl (x_neq rfl rfl) ?_)
  refine OW.nil ?_
  refine CW.condM (t := (a0.length : Int) != (a1.length : Int)) rfl hm (fun hb5 hm => ?_) (fun hb5 hm => ?_)
  · refine CW.seq ?_
    refine CW.regionL ?_
    refine OW.cons (OP.val (v := (.bool false)) rfl (x_assign) ?_)
    refine OW.nil ?_
    refine CW.ret ?_
    obtain rfl := Option.some.inj hm
    exact RR1 rfl rfl ⟨rfl, hL.fresh 0 rfl [] (by decide) (by decide) rfl⟩
  · refine CW.skip ?_
    refine CW.seq ?_
    refine CW.seq ?_
    refine CW.regionL ?_
    refine OW.cons (OP.val (v := (.int .i64 0)) rfl (x_assign) ?_)
    refine OW.nil ?_
    obtain ⟨o46, ho47, hm⟩ := bndE hm
    refine CW.loopB (fun (s_l1 : Int) (F : Fr) (w : World) => F 0 = v1 ∧ F 1 = v3 ∧ F 5 = (.int .i64 s_l1) ∧ Hp w0 [Ent.snap w0 w0.heap.size] w) (fun o => outc o (fun x => some x) (fun s => M.laws_eqFinishS_a1 s) = some r) ho47 hm ⟨rfl, rfl, rfl, hL⟩ ?_ ?_
    · intro s_l1 F48 wd49 hJ hm
      have hm := outcE hm
      have hm : M.laws_eqFinishS_a1 s_l1 = some r := hm
      unfold M.laws_eqFinishS_a1 at hm
      obtain ⟨f50, f51, f52, hL⟩ := hJ
      refine CW.seq ?_
      refine CW.regionL ?_
      refine OW.cons (OP.val (v := (.bool true)) rfl (x_assign) ?_)
      refine OW.nil ?_
      refine CW.ret ?_
      obtain rfl := Option.some.inj hm
      exact RR1 rfl rfl ⟨rfl, hL.fresh 0 rfl [] (by decide) (by decide) rfl⟩
    · intro s_l1 F53 wd54 t44 hJ hm hr45
      unfold M.laws_eqFinishS_l1 at hm
      obtain ⟨f55, f56, f57, hL⟩ := hJ
      refine CW.seq ?_
      refine CW.seq ?_
      refine CW.regionL ?_
      refine OW.cons (OP.val (v := (.int .i64 s_l1)) rfl (x_mv f57) ?_)
      refine OW.cons (OP.val (v := v1) rfl (x_mv f55) ?_)
      refine OW.cons (OP.val (v := (.int .i64 (a0.length : Int))) rfl (x_lenR Try.underlying44 rfl (hL.rdS 0 rfl h2)) ?_)
      refine OW.cons (OP.val (v := (.bool (decide (s_l1 < (a0.length : Int))))) rfl (x_lss rfl rfl) ?_)
      refine OW.nil ?_
      refine CW.condM (t := decide (s_l1 < (a0.length : Int))) rfl hm (fun hb58 hm => ?_) (fun hb58 hm => ?_)
      · refine CW.skip ?_
        refine CW.seq ?_
        refine CW.block ?_
        refine CW.seq ?_
        refine CW.draw Try_mixed ?_
        have hL := hL.call (Mod.drew _)
        refine DW.pre (fuel := 0) (fin := (((((((((((Array.replicate 10 false).setIfInBounds 0 true).setIfInBounds 1 true).setIfInBounds 2 true).setIfInBounds 3 true).setIfInBounds 4 true).setIfInBounds 5 true).setIfInBounds 6 true).setIfInBounds 7 true).setIfInBounds 8 true).setIfInBounds 9 true)) (C := fun w' => Mod None_ _ w') [0, 1, 2, 3, 4, 5, 6, 7, 8, 9] (Mod.refl _ _) (by kernel_rfl) (by kernel_rfl) ?_
        refine QW.cons rfl (QP.val (v := v1) rfl (fun w' hm' => x_mv f55) ?_)
        refine QW.cons rfl (QP.val (v := (.int .i64 s_l1)) rfl (fun w' hm' => x_mv f57) ?_)
        obtain ⟨x59, ha60, hm⟩ := bndE hm
        obtain ⟨hz61, ha65⟩ := idxE ha60
        obtain ⟨b62, q63, hix64⟩ := rdL_ix (hL.rdS 0 rfl h2) hz61 ha65
        refine QW.cons rfl (QP.val (v := (.pointer (some ⟨b62, q63, none⟩))) rfl (fun w' hm' => x_ix Try.underlying44 Try_T50 rfl rfl hix64) ?_)
        refine QW.cons rfl (QP.val (v := (.agg #[(.int .i64 x59.Boat), (.int .i64 x59.Code), (.int .i64 x59.Time)])) rfl (fun w' hm' => x_loadN (cs := [(.int .i64 x59.Boat), (.int .i64 x59.Code), (.int .i64 x59.Time)]) Try.underlying50 Try_T50 rfl rfl (rdF_cells ((hL.call hm').rdS 0 rfl h2) hix64 ha65)) ?_)
        refine QW.cons rfl (QP.val (v := v3) rfl (fun w' hm' => x_mv f56) ?_)
        refine QW.cons rfl (QP.val (v := (.int .i64 s_l1)) rfl (fun w' hm' => x_mv f57) ?_)
        obtain ⟨x66, ha67, hm⟩ := bndE hm
        obtain ⟨hz68, ha72⟩ := idxE ha67
        obtain ⟨b69, q70, hix71⟩ := rdL_ix (hL.rdS 0 rfl h4) hz68 ha72
        refine QW.cons rfl (QP.val (v := (.pointer (some ⟨b69, q70, none⟩))) rfl (fun w' hm' => x_ix Try.underlying44 Try_T50 rfl rfl hix71) ?_)
        refine QW.cons rfl (QP.val (v := (.agg #[(.int .i64 x66.Boat), (.int .i64 x66.Code), (.int .i64 x66.Time)])) rfl (fun w' hm' => x_loadN (cs := [(.int .i64 x66.Boat), (.int .i64 x66.Code), (.int .i64 x66.Time)]) Try.underlying50 Try_T50 rfl rfl (rdF_cells ((hL.call hm').rdS 0 rfl h4) hix71 ha72)) ?_)
        obtain ⟨x73, hx74, hm⟩ := bndE hm
        refine QW.cons rfl (QP.call (v := (.bool x73)) rfl (fun w' hm' => x_call (vs := [(.agg #[(.int .i64 x59.Boat), (.int .i64 x59.Code), (.int .i64 x59.Time)]), (.agg #[(.int .i64 x66.Boat), (.int .i64 x66.Code), (.int .i64 x66.Time)])]) Try_C97 ⟨rfl, rfl, trivial⟩) (fun w' hm' => (M.laws_eqFinish_ok w' x59 x66 hx74).mono (fun e w'' h => ⟨h.1, hm'.trans h.2.mod⟩)) ?_)
        refine QW.cons rfl (QP.val (v := (.bool (!x73))) rfl (fun w' hm' => x_not rfl) ?_)
        refine QW.nil ?_
        intro wd75 hmod
        have hL := hL.call hmod
        refine DW.done (by kernel_rfl) ?_
        refine CW.condM (t := !x73) rfl hm (fun hb76 hm => ?_) (fun hb76 hm => ?_)
        · refine CW.seq ?_
          refine CW.regionL ?_
          refine OW.cons (OP.val (v := (.bool false)) rfl (x_assign) ?_)
          refine OW.nil ?_
          refine CW.ret ?_
          obtain rfl := Option.some.inj hm
          have hm := hr45 _ rfl
          obtain rfl := Option.some.inj hm
          exact RR1 rfl rfl ⟨rfl, hL.fresh 0 rfl [] (by decide) (by decide) rfl⟩
        · refine CW.skip ?_
          refine CW.regionL ?_
          refine OW.cons (OP.val (v := (.int .i64 s_l1)) rfl (x_mv f57) ?_)
          refine OW.cons (OP.val (v := (.int .i64 (w64 (s_l1 + 1)))) rfl (x_add rfl rfl) ?_)
          refine OW.cons (OP.val (v := (.int .i64 (w64 (s_l1 + 1)))) rfl (x_assign) ?_)
          refine OW.nil ?_
          obtain rfl := Option.some.inj hm
          exact ⟨_, rfl, ⟨f55, f56, rfl, hL⟩⟩
      · refine CW.exit ?_
        refine XJ.hit ?_
        obtain rfl := Option.some.inj hm
        exact ⟨_, rfl, ⟨f55, f56, f57, hL⟩⟩

theorem M.laws_eqRace_ok (w0 : World) (a0 : Race) {v1 : Value} (h2 : rdL (· < w0.heap.size) w0 v1 a0.Finishes) (a1 : Race) {v3 : Value} (h4 : rdL (· < w0.heap.size) w0 v3 a1.Finishes) {r : Bool} (hm : M.laws_eqRace a0 a1 = some r) :
    Calls Try.prog 66 #[(.agg #[v1]), (.agg #[v3])] w0 fun e w' => e = .returned (.bool r) ∧ Fresh w0 w' [] := by
  unfold M.laws_eqRace at hm
  refine calls_CW (args := [(.agg #[v1]), (.agg #[v3])]) Try.func66 rfl rfl rfl ?_
  have hL := Hp.start w0
  refine CW.seq ?_
  refine CW.regionL ?_
  refine OW.cons (S_box (cs := #[v1]) hL rfl rfl rfl ?_)
  intro wd5 b6 hL
  refine OW.cons (S_box (cs := #[v3]) hL rfl rfl rfl ?_)
  intro wd7 b8 hL
  refine OW.cons (OP.val (v := (.bool false)) rfl (x_assign) ?_)
  refine OW.nil ?_
  refine CW.seq ?_
  refine CW.seq ?_
  refine CW.regionL ?_
  refine OW.cons (OP.val (v := (.pointer (some ⟨b6, 0, none⟩))) rfl (x_fieldAddr (fsz := 1) 0 0 0 Try.underlying46 rfl Try_T44 rfl rfl rfl) ?_)
  refine OW.cons (OP.val (v := v1) rfl (x_load1 Try.underlying44 rfl rfl (hL.cellB 1 rfl rfl)) ?_)
  refine OW.cons (OP.val (v := (.pointer (some ⟨b8, 0, none⟩))) rfl (x_fieldAddr (fsz := 1) 0 0 0 Try.underlying46 rfl Try_T44 rfl rfl rfl) ?_)
  refine OW.cons (OP.val (v := v3) rfl (x_load1 Try.underlying44 rfl rfl (hL.cellB 0 rfl rfl)) ?_)
  obtain ⟨x9, hx10, hm⟩ := bndE hm
  refine OW.cons (OP.call rfl (x_call (vs := [v1, v3]) Try_C90 ⟨rfl, rfl, trivial⟩) (M.laws_eqFinishS_ok _ a0.Finishes (hL.rdS 2 rfl h2) a1.Finishes (hL.rdS 2 rfl h4) hx10) ?_)
  rintro e11 wd12 ⟨rfl, hF13⟩
  refine ⟨_, rfl, ?_⟩
  have hL := hL.pushAll hF13
  simp only [List.cons_append, List.nil_append, List.set_cons_zero, List.set_cons_succ] at hL
  refine OW.cons (OP.val (v := (.bool (!x9))) rfl (x_not rfl) ?_)
  refine OW.nil ?_
  refine CW.condM (t := !x9) rfl hm (fun hb14 hm => ?_) (fun hb14 hm => ?_)
  · refine CW.seq ?_
    refine CW.regionL ?_
    refine OW.cons (OP.val (v := (.bool false)) rfl (x_assign) ?_)
    refine OW.nil ?_
    refine CW.ret ?_
    obtain rfl := Option.some.inj hm
    exact RR1 rfl rfl ⟨rfl, hL.fresh 2 rfl [] (by decide) (by decide) rfl⟩
  · refine CW.skip ?_
    refine CW.seq ?_
    refine CW.regionL ?_
    refine OW.cons (OP.val (v := (.bool true)) rfl (x_assign) ?_)
    refine OW.nil ?_
    refine CW.ret ?_
    obtain rfl := Option.some.inj hm
    exact RR1 rfl rfl ⟨rfl, hL.fresh 2 rfl [] (by decide) (by decide) rfl⟩

theorem M.laws_eqRaceS_ok (w0 : World) (a0 : List Race) {v1 : Value} (h2 : rdL (· < w0.heap.size) w0 v1 a0) (a1 : List Race) {v3 : Value} (h4 : rdL (· < w0.heap.size) w0 v3 a1) {r : Bool} (hm : M.laws_eqRaceS a0 a1 = some r) :
    Calls Try.prog 39 #[v1, v3] w0 fun e w' => e = .returned (.bool r) ∧ Fresh w0 w' [] := by
  unfold M.laws_eqRaceS at hm
  refine calls_CW (args := [v1, v3]) Try.func39 rfl rfl rfl ?_
  have hL := Hp.start w0
  refine CW.seq ?_
  refine CW.regionL ?_
  refine OW.cons (OP.val (v := (.bool false)) rfl (x_assign) ?_)
  refine OW.nil ?_
  refine CW.seq ?_
  refine CW.seq ?_
  refine CW.regionL ?_
  refine OW.cons (OP.val (v := v1) rfl (x_move) ?_)
  refine OW.cons (OP.val (v := (.int .i64 (a0.length : Int))) rfl (x_lenR Try.underlying29 rfl (hL.rdS 0 rfl h2)) ?_)
  refine OW.cons (OP.val (v := v3) rfl (x_move) ?_)
  refine OW.cons (OP.val (v := (.int .i64 (a1.length : Int))) rfl (x_lenR Try.underlying29 rfl (hL.rdS 0 rfl h4)) ?_)
  refine OW.cons (OP.val (v := (.bool ((a0.length : Int) != (a1.length : Int)))) rfl (x_neq rfl rfl) ?_)
  refine OW.nil ?_
  refine CW.condM (t := (a0.length : Int) != (a1.length : Int)) rfl hm (fun hb5 hm => ?_) (fun hb5 hm => ?_)
  · refine CW.seq ?_
    refine CW.regionL ?_
    refine OW.cons (OP.val (v := (.bool false)) rfl (x_assign) ?_)
    refine OW.nil ?_
    refine CW.ret ?_
    obtain rfl := Option.some.inj hm
    exact RR1 rfl rfl ⟨rfl, hL.fresh 0 rfl [] (by decide) (by decide) rfl⟩
  · refine CW.skip ?_
    refine CW.seq ?_
    refine CW.seq ?_
    refine CW.regionL ?_
    refine OW.cons (OP.val (v := (.int .i64 0)) rfl (x_assign) ?_)
    refine OW.nil ?_
    obtain ⟨o62, ho63, hm⟩ := bndE hm
    refine CW.loopB (fun (s_l1 : Int) (F : Fr) (w : World) => F 0 = v1 ∧ F 1 = v3 ∧ F 5 = (.int .i64 s_l1) ∧ Hp w0 [Ent.snap w0 w0.heap.size] w) (fun o => outc o (fun x => some x) (fun s => M.laws_eqRaceS_a1 s) = some r) ho63 hm ⟨rfl, rfl, rfl, hL⟩ ?_ ?_
    · intro s_l1 F64 wd65 hJ hm
      have hm := outcE hm
      have hm : M.laws_eqRaceS_a1 s_l1 = some r := hm
      unfold M.laws_eqRaceS_a1 at hm
      obtain ⟨f66, f67, f68, hL⟩ := hJ
      refine CW.seq ?_
      refine CW.regionL ?_
      refine OW.cons (OP.val (v := (.bool true)) rfl (x_assign) ?_)
      refine OW.nil ?_
      refine CW.ret ?_
      obtain rfl := Option.some.inj hm
      exact RR1 rfl rfl ⟨rfl, hL.fresh 0 rfl [] (by decide) (by decide) rfl⟩
    · intro s_l1 F69 wd70 t60 hJ hm hr61
      unfold M.laws_eqRaceS_l1 at hm
      obtain ⟨f71, f72, f73, hL⟩ := hJ
      refine CW.seq ?_
      refine CW.seq ?_
      refine CW.regionL ?_
      refine OW.cons (OP.val (v := (.int .i64 s_l1)) rfl (x_mv f73) ?_)
      refine OW.cons (OP.val (v := v1) rfl (x_mv f71) ?_)
      refine OW.cons (OP.val (v := (.int .i64 (a0.length : Int))) rfl (x_lenR Try.underlying29 rfl (hL.rdS 0 rfl h2)) ?_)
      refine OW.cons (OP.val (v := (.bool (decide (s_l1 < (a0.length : Int))))) rfl (x_lss rfl rfl) ?_)
      refine OW.nil ?_
      refine CW.condM (t := decide (s_l1 < (a0.length : Int))) rfl hm (fun hb74 hm => ?_) (fun hb74 hm => ?_)
      · refine CW.skip ?_
        refine CW.seq ?_
        refine CW.block ?_
        refine CW.seq ?_
        refine CW.draw Try_mixed ?_
        have hL := hL.call (Mod.drew _)
        refine DW.pre (fuel := 0) (fin := (((((((((((Array.replicate 10 false).setIfInBounds 0 true).setIfInBounds 1 true).setIfInBounds 2 true).setIfInBounds 3 true).setIfInBounds 4 true).setIfInBounds 5 true).setIfInBounds 6 true).setIfInBounds 7 true).setIfInBounds 8 true).setIfInBounds 9 true)) (C := fun w' => Mod None_ _ w') [0, 1, 2, 3, 4, 5, 6, 7, 8, 9] (Mod.refl _ _) (by kernel_rfl) (by kernel_rfl) ?_
        refine QW.cons rfl (QP.val (v := v1) rfl (fun w' hm' => x_mv f71) ?_)
        refine QW.cons rfl (QP.val (v := (.int .i64 s_l1)) rfl (fun w' hm' => x_mv f73) ?_)
        obtain ⟨x75, ha76, hm⟩ := bndE hm
        obtain ⟨hz77, ha85⟩ := idxE ha76
        obtain ⟨b78, q79, v80, hix81, hs82, hc83, hr84⟩ := rdN_at h2 hz77 ha85
        refine QW.cons rfl (QP.val (v := (.pointer (some ⟨b78, q79, none⟩))) rfl (fun w' hm' => x_ix Try.underlying29 Try_T46 rfl rfl hix81) ?_)
        refine QW.cons rfl (QP.val (v := (.agg #[v80])) rfl (fun w' hm' => x_loadN (cs := [v80]) Try.underlying46 Try_T46 rfl rfl (by intro j u hj; match j, hj with | 0, hj => (simp at hj; subst hj; exact ((hL.call hm').cellS 0 rfl hs82 hc83)))) ?_)
        refine QW.cons rfl (QP.val (v := v3) rfl (fun w' hm' => x_mv f72) ?_)
        refine QW.cons rfl (QP.val (v := (.int .i64 s_l1)) rfl (fun w' hm' => x_mv f73) ?_)
        obtain ⟨x86, ha87, hm⟩ := bndE hm
        obtain ⟨hz88, ha96⟩ := idxE ha87
        obtain ⟨b89, q90, v91, hix92, hs93, hc94, hr95⟩ := rdN_at h4 hz88 ha96
        refine QW.cons rfl (QP.val (v := (.pointer (some ⟨b89, q90, none⟩))) rfl (fun w' hm' => x_ix Try.underlying29 Try_T46 rfl rfl hix92) ?_)
        refine QW.cons rfl (QP.val (v := (.agg #[v91])) rfl (fun w' hm' => x_loadN (cs := [v91]) Try.underlying46 Try_T46 rfl rfl (by intro j u hj; match j, hj with | 0, hj => (simp at hj; subst hj; exact ((hL.call hm').cellS 0 rfl hs93 hc94)))) ?_)
        obtain ⟨x97, hx98, hm⟩ := bndE hm
        refine QW.cons rfl (QP.call (v := (.bool x97)) rfl (fun w' hm' => x_call (vs := [(.agg #[v80]), (.agg #[v91])]) Try_C66 ⟨rfl, rfl, trivial⟩) (fun w' hm' => (M.laws_eqRace_ok w' x75 ((hL.call hm').rdS 0 rfl hr84) x86 ((hL.call hm').rdS 0 rfl hr95) hx98).mono (fun e w'' h => ⟨h.1, hm'.trans h.2.mod⟩)) ?_)
        refine QW.cons rfl (QP.val (v := (.bool (!x97))) rfl (fun w' hm' => x_not rfl) ?_)
        refine QW.nil ?_
        intro wd99 hmod
        have hL := hL.call hmod
        refine DW.done (by kernel_rfl) ?_
        refine CW.condM (t := !x97) rfl hm (fun hb100 hm => ?_) (fun hb100 hm => ?_)
        · refine CW.seq ?_
          refine CW.regionL ?_
          refine OW.cons (OP.val (v := (.bool false)) rfl (x_assign) ?_)
          refine OW.nil ?_
          refine CW.ret ?_
          obtain rfl := Option.some.inj hm
          have hm := hr61 _ rfl
          obtain rfl := Option.some.inj hm
          exact RR1 rfl rfl ⟨rfl, hL.fresh 0 rfl [] (by decide) (by decide) rfl⟩
        · refine CW.skip ?_
          refine CW.regionL ?_
          refine OW.cons (OP.val (v := (.int .i64 s_l1)) rfl (x_mv f73) ?_)
          refine OW.cons (OP.val (v := (.int .i64 (w64 (s_l1 + 1)))) rfl (x_add rfl rfl) ?_)
          refine OW.cons (OP.val (v := (.int .i64 (w64 (s_l1 + 1)))) rfl (x_assign) ?_)
          refine OW.nil ?_
          obtain rfl := Option.some.inj hm
          exact ⟨_, rfl, ⟨f71, f72, rfl, hL⟩⟩
      · refine CW.exit ?_
        refine XJ.hit ?_
        obtain rfl := Option.some.inj hm
        exact ⟨_, rfl, ⟨f71, f72, f73, hL⟩⟩

theorem M.laws_eqSeries_ok (w0 : World) (a0 : Series) {v1 : Value} (h2 : rdL (· < w0.heap.size) w0 v1 a0.Races) (a1 : Series) {v3 : Value} (h4 : rdL (· < w0.heap.size) w0 v3 a1.Races) {r : Bool} (hm : M.laws_eqSeries a0 a1 = some r) :
    Calls Try.prog 14 #[(.agg #[(.int .i64 a0.Boats), (.int .i64 a0.Scheme), v1]), (.agg #[(.int .i64 a1.Boats), (.int .i64 a1.Scheme), v3])] w0 fun e w' => e = .returned (.bool r) ∧ Fresh w0 w' [] := by
  unfold M.laws_eqSeries at hm
  refine calls_CW (args := [(.agg #[(.int .i64 a0.Boats), (.int .i64 a0.Scheme), v1]), (.agg #[(.int .i64 a1.Boats), (.int .i64 a1.Scheme), v3])]) Try.func14 rfl rfl rfl ?_
  have hL := Hp.start w0
  refine CW.seq ?_
  refine CW.regionL ?_
  refine OW.cons (S_box (cs := #[(.int .i64 a0.Boats), (.int .i64 a0.Scheme), v1]) hL rfl rfl rfl ?_)
  intro wd5 b6 hL
  refine OW.cons (S_box (cs := #[(.int .i64 a1.Boats), (.int .i64 a1.Scheme), v3]) hL rfl rfl rfl ?_)
  intro wd7 b8 hL
  refine OW.cons (OP.val (v := (.bool false)) rfl (x_assign) ?_)
  refine OW.nil ?_
  refine CW.seq ?_
  refine CW.seq ?_
  refine CW.regionL ?_
  refine OW.cons (OP.val (v := (.pointer (some ⟨b6, 0, none⟩))) rfl (x_fieldAddr (fsz := 1) 0 0 0 Try.underlying31 rfl Try_T2 rfl rfl rfl) ?_)
  refine OW.cons (OP.val (v := (.int .i64 a0.Boats)) rfl (x_load1 Try.underlying2 rfl rfl (hL.cellB 1 rfl rfl)) ?_)
  refine OW.cons (OP.val (v := (.pointer (some ⟨b8, 0, none⟩))) rfl (x_fieldAddr (fsz := 1) 0 0 0 Try.underlying31 rfl Try_T2 rfl rfl rfl) ?_)
  refine OW.cons (OP.val (v := (.int .i64 a1.Boats)) rfl (x_load1 Try.underlying2 rfl rfl (hL.cellB 0 rfl rfl)) ?_)
  refine OW.cons (OP.val (v := (.bool (a0.Boats != a1.Boats))) rfl (x_neq rfl rfl) ?_)
  refine OW.nil ?_
  refine CW.condM (t := a0.Boats != a1.Boats) rfl hm (fun hb9 hm => ?_) (fun hb9 hm => ?_)
  · refine CW.seq ?_
    refine CW.regionL ?_
    refine OW.cons (OP.val (v := (.bool false)) rfl (x_assign) ?_)
    refine OW.nil ?_
    refine CW.ret ?_
    obtain rfl := Option.some.inj hm
    exact RR1 rfl rfl ⟨rfl, hL.fresh 2 rfl [] (by decide) (by decide) rfl⟩
  · refine CW.skip ?_
    refine CW.seq ?_
    refine CW.seq ?_
    refine CW.regionL ?_
    refine OW.cons (OP.val (v := (.pointer (some ⟨b6, 1, none⟩))) rfl (x_fieldAddr (fsz := 1) 0 1 1 Try.underlying31 rfl Try_T2 rfl rfl rfl) ?_)
    refine OW.cons (OP.val (v := (.int .i64 a0.Scheme)) rfl (x_load1 Try.underlying2 rfl rfl (hL.cellB 1 rfl rfl)) ?_)
    refine OW.cons (OP.val (v := (.pointer (some ⟨b8, 1, none⟩))) rfl (x_fieldAddr (fsz := 1) 0 1 1 Try.underlying31 rfl Try_T2 rfl rfl rfl) ?_)
    refine OW.cons (OP.val (v := (.int .i64 a1.Scheme)) rfl (x_load1 Try.underlying2 rfl rfl (hL.cellB 0 rfl rfl)) ?_)
    refine OW.cons (OP.val (v := (.bool (a0.Scheme != a1.Scheme))) rfl (x_neq rfl rfl) ?_)
    refine OW.nil ?_
    refine CW.condM (t := a0.Scheme != a1.Scheme) rfl hm (fun hb10 hm => ?_) (fun hb10 hm => ?_)
    · refine CW.seq ?_
      refine CW.regionL ?_
      refine OW.cons (OP.val (v := (.bool false)) rfl (x_assign) ?_)
      refine OW.nil ?_
      refine CW.ret ?_
      obtain rfl := Option.some.inj hm
      exact RR1 rfl rfl ⟨rfl, hL.fresh 2 rfl [] (by decide) (by decide) rfl⟩
    · refine CW.skip ?_
      refine CW.seq ?_
      refine CW.seq ?_
      refine CW.regionL ?_
      refine OW.cons (OP.val (v := (.pointer (some ⟨b6, 2, none⟩))) rfl (x_fieldAddr (fsz := 1) 0 2 2 Try.underlying31 rfl Try_T29 rfl rfl rfl) ?_)
      refine OW.cons (OP.val (v := v1) rfl (x_load1 Try.underlying29 rfl rfl (hL.cellB 1 rfl rfl)) ?_)
      refine OW.cons (OP.val (v := (.pointer (some ⟨b8, 2, none⟩))) rfl (x_fieldAddr (fsz := 1) 0 2 2 Try.underlying31 rfl Try_T29 rfl rfl rfl) ?_)
      refine OW.cons (OP.val (v := v3) rfl (x_load1 Try.underlying29 rfl rfl (hL.cellB 0 rfl rfl)) ?_)
      obtain ⟨x11, hx12, hm⟩ := bndE hm
      refine OW.cons (OP.call rfl (x_call (vs := [v1, v3]) Try_C39 ⟨rfl, rfl, trivial⟩) (M.laws_eqRaceS_ok _ a0.Races (hL.rdS 2 rfl h2) a1.Races (hL.rdS 2 rfl h4) hx12) ?_)
      rintro e13 wd14 ⟨rfl, hF15⟩
      refine ⟨_, rfl, ?_⟩
      have hL := hL.pushAll hF15
      simp only [List.cons_append, List.nil_append, List.set_cons_zero, List.set_cons_succ] at hL
      refine OW.cons (OP.val (v := (.bool (!x11))) rfl (x_not rfl) ?_)
      refine OW.nil ?_
      refine CW.condM (t := !x11) rfl hm (fun hb16 hm => ?_) (fun hb16 hm => ?_)
      · refine CW.seq ?_
        refine CW.regionL ?_
        refine OW.cons (OP.val (v := (.bool false)) rfl (x_assign) ?_)
        refine OW.nil ?_
        refine CW.ret ?_
        obtain rfl := Option.some.inj hm
        exact RR1 rfl rfl ⟨rfl, hL.fresh 2 rfl [] (by decide) (by decide) rfl⟩
      · refine CW.skip ?_
        refine CW.seq ?_
        refine CW.regionL ?_
        refine OW.cons (OP.val (v := (.bool true)) rfl (x_assign) ?_)
        refine OW.nil ?_
        refine CW.ret ?_
        obtain rfl := Option.some.inj hm
        exact RR1 rfl rfl ⟨rfl, hL.fresh 2 rfl [] (by decide) (by decide) rfl⟩

theorem M.laws_eqPenalty_ok (w0 : World) (a0 : Penalty) (a1 : Penalty) {r : Bool} (hm : M.laws_eqPenalty a0 a1 = some r) :
    Calls Try.prog 40 #[(.agg #[(.int .i64 a0.Race), (.int .i64 a0.Boat), (.int .i64 a0.Kind), (.int .i64 a0.Value)]), (.agg #[(.int .i64 a1.Race), (.int .i64 a1.Boat), (.int .i64 a1.Kind), (.int .i64 a1.Value)])] w0 fun e w' => e = .returned (.bool r) ∧ Fresh w0 w' [] := by
  unfold M.laws_eqPenalty at hm
  refine calls_CW (args := [(.agg #[(.int .i64 a0.Race), (.int .i64 a0.Boat), (.int .i64 a0.Kind), (.int .i64 a0.Value)]), (.agg #[(.int .i64 a1.Race), (.int .i64 a1.Boat), (.int .i64 a1.Kind), (.int .i64 a1.Value)])]) Try.func40 rfl rfl rfl ?_
  have hL := Hp.start w0
  refine CW.seq ?_
  refine CW.regionL ?_
  refine OW.cons (S_box (cs := #[(.int .i64 a0.Race), (.int .i64 a0.Boat), (.int .i64 a0.Kind), (.int .i64 a0.Value)]) hL rfl rfl rfl ?_)
  intro wd1 b2 hL
  refine OW.cons (S_box (cs := #[(.int .i64 a1.Race), (.int .i64 a1.Boat), (.int .i64 a1.Kind), (.int .i64 a1.Value)]) hL rfl rfl rfl ?_)
  intro wd3 b4 hL
  refine OW.cons (OP.val (v := (.bool false)) rfl (x_assign) ?_)
  refine OW.nil ?_
  refine CW.seq ?_
  refine CW.seq ?_
  refine CW.regionL ?_
  refine OW.cons (OP.val (v := (.pointer (some ⟨b2, 0, none⟩))) rfl (x_fieldAddr (fsz := 1) 0 0 0 Try.underlying48 rfl Try_T2 rfl rfl rfl) ?_)
  refine OW.cons (OP.val (v := (.int .i64 a0.Race)) rfl (x_load1 Try.underlying2 rfl rfl (hL.cellB 1 rfl rfl)) ?_)
  refine OW.cons (OP.val (v := (.pointer (some ⟨b4, 0, none⟩))) rfl (x_fieldAddr (fsz := 1) 0 0 0 Try.underlying48 rfl Try_T2 rfl rfl rfl) ?_)
  refine OW.cons (OP.val (v := (.int .i64 a1.Race)) rfl (x_load1 Try.underlying2 rfl rfl (hL.cellB 0 rfl rfl)) ?_)
  refine OW.cons (OP.val (v := (.bool (a0.Race != a1.Race))) rfl (x_neq rfl rfl) ?_)
  refine OW.nil ?_
  refine CW.condM (t := a0.Race != a1.Race) rfl hm (fun hb5 hm => ?_) (fun hb5 hm => ?_)
  · refine CW.seq ?_
    refine CW.regionL ?_
    refine OW.cons (OP.val (v := (.bool false)) rfl (x_assign) ?_)
    refine OW.nil ?_
    refine CW.ret ?_
    obtain rfl := Option.some.inj hm
    exact RR1 rfl rfl ⟨rfl, hL.fresh 2 rfl [] (by decide) (by decide) rfl⟩
  · refine CW.skip ?_
    refine CW.seq ?_
    refine CW.seq ?_
    refine CW.regionL ?_
    refine OW.cons (OP.val (v := (.pointer (some ⟨b2, 1, none⟩))) rfl (x_fieldAddr (fsz := 1) 0 1 1 Try.underlying48 rfl Try_T2 rfl rfl rfl) ?_)
    refine OW.cons (OP.val (v := (.int .i64 a0.Boat)) rfl (x_load1 Try.underlying2 rfl rfl (hL.cellB 1 rfl rfl)) ?_)
    refine OW.cons (OP.val (v := (.pointer (some ⟨b4, 1, none⟩))) rfl (x_fieldAddr (fsz := 1) 0 1 1 Try.underlying48 rfl Try_T2 rfl rfl rfl) ?_)
    refine OW.cons (OP.val (v := (.int .i64 a1.Boat)) rfl (x_load1 Try.underlying2 rfl rfl (hL.cellB 0 rfl rfl)) ?_)
    refine OW.cons (OP.val (v := (.bool (a0.Boat != a1.Boat))) rfl (x_neq rfl rfl) ?_)
    refine OW.nil ?_
    refine CW.condM (t := a0.Boat != a1.Boat) rfl hm (fun hb6 hm => ?_) (fun hb6 hm => ?_)
    · refine CW.seq ?_
      refine CW.regionL ?_
      refine OW.cons (OP.val (v := (.bool false)) rfl (x_assign) ?_)
      refine OW.nil ?_
      refine CW.ret ?_
      obtain rfl := Option.some.inj hm
      exact RR1 rfl rfl ⟨rfl, hL.fresh 2 rfl [] (by decide) (by decide) rfl⟩
    · refine CW.skip ?_
      refine CW.seq ?_
      refine CW.seq ?_
      refine CW.regionL ?_
      refine OW.cons (OP.val (v := (.pointer (some ⟨b2, 2, none⟩))) rfl (x_fieldAddr (fsz := 1) 0 2 2 Try.underlying48 rfl Try_T2 rfl rfl rfl) ?_)
      refine OW.cons (OP.val (v := (.int .i64 a0.Kind)) rfl (x_load1 Try.underlying2 rfl rfl (hL.cellB 1 rfl rfl)) ?_)
      refine OW.cons (OP.val (v := (.pointer (some ⟨b4, 2, none⟩))) rfl (x_fieldAddr (fsz := 1) 0 2 2 Try.underlying48 rfl Try_T2 rfl rfl rfl) ?_)
      refine OW.cons (OP.val (v := (.int .i64 a1.Kind)) rfl (x_load1 Try.underlying2 rfl rfl (hL.cellB 0 rfl rfl)) ?_)
      refine OW.cons (OP.val (v := (.bool (a0.Kind != a1.Kind))) rfl (x_neq rfl rfl) ?_)
      refine OW.nil ?_
      refine CW.condM (t := a0.Kind != a1.Kind) rfl hm (fun hb7 hm => ?_) (fun hb7 hm => ?_)
      · refine CW.seq ?_
        refine CW.regionL ?_
        refine OW.cons (OP.val (v := (.bool false)) rfl (x_assign) ?_)
        refine OW.nil ?_
        refine CW.ret ?_
        obtain rfl := Option.some.inj hm
        exact RR1 rfl rfl ⟨rfl, hL.fresh 2 rfl [] (by decide) (by decide) rfl⟩
      · refine CW.skip ?_
        refine CW.seq ?_
        refine CW.seq ?_
        refine CW.regionL ?_
        refine OW.cons (OP.val (v := (.pointer (some ⟨b2, 3, none⟩))) rfl (x_fieldAddr (fsz := 1) 0 3 3 Try.underlying48 rfl Try_T2 rfl rfl rfl) ?_)
        refine OW.cons (OP.val (v := (.int .i64 a0.Value)) rfl (x_load1 Try.underlying2 rfl rfl (hL.cellB 1 rfl rfl)) ?_)
        refine OW.cons (OP.val (v := (.pointer (some ⟨b4, 3, none⟩))) rfl (x_fieldAddr (fsz := 1) 0 3 3 Try.underlying48 rfl Try_T2 rfl rfl rfl) ?_)
        refine OW.cons (OP.val (v := (.int .i64 a1.Value)) rfl (x_load1 Try.underlying2 rfl rfl (hL.cellB 0 rfl rfl)) ?_)
        refine OW.cons (OP.val (v := (.bool (a0.Value != a1.Value))) rfl (x_neq rfl rfl) ?_)
        refine OW.nil ?_
        refine CW.condM (t := a0.Value != a1.Value) rfl hm (fun hb8 hm => ?_) (fun hb8 hm => ?_)
        · refine CW.seq ?_
          refine CW.regionL ?_
          refine OW.cons (OP.val (v := (.bool false)) rfl (x_assign) ?_)
          refine OW.nil ?_
          refine CW.ret ?_
          obtain rfl := Option.some.inj hm
          exact RR1 rfl rfl ⟨rfl, hL.fresh 2 rfl [] (by decide) (by decide) rfl⟩
        · refine CW.skip ?_
          refine CW.seq ?_
          refine CW.regionL ?_
          refine OW.cons (OP.val (v := (.bool true)) rfl (x_assign) ?_)
          refine OW.nil ?_
          refine CW.ret ?_
          obtain rfl := Option.some.inj hm
          exact RR1 rfl rfl ⟨rfl, hL.fresh 2 rfl [] (by decide) (by decide) rfl⟩

theorem M.laws_eqPenaltyS_ok (w0 : World) (a0 : List Penalty) {v1 : Value} (h2 : rdL (· < w0.heap.size) w0 v1 a0) (a1 : List Penalty) {v3 : Value} (h4 : rdL (· < w0.heap.size) w0 v3 a1) {r : Bool} (hm : M.laws_eqPenaltyS a0 a1 = some r) :
    Calls Try.prog 15 #[v1, v3] w0 fun e w' => e = .returned (.bool r) ∧ Fresh w0 w' [] := by
  unfold M.laws_eqPenaltyS at hm
  refine calls_CW (args := [v1, v3]) Try.func15 rfl rfl rfl ?_
  have hL := Hp.start w0
  refine CW.seq ?_
  refine CW.regionL ?_
  refine OW.cons (OP.val (v := (.bool false)) rfl (x_assign) ?_)
  refine OW.nil ?_
  refine CW.seq ?_
  refine CW.seq ?_
  refine CW.regionL ?_
  refine OW.cons (OP.val (v := v1) rfl (x_move) ?_)
  refine OW.cons (OP.val (v := (.int .i64 (a0.length : Int))) rfl (x_lenR Try.underlying33 rfl (hL.rdS 0 rfl h2)) ?_)
  refine OW.cons (OP.val (v := v3) rfl (x_move) ?_)
  refine OW.cons (OP.val (v := (.int .i64 (a1.length : Int))) rfl (x_lenR Try.underlying33 rfl (hL.rdS 0 rfl h4)) ?_)
  refine OW.cons (OP.val (v := (.bool ((a0.length : Int) != (a1.length : Int)))) rfl (x_neq rfl rfl) ?_)
  refine OW.nil ?_
  refine CW.condM (t := (a0.length : Int) != (a1.length : Int)) rfl hm (fun hb5 hm => ?_) (fun hb5 hm => ?_)
  · refine CW.seq ?_
    refine CW.regionL ?_
    refine OW.cons (OP.val (v := (.bool false)) rfl (x_assign) ?_)
    refine OW.nil ?_
    refine CW.ret ?_
    obtain rfl := Option.some.inj hm
    exact RR1 rfl rfl ⟨rfl, hL.fresh 0 rfl [] (by decide) (by decide) rfl⟩
  · refine CW.skip ?_
    refine CW.seq ?_
    refine CW.seq ?_
    refine CW.regionL ?_
    refine OW.cons (OP.val (v := (.int .i64 0)) rfl (x_assign) ?_)
    refine OW.nil ?_
    obtain ⟨o46, ho47, hm⟩ := bndE hm
    refine CW.loopB (fun (s_l1 : Int) (F : Fr) (w : World) => F 0 = v1 ∧ F 1 = v3 ∧ F 5 = (.int .i64 s_l1) ∧ Hp w0 [Ent.snap w0 w0.heap.size] w) (fun o => outc o (fun x => some x) (fun s => M.laws_eqPenaltyS_a1 s) = some r) ho47 hm ⟨rfl, rfl, rfl, hL⟩ ?_ ?_
    · intro s_l1 F48 wd49 hJ hm
      have hm := outcE hm
      have hm : M.laws_eqPenaltyS_a1 s_l1 = some r := hm
      unfold M.laws_eqPenaltyS_a1 at hm
      obtain ⟨f50, f51, f52, hL⟩ := hJ
      refine CW.seq ?_
      refine CW.regionL ?_
      refine OW.cons (OP.val (v := (.bool true)) rfl (x_assign) ?_)
      refine OW.nil ?_
      refine CW.ret ?_
      obtain rfl := Option.some.inj hm
      exact RR1 rfl rfl ⟨rfl, hL.fresh 0 rfl [] (by decide) (by decide) rfl⟩
    · intro s_l1 F53 wd54 t44 hJ hm hr45
      unfold M.laws_eqPenaltyS_l1 at hm
      obtain ⟨f55, f56, f57, hL⟩ := hJ
      refine CW.seq ?_
      refine CW.seq ?_
      refine CW.regionL ?_
      refine OW.cons (OP.val (v := (.int .i64 s_l1)) rfl (x_mv f57) ?_)
      refine OW.cons (OP.val (v := v1) rfl (x_mv f55) ?_)
      refine OW.cons (OP.val (v := (.int .i64 (a0.length : Int))) rfl (x_lenR Try.underlying33 rfl (hL.rdS 0 rfl h2)) ?_)
      refine OW.cons (OP.val (v := (.bool (decide (s_l1 < (a0.length : Int))))) rfl (x_lss rfl rfl) ?_)
      refine OW.nil ?_
      refine CW.condM (t := decide (s_l1 < (a0.length : Int))) rfl hm (fun hb58 hm => ?_) (fun hb58 hm => ?_)
      · refine CW.skip ?_
        refine CW.seq ?_
        refine CW.block ?_
        refine CW.seq ?_
        refine CW.draw Try_mixed ?_
        have hL := hL.call (Mod.drew _)
        refine DW.pre (fuel := 0) (fin := (((((((((((Array.replicate 10 false).setIfInBounds 0 true).setIfInBounds 1 true).setIfInBounds 2 true).setIfInBounds 3 true).setIfInBounds 4 true).setIfInBounds 5 true).setIfInBounds 6 true).setIfInBounds 7 true).setIfInBounds 8 true).setIfInBounds 9 true)) (C := fun w' => Mod None_ _ w') [0, 1, 2, 3, 4, 5, 6, 7, 8, 9] (Mod.refl _ _) (by kernel_rfl) (by kernel_rfl) ?_
        refine QW.cons rfl (QP.val (v := v1) rfl (fun w' hm' => x_mv f55) ?_)
        refine QW.cons rfl (QP.val (v := (.int .i64 s_l1)) rfl (fun w' hm' => x_mv f57) ?_)
        obtain ⟨x59, ha60, hm⟩ := bndE hm
        obtain ⟨hz61, ha65⟩ := idxE ha60
        obtain ⟨b62, q63, hix64⟩ := rdL_ix (hL.rdS 0 rfl h2) hz61 ha65
        refine QW.cons rfl (QP.val (v := (.pointer (some ⟨b62, q63, none⟩))) rfl (fun w' hm' => x_ix Try.underlying33 Try_T48 rfl rfl hix64) ?_)
        refine QW.cons rfl (QP.val (v := (.agg #[(.int .i64 x59.Race), (.int .i64 x59.Boat), (.int .i64 x59.Kind), (.int .i64 x59.Value)])) rfl (fun w' hm' => x_loadN (cs := [(.int .i64 x59.Race), (.int .i64 x59.Boat), (.int .i64 x59.Kind), (.int .i64 x59.Value)]) Try.underlying48 Try_T48 rfl rfl (rdF_cells ((hL.call hm').rdS 0 rfl h2) hix64 ha65)) ?_)
        refine QW.cons rfl (QP.val (v := v3) rfl (fun w' hm' => x_mv f56) ?_)
        refine QW.cons rfl (QP.val (v := (.int .i64 s_l1)) rfl (fun w' hm' => x_mv f57) ?_)
        obtain ⟨x66, ha67, hm⟩ := bndE hm
        obtain ⟨hz68, ha72⟩ := idxE ha67
        obtain ⟨b69, q70, hix71⟩ := rdL_ix (hL.rdS 0 rfl h4) hz68 ha72
        refine QW.cons rfl (QP.val (v := (.pointer (some ⟨b69, q70, none⟩))) rfl (fun w' hm' => x_ix Try.underlying33 Try_T48 rfl rfl hix71) ?_)
        refine QW.cons rfl (QP.val (v := (.agg #[(.int .i64 x66.Race), (.int .i64 x66.Boat), (.int .i64 x66.Kind), (.int .i64 x66.Value)])) rfl (fun w' hm' => x_loadN (cs := [(.int .i64 x66.Race), (.int .i64 x66.Boat), (.int .i64 x66.Kind), (.int .i64 x66.Value)]) Try.underlying48 Try_T48 rfl rfl (rdF_cells ((hL.call hm').rdS 0 rfl h4) hix71 ha72)) ?_)
        obtain ⟨x73, hx74, hm⟩ := bndE hm
        refine QW.cons rfl (QP.call (v := (.bool x73)) rfl (fun w' hm' => x_call (vs := [(.agg #[(.int .i64 x59.Race), (.int .i64 x59.Boat), (.int .i64 x59.Kind), (.int .i64 x59.Value)]), (.agg #[(.int .i64 x66.Race), (.int .i64 x66.Boat), (.int .i64 x66.Kind), (.int .i64 x66.Value)])]) Try_C40 ⟨rfl, rfl, trivial⟩) (fun w' hm' => (M.laws_eqPenalty_ok w' x59 x66 hx74).mono (fun e w'' h => ⟨h.1, hm'.trans h.2.mod⟩)) ?_)
        refine QW.cons rfl (QP.val (v := (.bool (!x73))) rfl (fun w' hm' => x_not rfl) ?_)
        refine QW.nil ?_
        intro wd75 hmod
        have hL := hL.call hmod
        refine DW.done (by kernel_rfl) ?_
        refine CW.condM (t := !x73) rfl hm (fun hb76 hm => ?_) (fun hb76 hm => ?_)
        · refine CW.seq ?_
          refine CW.regionL ?_
          refine OW.cons (OP.val (v := (.bool false)) rfl (x_assign) ?_)
          refine OW.nil ?_
          refine CW.ret ?_
          obtain rfl := Option.some.inj hm
          have hm := hr45 _ rfl
          obtain rfl := Option.some.inj hm
          exact RR1 rfl rfl ⟨rfl, hL.fresh 0 rfl [] (by decide) (by decide) rfl⟩
        · refine CW.skip ?_
          refine CW.regionL ?_
          refine OW.cons (OP.val (v := (.int .i64 s_l1)) rfl (x_mv f57) ?_)
          refine OW.cons (OP.val (v := (.int .i64 (w64 (s_l1 + 1)))) rfl (x_add rfl rfl) ?_)
          refine OW.cons (OP.val (v := (.int .i64 (w64 (s_l1 + 1)))) rfl (x_assign) ?_)
          refine OW.nil ?_
          obtain rfl := Option.some.inj hm
          exact ⟨_, rfl, ⟨f55, f56, rfl, hL⟩⟩
      · refine CW.exit ?_
        refine XJ.hit ?_
        obtain rfl := Option.some.inj hm
        exact ⟨_, rfl, ⟨f55, f56, f57, hL⟩⟩

theorem M.impl_penaltyCode_ok (w0 : World) (a0 : Series) {v1 : Value} (h2 : rdL (· < w0.heap.size) w0 v1 a0.Races) (a1 : List Penalty) {v3 : Value} (h4 : rdL (· < w0.heap.size) w0 v3 a1) {r : Int} (hm : M.impl_penaltyCode a0 a1 = some r) :
    Calls Try.prog 43 #[(.agg #[(.int .i64 a0.Boats), (.int .i64 a0.Scheme), v1]), v3] w0 fun e w' => e = .returned (.int .i64 r) ∧ Fresh w0 w' [] := by
  unfold M.impl_penaltyCode at hm
  refine calls_CW (args := [(.agg #[(.int .i64 a0.Boats), (.int .i64 a0.Scheme), v1]), v3]) Try.func43 rfl rfl rfl ?_
  have hL := Hp.start w0
  refine CW.seq ?_
  refine CW.regionL ?_
  refine OW.cons (S_box (cs := #[(.int .i64 a0.Boats), (.int .i64 a0.Scheme), v1]) hL rfl rfl rfl ?_)
  intro wd5 b6 hL
  refine OW.cons (OP.val (v := (.int .i64 0)) rfl (x_assign) ?_)
  refine OW.nil ?_
  refine CW.seq ?_
  refine CW.seq ?_
  refine CW.regionL ?_
  refine OW.cons (OP.val (v := (.agg #[(.int .i64 a0.Boats), (.int .i64 a0.Scheme), v1])) rfl (x_loadN (cs := [(.int .i64 a0.Boats), (.int .i64 a0.Scheme), v1]) Try.underlying31 Try_T31 rfl rfl (hL.cellsB 0 rfl (o := 0) (l := [(.int .i64 a0.Boats), (.int .i64 a0.Scheme), v1]) (by intro j u hj; exact (by simpa using hj)))) ?_)
  obtain ⟨x7, hx8, hm⟩ := bndE hm
  refine OW.cons (OP.call rfl (x_call (vs := [(.agg #[(.int .i64 a0.Boats), (.int .i64 a0.Scheme), v1])]) Try_C21 ⟨rfl, trivial⟩) (M.impl_IsSeries_ok _ a0 (hL.rdS 1 rfl h2) hx8) ?_)
  rintro e9 wd10 ⟨rfl, hF11⟩
  refine ⟨_, rfl, ?_⟩
  have hL := hL.pushAll hF11
  simp only [List.cons_append, List.nil_append, List.set_cons_zero, List.set_cons_succ] at hL
  refine OW.cons (OP.val (v := (.bool (!x7))) rfl (x_not rfl) ?_)
  refine OW.nil ?_
  refine CW.condM (t := !x7) rfl hm (fun hb12 hm => ?_) (fun hb12 hm => ?_)
  · refine CW.seq ?_
    refine CW.regionL ?_
    refine OW.cons (OP.val (v := (.int .i64 1)) rfl (x_assign) ?_)
    refine OW.nil ?_
    refine CW.ret ?_
    obtain rfl := Option.some.inj hm
    exact RR1 rfl rfl ⟨rfl, hL.fresh 1 rfl [] (by decide) (by decide) rfl⟩
  · refine CW.skip ?_
    refine CW.seq ?_
    refine CW.seq ?_
    refine CW.regionL ?_
    refine OW.cons (OP.val (v := (.agg #[(.int .i64 a0.Boats), (.int .i64 a0.Scheme), v1])) rfl (x_loadN (cs := [(.int .i64 a0.Boats), (.int .i64 a0.Scheme), v1]) Try.underlying31 Try_T31 rfl rfl (hL.cellsB 0 rfl (o := 0) (l := [(.int .i64 a0.Boats), (.int .i64 a0.Scheme), v1]) (by intro j u hj; exact (by simpa using hj)))) ?_)
    refine OW.cons (OP.val (v := v3) rfl (x_move) ?_)
    obtain ⟨x13, hx14, hm⟩ := bndE hm
    refine OW.cons (OP.call rfl (x_call (vs := [(.agg #[(.int .i64 a0.Boats), (.int .i64 a0.Scheme), v1]), v3]) Try_C38 ⟨rfl, rfl, trivial⟩) (M.impl_arePenalties_ok _ a0 (hL.rdS 1 rfl h2) a1 (hL.rdS 1 rfl h4) hx14) ?_)
    rintro e15 wd16 ⟨rfl, hF17⟩
    refine ⟨_, rfl, ?_⟩
    have hL := hL.pushAll hF17
    simp only [List.cons_append, List.nil_append, List.set_cons_zero, List.set_cons_succ] at hL
    refine OW.cons (OP.val (v := (.bool (!x13))) rfl (x_not rfl) ?_)
    refine OW.nil ?_
    refine CW.condM (t := !x13) rfl hm (fun hb18 hm => ?_) (fun hb18 hm => ?_)
    · refine CW.seq ?_
      refine CW.regionL ?_
      refine OW.cons (OP.val (v := (.int .i64 2)) rfl (x_assign) ?_)
      refine OW.nil ?_
      refine CW.ret ?_
      obtain rfl := Option.some.inj hm
      exact RR1 rfl rfl ⟨rfl, hL.fresh 1 rfl [] (by decide) (by decide) rfl⟩
    · refine CW.skip ?_
      refine CW.seq ?_
      refine CW.regionL ?_
      refine OW.cons (OP.val (v := (.int .i64 0)) rfl (x_assign) ?_)
      refine OW.nil ?_
      refine CW.ret ?_
      obtain rfl := Option.some.inj hm
      exact RR1 rfl rfl ⟨rfl, hL.fresh 1 rfl [] (by decide) (by decide) rfl⟩

end Go.Proofs.Ytgelmamcinlahaa
