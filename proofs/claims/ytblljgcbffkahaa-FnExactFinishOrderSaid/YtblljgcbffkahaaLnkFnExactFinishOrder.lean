/- Links: each Go function returns what its model computes and leaves what was there. Printed by my generator. -/
import Derived.Test.YtblljgcbffkahaaMod2
import Derived.Test.YtblljgcbffkahaaProg
import Derived.KernelRfl
namespace Go.Proofs.Ytblljgcbffkahaa
set_option maxRecDepth 10000
open Go Go.RowKit Go.ChangeShapes Go.WideShapes
set_option linter.unusedVariables false
set_option linter.unusedSimpArgs false

theorem Try_mixed : Try.prog.follows .mixedOrders = true := by kernel_rfl
theorem Try_T2 : TyI Try.prog 2 1 8 (.int .i64 0) := by unfold TyI; kernel_rfl
theorem Try_T3 : TyI Try.prog 3 1 8 (.int .i64 0) := by unfold TyI; kernel_rfl
theorem Try_T5 : TyI Try.prog 5 1 1 (.int .u8 0) := by unfold TyI; kernel_rfl
theorem Try_T22 : TyI Try.prog 22 1 24 (.slice none 0 0) := by unfold TyI; kernel_rfl
theorem Try_T24 : TyI Try.prog 24 1 24 (.agg #[.slice none 0 0]) := by unfold TyI; kernel_rfl
theorem Try_T27 : TyI Try.prog 27 1 24 (.slice none 0 0) := by unfold TyI; kernel_rfl
theorem Try_T29 : TyI Try.prog 29 1 24 (.agg #[.slice none 0 0]) := by unfold TyI; kernel_rfl
theorem Try_T33 : TyI Try.prog 33 1 24 (.slice none 0 0) := by unfold TyI; kernel_rfl
theorem Try_T35 : TyI Try.prog 35 3 56 (.agg #[.int .i64 0, .slice none 0 0, .slice none 0 0]) := by unfold TyI; kernel_rfl
theorem Try_T38 : TyI Try.prog 38 3 56 (.agg #[.int .i64 0, .slice none 0 0, .slice none 0 0]) := by unfold TyI; kernel_rfl
theorem Try_T42 : TyI Try.prog 42 1 24 (.slice none 0 0) := by unfold TyI; kernel_rfl
theorem Try_T44 : TyI Try.prog 44 3 40 (.agg #[.int .i64 0, .int .i64 0, .slice none 0 0]) := by unfold TyI; kernel_rfl
theorem Try_T47 : TyI Try.prog 47 1 24 (.slice none 0 0) := by unfold TyI; kernel_rfl
theorem Try_T49 : TyI Try.prog 49 3 40 (.agg #[.int .i64 0, .int .i64 0, .slice none 0 0]) := by unfold TyI; kernel_rfl
theorem Try_T53 : TyI Try.prog 53 1 24 (.slice none 0 0) := by unfold TyI; kernel_rfl
theorem Try_T59 : TyI Try.prog 59 1 24 (.slice none 0 0) := by unfold TyI; kernel_rfl
theorem Try_T88 : TyI Try.prog 88 3 24 (.agg #[.int .i64 0, .int .i64 0, .int .i64 0]) := by unfold TyI; kernel_rfl
theorem Try_T105 : TyI Try.prog 105 3 24 (.agg #[.int .i64 0, .int .i64 0, .int .i64 0]) := by unfold TyI; kernel_rfl
theorem Try_B29 : BuildI Try.prog 29 [(0, 1)] #[.slice none 0 0] := by unfold BuildI; kernel_rfl
theorem Try_B38 : BuildI Try.prog 38 [(0, 1), (1, 1), (2, 1)] #[.int .i64 0, .slice none 0 0, .slice none 0 0] := by unfold BuildI; kernel_rfl
theorem Try_B49 : BuildI Try.prog 49 [(0, 1), (1, 1), (2, 1)] #[.int .i64 0, .int .i64 0, .slice none 0 0] := by unfold BuildI; kernel_rfl
theorem Try_B88 : BuildI Try.prog 88 [(0, 1), (1, 1), (2, 1)] #[.int .i64 0, .int .i64 0, .int .i64 0] := by unfold BuildI; kernel_rfl
theorem Try_B111 : BuildI Try.prog 111 [(0, 1), (1, 1), (2, 1)] #[.slice none 0 0, .int .i64 0, .int .i64 0] := by unfold BuildI; kernel_rfl
theorem Try_C13 : CallOK Try.prog 13 := ⟨_, _, Try.func13, rfl, by kernel_rfl⟩
theorem Try_C14 : CallOK Try.prog 14 := ⟨_, _, Try.func14, rfl, by kernel_rfl⟩
theorem Try_C15 : CallOK Try.prog 15 := ⟨_, _, Try.func15, rfl, by kernel_rfl⟩
theorem Try_C16 : CallOK Try.prog 16 := ⟨_, _, Try.func16, rfl, by kernel_rfl⟩
theorem Try_C17 : CallOK Try.prog 17 := ⟨_, _, Try.func17, rfl, by kernel_rfl⟩
theorem Try_C18 : CallOK Try.prog 18 := ⟨_, _, Try.func18, rfl, by kernel_rfl⟩
theorem Try_C19 : CallOK Try.prog 19 := ⟨_, _, Try.func19, rfl, by kernel_rfl⟩
theorem Try_C20 : CallOK Try.prog 20 := ⟨_, _, Try.func20, rfl, by kernel_rfl⟩
theorem Try_C21 : CallOK Try.prog 21 := ⟨_, _, Try.func21, rfl, by kernel_rfl⟩
theorem Try_C22 : CallOK Try.prog 22 := ⟨_, _, Try.func22, rfl, by kernel_rfl⟩
theorem Try_C23 : CallOK Try.prog 23 := ⟨_, _, Try.func23, rfl, by kernel_rfl⟩
theorem Try_C24 : CallOK Try.prog 24 := ⟨_, _, Try.func24, rfl, by kernel_rfl⟩
theorem Try_C25 : CallOK Try.prog 25 := ⟨_, _, Try.func25, rfl, by kernel_rfl⟩
theorem Try_C26 : CallOK Try.prog 26 := ⟨_, _, Try.func26, rfl, by kernel_rfl⟩
theorem Try_C27 : CallOK Try.prog 27 := ⟨_, _, Try.func27, rfl, by kernel_rfl⟩
theorem Try_C28 : CallOK Try.prog 28 := ⟨_, _, Try.func28, rfl, by kernel_rfl⟩
theorem Try_C29 : CallOK Try.prog 29 := ⟨_, _, Try.func29, rfl, by kernel_rfl⟩
theorem Try_C30 : CallOK Try.prog 30 := ⟨_, _, Try.func30, rfl, by kernel_rfl⟩
theorem Try_C31 : CallOK Try.prog 31 := ⟨_, _, Try.func31, rfl, by kernel_rfl⟩
theorem Try_C32 : CallOK Try.prog 32 := ⟨_, _, Try.func32, rfl, by kernel_rfl⟩
theorem Try_C33 : CallOK Try.prog 33 := ⟨_, _, Try.func33, rfl, by kernel_rfl⟩
theorem Try_C34 : CallOK Try.prog 34 := ⟨_, _, Try.func34, rfl, by kernel_rfl⟩
theorem Try_C35 : CallOK Try.prog 35 := ⟨_, _, Try.func35, rfl, by kernel_rfl⟩
theorem Try_C36 : CallOK Try.prog 36 := ⟨_, _, Try.func36, rfl, by kernel_rfl⟩
theorem Try_C37 : CallOK Try.prog 37 := ⟨_, _, Try.func37, rfl, by kernel_rfl⟩
theorem Try_C38 : CallOK Try.prog 38 := ⟨_, _, Try.func38, rfl, by kernel_rfl⟩
theorem Try_C39 : CallOK Try.prog 39 := ⟨_, _, Try.func39, rfl, by kernel_rfl⟩
theorem Try_C40 : CallOK Try.prog 40 := ⟨_, _, Try.func40, rfl, by kernel_rfl⟩
theorem Try_C41 : CallOK Try.prog 41 := ⟨_, _, Try.func41, rfl, by kernel_rfl⟩
theorem Try_C42 : CallOK Try.prog 42 := ⟨_, _, Try.func42, rfl, by kernel_rfl⟩
theorem Try_C43 : CallOK Try.prog 43 := ⟨_, _, Try.func43, rfl, by kernel_rfl⟩
theorem Try_C44 : CallOK Try.prog 44 := ⟨_, _, Try.func44, rfl, by kernel_rfl⟩
theorem Try_C45 : CallOK Try.prog 45 := ⟨_, _, Try.func45, rfl, by kernel_rfl⟩
theorem Try_C46 : CallOK Try.prog 46 := ⟨_, _, Try.func46, rfl, by kernel_rfl⟩
theorem Try_C47 : CallOK Try.prog 47 := ⟨_, _, Try.func47, rfl, by kernel_rfl⟩
theorem Try_C48 : CallOK Try.prog 48 := ⟨_, _, Try.func48, rfl, by kernel_rfl⟩
theorem Try_C49 : CallOK Try.prog 49 := ⟨_, _, Try.func49, rfl, by kernel_rfl⟩
theorem Try_C50 : CallOK Try.prog 50 := ⟨_, _, Try.func50, rfl, by kernel_rfl⟩
theorem Try_C51 : CallOK Try.prog 51 := ⟨_, _, Try.func51, rfl, by kernel_rfl⟩
theorem Try_C52 : CallOK Try.prog 52 := ⟨_, _, Try.func52, rfl, by kernel_rfl⟩
theorem Try_C53 : CallOK Try.prog 53 := ⟨_, _, Try.func53, rfl, by kernel_rfl⟩
theorem Try_C54 : CallOK Try.prog 54 := ⟨_, _, Try.func54, rfl, by kernel_rfl⟩
theorem Try_C55 : CallOK Try.prog 55 := ⟨_, _, Try.func55, rfl, by kernel_rfl⟩
theorem Try_C56 : CallOK Try.prog 56 := ⟨_, _, Try.func56, rfl, by kernel_rfl⟩
theorem Try_C57 : CallOK Try.prog 57 := ⟨_, _, Try.func57, rfl, by kernel_rfl⟩
theorem Try_C58 : CallOK Try.prog 58 := ⟨_, _, Try.func58, rfl, by kernel_rfl⟩
theorem Try_C59 : CallOK Try.prog 59 := ⟨_, _, Try.func59, rfl, by kernel_rfl⟩
theorem Try_C60 : CallOK Try.prog 60 := ⟨_, _, Try.func60, rfl, by kernel_rfl⟩
theorem Try_C61 : CallOK Try.prog 61 := ⟨_, _, Try.func61, rfl, by kernel_rfl⟩
theorem Try_C62 : CallOK Try.prog 62 := ⟨_, _, Try.func62, rfl, by kernel_rfl⟩
theorem Try_C63 : CallOK Try.prog 63 := ⟨_, _, Try.func63, rfl, by kernel_rfl⟩
theorem Try_C64 : CallOK Try.prog 64 := ⟨_, _, Try.func64, rfl, by kernel_rfl⟩
theorem Try_C65 : CallOK Try.prog 65 := ⟨_, _, Try.func65, rfl, by kernel_rfl⟩
theorem Try_C66 : CallOK Try.prog 66 := ⟨_, _, Try.func66, rfl, by kernel_rfl⟩
theorem Try_C67 : CallOK Try.prog 67 := ⟨_, _, Try.func67, rfl, by kernel_rfl⟩
theorem Try_C68 : CallOK Try.prog 68 := ⟨_, _, Try.func68, rfl, by kernel_rfl⟩
theorem Try_C69 : CallOK Try.prog 69 := ⟨_, _, Try.func69, rfl, by kernel_rfl⟩
theorem Try_C70 : CallOK Try.prog 70 := ⟨_, _, Try.func70, rfl, by kernel_rfl⟩
theorem Try_C71 : CallOK Try.prog 71 := ⟨_, _, Try.func71, rfl, by kernel_rfl⟩
theorem Try_C72 : CallOK Try.prog 72 := ⟨_, _, Try.func72, rfl, by kernel_rfl⟩
theorem Try_C73 : CallOK Try.prog 73 := ⟨_, _, Try.func73, rfl, by kernel_rfl⟩
theorem Try_C74 : CallOK Try.prog 74 := ⟨_, _, Try.func74, rfl, by kernel_rfl⟩
theorem Try_C75 : CallOK Try.prog 75 := ⟨_, _, Try.func75, rfl, by kernel_rfl⟩
theorem Try_C76 : CallOK Try.prog 76 := ⟨_, _, Try.func76, rfl, by kernel_rfl⟩
theorem Try_C77 : CallOK Try.prog 77 := ⟨_, _, Try.func77, rfl, by kernel_rfl⟩
theorem Try_C78 : CallOK Try.prog 78 := ⟨_, _, Try.func78, rfl, by kernel_rfl⟩
theorem Try_C79 : CallOK Try.prog 79 := ⟨_, _, Try.func79, rfl, by kernel_rfl⟩
theorem Try_C80 : CallOK Try.prog 80 := ⟨_, _, Try.func80, rfl, by kernel_rfl⟩
theorem Try_C81 : CallOK Try.prog 81 := ⟨_, _, Try.func81, rfl, by kernel_rfl⟩
theorem Try_C82 : CallOK Try.prog 82 := ⟨_, _, Try.func82, rfl, by kernel_rfl⟩
theorem Try_C83 : CallOK Try.prog 83 := ⟨_, _, Try.func83, rfl, by kernel_rfl⟩
theorem Try_C84 : CallOK Try.prog 84 := ⟨_, _, Try.func84, rfl, by kernel_rfl⟩
theorem Try_C85 : CallOK Try.prog 85 := ⟨_, _, Try.func85, rfl, by kernel_rfl⟩
theorem Try_C86 : CallOK Try.prog 86 := ⟨_, _, Try.func86, rfl, by kernel_rfl⟩
theorem Try_C87 : CallOK Try.prog 87 := ⟨_, _, Try.func87, rfl, by kernel_rfl⟩
theorem Try_C88 : CallOK Try.prog 88 := ⟨_, _, Try.func88, rfl, by kernel_rfl⟩
theorem Try_C89 : CallOK Try.prog 89 := ⟨_, _, Try.func89, rfl, by kernel_rfl⟩
theorem Try_C90 : CallOK Try.prog 90 := ⟨_, _, Try.func90, rfl, by kernel_rfl⟩
theorem Try_C91 : CallOK Try.prog 91 := ⟨_, _, Try.func91, rfl, by kernel_rfl⟩
theorem Try_C92 : CallOK Try.prog 92 := ⟨_, _, Try.func92, rfl, by kernel_rfl⟩
theorem Try_C93 : CallOK Try.prog 93 := ⟨_, _, Try.func93, rfl, by kernel_rfl⟩
theorem Try_C94 : CallOK Try.prog 94 := ⟨_, _, Try.func94, rfl, by kernel_rfl⟩
theorem Try_C95 : CallOK Try.prog 95 := ⟨_, _, Try.func95, rfl, by kernel_rfl⟩
theorem Try_C96 : CallOK Try.prog 96 := ⟨_, _, Try.func96, rfl, by kernel_rfl⟩
theorem Try_C97 : CallOK Try.prog 97 := ⟨_, _, Try.func97, rfl, by kernel_rfl⟩

theorem M.laws_szFinishS_ok (w0 : World) (a0 : List Finish) {v1 : Value} (h2 : rdL (· < w0.heap.size) w0 v1 a0) (a1 : Int) {r : Int} (hm : M.laws_szFinishS a0 a1 = some r) :
    Calls Try.prog 50 #[v1, (.int .i64 a1)] w0 fun e w' => e = .returned (.int .i64 r) ∧ Fresh w0 w' [] := by
  unfold M.laws_szFinishS at hm
  refine calls_CW (args := [v1, (.int .i64 a1)]) Try.func50 rfl rfl rfl ?_
  have hL := Hp.start w0
  refine CW.seq ?_
  refine CW.regionL ?_
  refine OW.cons (OP.val (v := (.int .i64 0)) rfl (x_assign) ?_)
  refine OW.nil ?_
  refine CW.seq ?_
  refine CW.regionL ?_
  refine OW.cons (OP.val (v := (.int .i64 a1)) rfl (x_move) ?_)
  refine OW.cons (OP.val (v := v1) rfl (x_move) ?_)
  refine OW.cons (OP.val (v := (.int .i64 (a0.length : Int))) rfl (x_lenR Try.underlying22 rfl (hL.rdS 0 rfl h2)) ?_)
  refine OW.cons (OP.val (v := (.int .i64 (w64 (a1 - (a0.length : Int))))) rfl (x_sub rfl rfl) ?_)
  refine OW.cons (OP.val (v := (.int .i64 (w64 (a1 - (a0.length : Int))))) rfl (x_assign) ?_)
  refine OW.nil ?_
  refine CW.seq ?_
  refine CW.seq ?_
  refine CW.regionL ?_
  refine OW.cons (OP.val (v := (.int .i64 (w64 (a1 - (a0.length : Int))))) rfl (x_move) ?_)
  refine OW.cons (OP.val (v := (.bool (decide ((w64 (a1 - (a0.length : Int))) < 0)))) rfl (x_lss rfl rfl) ?_)
  refine OW.nil ?_
  refine CW.condM (t := decide ((w64 (a1 - (a0.length : Int))) < 0)) rfl hm (fun hb3 hm => ?_) (fun hb3 hm => ?_)
  · refine CW.seq ?_
    refine CW.regionL ?_
    refine OW.cons (OP.val (v := (.int .i64 (-1))) rfl (x_assign) ?_)
    refine OW.nil ?_
    refine CW.ret ?_
    obtain rfl := Option.some.inj hm
    exact RR1 rfl rfl ⟨rfl, hL.fresh 0 rfl [] (by decide) (by decide) rfl⟩
  · refine CW.skip ?_
    refine CW.seq ?_
    refine CW.regionL ?_
    refine OW.cons (OP.val (v := (.int .i64 (w64 (a1 - (a0.length : Int))))) rfl (x_move) ?_)
    refine OW.cons (OP.val (v := (.int .i64 (w64 (a1 - (a0.length : Int))))) rfl (x_assign) ?_)
    refine OW.nil ?_
    refine CW.ret ?_
    obtain rfl := Option.some.inj hm
    exact RR1 rfl rfl ⟨rfl, hL.fresh 0 rfl [] (by decide) (by decide) rfl⟩

theorem M.laws_szRace_ok (w0 : World) (a0 : Race) {v1 : Value} (h2 : rdL (· < w0.heap.size) w0 v1 a0.Finishes) (a1 : Int) {r : Int} (hm : M.laws_szRace a0 a1 = some r) :
    Calls Try.prog 13 #[(.agg #[v1]), (.int .i64 a1)] w0 fun e w' => e = .returned (.int .i64 r) ∧ Fresh w0 w' [] := by
  unfold M.laws_szRace at hm
  refine calls_CW (args := [(.agg #[v1]), (.int .i64 a1)]) Try.func13 rfl rfl rfl ?_
  have hL := Hp.start w0
  refine CW.seq ?_
  refine CW.regionL ?_
  refine OW.cons (S_box (cs := #[v1]) hL rfl rfl rfl ?_)
  intro wd3 b4 hL
  refine OW.cons (OP.val (v := (.int .i64 0)) rfl (x_assign) ?_)
  refine OW.nil ?_
  refine CW.seq ?_
  refine CW.regionL ?_
  refine OW.cons (OP.val (v := (.pointer (some ⟨b4, 0, none⟩))) rfl (x_fieldAddr (fsz := 1) 0 0 0 Try.underlying24 rfl Try_T22 rfl rfl rfl) ?_)
  refine OW.cons (OP.val (v := v1) rfl (x_load1 Try.underlying22 rfl rfl (hL.cellB 0 rfl rfl)) ?_)
  refine OW.cons (OP.val (v := (.int .i64 a1)) rfl (x_move) ?_)
  obtain ⟨x5, hx6, hm⟩ := bndE hm
  refine OW.cons (OP.call rfl (x_call (vs := [v1, (.int .i64 a1)]) Try_C50 ⟨rfl, rfl, trivial⟩) (M.laws_szFinishS_ok _ a0.Finishes (hL.rdS 1 rfl h2) a1 hx6) ?_)
  rintro e7 wd8 ⟨rfl, hF9⟩
  refine ⟨_, rfl, ?_⟩
  have hL := hL.pushAll hF9
  simp only [List.cons_append, List.nil_append, List.set_cons_zero, List.set_cons_succ] at hL
  refine OW.cons (OP.val (v := (.int .i64 x5)) rfl (x_assign) ?_)
  refine OW.nil ?_
  refine CW.seq ?_
  refine CW.seq ?_
  refine CW.regionL ?_
  refine OW.cons (OP.val (v := (.int .i64 x5)) rfl (x_move) ?_)
  refine OW.cons (OP.val (v := (.bool (decide (x5 < 0)))) rfl (x_lss rfl rfl) ?_)
  refine OW.nil ?_
  refine CW.condM (t := decide (x5 < 0)) rfl hm (fun hb10 hm => ?_) (fun hb10 hm => ?_)
  · refine CW.seq ?_
    refine CW.regionL ?_
    refine OW.cons (OP.val (v := (.int .i64 (-1))) rfl (x_assign) ?_)
    refine OW.nil ?_
    refine CW.ret ?_
    obtain rfl := Option.some.inj hm
    exact RR1 rfl rfl ⟨rfl, hL.fresh 1 rfl [] (by decide) (by decide) rfl⟩
  · refine CW.skip ?_
    refine CW.seq ?_
    refine CW.regionL ?_
    refine OW.cons (OP.val (v := (.int .i64 x5)) rfl (x_move) ?_)
    refine OW.cons (OP.val (v := (.int .i64 x5)) rfl (x_assign) ?_)
    refine OW.nil ?_
    refine CW.ret ?_
    obtain rfl := Option.some.inj hm
    exact RR1 rfl rfl ⟨rfl, hL.fresh 1 rfl [] (by decide) (by decide) rfl⟩

theorem M.laws_toFinish_ok (w0 : World) (a0 : Finish) {r : Finish} (hm : M.laws_toFinish a0 = some r) :
    Calls Try.prog 83 #[(.agg #[(.int .i64 a0.Boat), (.int .i64 a0.Code), (.int .i64 a0.Time)])] w0 fun e w' => e = .returned (.agg #[(.int .i64 r.Boat), (.int .i64 r.Code), (.int .i64 r.Time)]) ∧ Fresh w0 w' [] := by
  unfold M.laws_toFinish at hm
  refine calls_CW (args := [(.agg #[(.int .i64 a0.Boat), (.int .i64 a0.Code), (.int .i64 a0.Time)])]) Try.func83 rfl rfl rfl ?_
  have hL := Hp.start w0
  refine CW.seq ?_
  refine CW.regionL ?_
  refine OW.cons (S_box (cs := #[(.int .i64 a0.Boat), (.int .i64 a0.Code), (.int .i64 a0.Time)]) hL rfl rfl rfl ?_)
  intro wd1 b2 hL
  refine OW.cons (S_alloc (cs := #[(.int .i64 0), (.int .i64 0), (.int .i64 0)]) hL Try_T88 rfl rfl ?_)
  intro wd3 b4 hL
  refine OW.nil ?_
  refine CW.seq ?_
  refine CW.regionL ?_
  refine OW.cons (S_alloc (cs := #[(.int .i64 0), (.int .i64 0), (.int .i64 0)]) hL Try_T88 rfl rfl ?_)
  intro wd5 b6 hL
  refine OW.nil ?_
  refine CW.seq ?_
  refine CW.regionL ?_
  refine OW.cons (OP.val (v := (.pointer (some ⟨b2, 0, none⟩))) rfl (x_fieldAddr (fsz := 1) 0 0 0 Try.underlying105 rfl Try_T2 rfl rfl rfl) ?_)
  refine OW.cons (OP.val (v := (.int .i64 a0.Boat)) rfl (x_load1 Try.underlying2 rfl rfl (hL.cellB 2 rfl rfl)) ?_)
  refine OW.cons (OP.val (v := (.pointer (some ⟨b6, 0, none⟩))) rfl (x_fieldAddr (fsz := 1) 0 0 0 Try.underlying88 rfl Try_T2 rfl rfl rfl) ?_)
  refine OW.cons (S_store (cs' := #[(.int .i64 a0.Boat), (.int .i64 0), (.int .i64 0)]) hL 0 rfl Try_T2 rfl rfl rfl rfl rfl ?_)
  intro wd7 hL
  refine OW.nil ?_
  refine CW.seq ?_
  refine CW.regionL ?_
  refine OW.cons (OP.val (v := (.pointer (some ⟨b2, 1, none⟩))) rfl (x_fieldAddr (fsz := 1) 0 1 1 Try.underlying105 rfl Try_T2 rfl rfl rfl) ?_)
  refine OW.cons (OP.val (v := (.int .i64 a0.Code)) rfl (x_load1 Try.underlying2 rfl rfl (hL.cellB 2 rfl rfl)) ?_)
  refine OW.cons (OP.val (v := (.pointer (some ⟨b6, 1, none⟩))) rfl (x_fieldAddr (fsz := 1) 0 1 1 Try.underlying88 rfl Try_T2 rfl rfl rfl) ?_)
  refine OW.cons (S_store (cs' := #[(.int .i64 a0.Boat), (.int .i64 a0.Code), (.int .i64 0)]) hL 0 rfl Try_T2 rfl rfl rfl rfl rfl ?_)
  intro wd8 hL
  refine OW.nil ?_
  refine CW.seq ?_
  refine CW.regionL ?_
  refine OW.cons (OP.val (v := (.pointer (some ⟨b2, 2, none⟩))) rfl (x_fieldAddr (fsz := 1) 0 2 2 Try.underlying105 rfl Try_T2 rfl rfl rfl) ?_)
  refine OW.cons (OP.val (v := (.int .i64 a0.Time)) rfl (x_load1 Try.underlying2 rfl rfl (hL.cellB 2 rfl rfl)) ?_)
  refine OW.cons (OP.val (v := (.pointer (some ⟨b6, 2, none⟩))) rfl (x_fieldAddr (fsz := 1) 0 2 2 Try.underlying88 rfl Try_T2 rfl rfl rfl) ?_)
  refine OW.cons (S_store (cs' := #[(.int .i64 a0.Boat), (.int .i64 a0.Code), (.int .i64 a0.Time)]) hL 0 rfl Try_T2 rfl rfl rfl rfl rfl ?_)
  intro wd9 hL
  refine OW.nil ?_
  refine CW.seq ?_
  refine CW.regionL ?_
  refine OW.cons (OP.val (v := (.agg #[(.int .i64 a0.Boat), (.int .i64 a0.Code), (.int .i64 a0.Time)])) rfl (x_loadN (cs := [(.int .i64 a0.Boat), (.int .i64 a0.Code), (.int .i64 a0.Time)]) Try.underlying88 Try_T88 rfl rfl (hL.cellsB 0 rfl (o := 0) (l := [(.int .i64 a0.Boat), (.int .i64 a0.Code), (.int .i64 a0.Time)]) (by intro j u hj; exact (by simpa using hj)))) ?_)
  refine OW.cons (S_storeN (l := [(.int .i64 a0.Boat), (.int .i64 a0.Code), (.int .i64 a0.Time)]) (cs' := #[(.int .i64 a0.Boat), (.int .i64 a0.Code), (.int .i64 a0.Time)]) hL 1 rfl Try_T88 rfl rfl (List.forall_mem_cons.2 ⟨rfl, (List.forall_mem_cons.2 ⟨rfl, (List.forall_mem_cons.2 ⟨rfl, (fun _ h => by cases h)⟩)⟩)⟩) rfl (Nat.le_of_ble_eq_true rfl) rfl ?_)
  intro wd10 hL
  refine OW.nil ?_
  refine CW.ret ?_
  obtain rfl := Option.some.inj hm
  exact RRc rfl rfl (run_loadBlk Try.underlying88 Try_T88 (hL.get 1 rfl) rfl) ⟨rfl, hL.fresh 3 rfl [] (by decide) (by decide) rfl⟩

theorem M.laws_toFinishS_ok (w0 : World) (a0 : List Finish) {v1 : Value} (h2 : rdL (· < w0.heap.size) w0 v1 a0) {r : (List Finish)} (hm : M.laws_toFinishS a0 = some r) :
    Calls Try.prog 53 #[v1] w0 fun e w' => ∃ (rv0 : Value) (rS0 : Nat → Prop), e = .returned rv0 ∧ Fresh w0 w' [Ent.own 88 rS0 rv0 r] := by
  unfold M.laws_toFinishS at hm
  refine calls_CW (args := [v1]) Try.func53 rfl rfl rfl ?_
  have hL := Hp.start w0
  refine CW.seq ?_
  refine CW.regionL ?_
  refine OW.cons (OP.val (v := (.slice none 0 0)) rfl (x_assign) ?_)
  refine OW.nil ?_
  refine CW.seq ?_
  refine CW.regionL ?_
  refine OW.cons (OP.val (v := v1) rfl (x_move) ?_)
  refine OW.cons (OP.val (v := (.int .i64 (a0.length : Int))) rfl (x_lenR Try.underlying22 rfl (hL.rdS 0 rfl h2)) ?_)
  obtain ⟨hc6, hm⟩ := chkE hm
  refine OW.cons (S_make (α := Finish) (Finish.mk 0 0 0) hL Try.underlying27 Try_T88 rfl rfl rfl hc6 (by decide) rfl ?_)
  intro wd3 v4 S5 hL
  refine OW.cons (OP.val (v := v4) rfl (x_assign) ?_)
  refine OW.nil ?_
  refine CW.seq ?_
  refine CW.seq ?_
  refine CW.regionL ?_
  refine OW.cons (OP.val (v := (.int .i64 0)) rfl (x_assign) ?_)
  refine OW.nil ?_
  obtain ⟨o53, ho54, hm⟩ := bndE hm
  refine CW.loopB (fun (s_l1 : (List Finish) × Int) (F : Fr) (w : World) => ∃ (S50 : Nat → Prop), F 0 = v1 ∧ F 3 = v4 ∧ F 4 = (.int .i64 s_l1.2) ∧ Hp w0 [Ent.own 88 S50 v4 s_l1.1, Ent.snap w0 w0.heap.size] w) (fun o => outc o (fun x => some x) (fun s => M.laws_toFinishS_a1 s) = some r) ho54 hm ⟨S5, rfl, rfl, rfl, hL⟩ ?_ ?_
  · intro s_l1 F55 wd56 hJ hm
    have hm := outcE hm
    have hm : M.laws_toFinishS_a1 s_l1 = some r := hm
    unfold M.laws_toFinishS_a1 at hm
    obtain ⟨S50, f57, f58, f59, hL⟩ := hJ
    refine CW.seq ?_
    refine CW.regionL ?_
    refine OW.cons (OP.val (v := v4) rfl (x_mv f58) ?_)
    refine OW.cons (OP.val (v := v4) rfl (x_assign) ?_)
    refine OW.nil ?_
    refine CW.ret ?_
    obtain rfl := Option.some.inj hm
    exact RR1 rfl rfl ⟨v4, S50, rfl, hL.fresh 1 rfl [0] (by decide) (by decide) rfl⟩
  · intro s_l1 F60 wd61 t51 hJ hm hr52
    unfold M.laws_toFinishS_l1 at hm
    obtain ⟨S50, f62, f63, f64, hL⟩ := hJ
    refine CW.seq ?_
    refine CW.seq ?_
    refine CW.regionL ?_
    refine OW.cons (OP.val (v := (.int .i64 s_l1.2)) rfl (x_mv f64) ?_)
    refine OW.cons (OP.val (v := v1) rfl (x_mv f62) ?_)
    refine OW.cons (OP.val (v := (.int .i64 (a0.length : Int))) rfl (x_lenR Try.underlying22 rfl (hL.rdS 1 rfl h2)) ?_)
    refine OW.cons (OP.val (v := (.bool (decide (s_l1.2 < (a0.length : Int))))) rfl (x_lss rfl rfl) ?_)
    refine OW.nil ?_
    refine CW.condM (t := decide (s_l1.2 < (a0.length : Int))) rfl hm (fun hb65 hm => ?_) (fun hb65 hm => ?_)
    · refine CW.skip ?_
      refine CW.seq ?_
      refine CW.block ?_
      refine CW.regionL ?_
      refine OW.cons (OP.val (v := v4) rfl (x_mv f63) ?_)
      refine OW.cons (OP.val (v := (.int .i64 s_l1.2)) rfl (x_mv f64) ?_)
      refine OW.cons (OP.val (v := v1) rfl (x_mv f62) ?_)
      refine OW.cons (OP.val (v := (.int .i64 s_l1.2)) rfl (x_mv f64) ?_)
      obtain ⟨x66, ha67, hm⟩ := bndE hm
      obtain ⟨hz68, ha72⟩ := idxE ha67
      obtain ⟨b69, q70, hix71⟩ := rdL_ix (hL.rdS 1 rfl h2) hz68 ha72
      refine OW.cons (OP.val (v := (.pointer (some ⟨b69, q70, none⟩))) rfl (x_ix Try.underlying22 Try_T105 rfl rfl hix71) ?_)
      refine OW.cons (OP.val (v := (.agg #[(.int .i64 x66.Boat), (.int .i64 x66.Code), (.int .i64 x66.Time)])) rfl (x_loadN (cs := [(.int .i64 x66.Boat), (.int .i64 x66.Code), (.int .i64 x66.Time)]) Try.underlying105 Try_T105 rfl rfl (rdF_cells (hL.rdS 1 rfl h2) hix71 ha72)) ?_)
      obtain ⟨x73, hx74, hm⟩ := bndE hm
      refine OW.cons (OP.call rfl (x_call (vs := [(.agg #[(.int .i64 x66.Boat), (.int .i64 x66.Code), (.int .i64 x66.Time)])]) Try_C83 ⟨rfl, trivial⟩) (M.laws_toFinish_ok _ x66 hx74) ?_)
      rintro e75 wd76 ⟨rfl, hF77⟩
      refine ⟨_, rfl, ?_⟩
      have hL := hL.pushAll hF77
      simp only [List.cons_append, List.nil_append, List.set_cons_zero, List.set_cons_succ] at hL
      obtain ⟨x78, ha79, hm⟩ := bndE hm
      obtain ⟨hz80, ha84⟩ := idxE ha79
      obtain ⟨b81, q82, hix83⟩ := rdL_ix (hL.rdO 0 rfl) hz80 ha84
      refine OW.cons (OP.val (v := (.pointer (some ⟨b81, q82, none⟩))) rfl (x_ix Try.underlying27 Try_T88 rfl rfl hix83) ?_)
      refine OW.cons (S_storeXN (l := [(.int .i64 x73.Boat), (.int .i64 x73.Code), (.int .i64 x73.Time)]) x73 hL 0 rfl Try_T88 hix83 ha84 rfl rfl rfl ?_)
      intro wd85 hL
      refine OW.nil ?_
      refine CW.regionL ?_
      refine OW.cons (OP.val (v := (.int .i64 s_l1.2)) rfl (x_mv f64) ?_)
      refine OW.cons (OP.val (v := (.int .i64 (w64 (s_l1.2 + 1)))) rfl (x_add rfl rfl) ?_)
      refine OW.cons (OP.val (v := (.int .i64 (w64 (s_l1.2 + 1)))) rfl (x_assign) ?_)
      refine OW.nil ?_
      obtain rfl := Option.some.inj hm
      exact ⟨_, rfl, ⟨S50, f62, f63, rfl, hL⟩⟩
    · refine CW.exit ?_
      refine XJ.hit ?_
      obtain rfl := Option.some.inj hm
      exact ⟨_, rfl, ⟨S50, f62, f63, f64, hL⟩⟩

theorem M.laws_toRace_ok (w0 : World) (a0 : Race) {v1 : Value} (h2 : rdL (· < w0.heap.size) w0 v1 a0.Finishes) {r : Race} (hm : M.laws_toRace a0 = some r) :
    Calls Try.prog 15 #[(.agg #[v1])] w0 fun e w' => ∃ (rv0 : Value) (rS0 : Nat → Prop), e = .returned (.agg #[rv0]) ∧ Fresh w0 w' [Ent.own 88 rS0 rv0 r.Finishes] := by
  unfold M.laws_toRace at hm
  refine calls_CW (args := [(.agg #[v1])]) Try.func15 rfl rfl rfl ?_
  have hL := Hp.start w0
  refine CW.seq ?_
  refine CW.regionL ?_
  refine OW.cons (S_box (cs := #[v1]) hL rfl rfl rfl ?_)
  intro wd3 b4 hL
  refine OW.cons (S_alloc (cs := #[(.slice none 0 0)]) hL Try_T29 rfl rfl ?_)
  intro wd5 b6 hL
  refine OW.nil ?_
  refine CW.seq ?_
  refine CW.regionL ?_
  refine OW.cons (S_alloc (cs := #[(.slice none 0 0)]) hL Try_T29 rfl rfl ?_)
  intro wd7 b8 hL
  refine OW.nil ?_
  refine CW.seq ?_
  refine CW.regionL ?_
  refine OW.cons (OP.val (v := (.pointer (some ⟨b4, 0, none⟩))) rfl (x_fieldAddr (fsz := 1) 0 0 0 Try.underlying24 rfl Try_T22 rfl rfl rfl) ?_)
  refine OW.cons (OP.val (v := v1) rfl (x_load1 Try.underlying22 rfl rfl (hL.cellB 2 rfl rfl)) ?_)
  obtain ⟨x9, hx10, hm⟩ := bndE hm
  refine OW.cons (OP.call rfl (x_call (vs := [v1]) Try_C53 ⟨rfl, trivial⟩) (M.laws_toFinishS_ok _ a0.Finishes (hL.rdS 3 rfl h2) hx10) ?_)
  rintro e13 wd14 ⟨v12, S11, rfl, hF15⟩
  refine ⟨_, rfl, ?_⟩
  have hL := hL.pushAll hF15
  simp only [List.cons_append, List.nil_append, List.set_cons_zero, List.set_cons_succ] at hL
  refine OW.cons (OP.val (v := (.pointer (some ⟨b8, 0, none⟩))) rfl (x_fieldAddr (fsz := 1) 0 0 0 Try.underlying29 rfl Try_T27 rfl rfl rfl) ?_)
  refine OW.cons (S_store (cs' := #[v12]) hL 1 rfl Try_T27 rfl (rdL_one (hL.rdO 0 rfl)) rfl rfl rfl ?_)
  intro wd16 hL
  refine OW.nil ?_
  refine CW.seq ?_
  refine CW.regionL ?_
  refine OW.cons (OP.val (v := (.agg #[v12])) rfl (x_loadN (cs := [v12]) Try.underlying29 Try_T29 rfl rfl (hL.cellsB 1 rfl (o := 0) (l := [v12]) (by intro j u hj; exact (by simpa using hj)))) ?_)
  refine OW.cons (S_storeN (l := [v12]) (cs' := #[v12]) hL 2 rfl Try_T29 rfl rfl (List.forall_mem_cons.2 ⟨rdL_one (hL.rdO 0 rfl), (fun _ h => by cases h)⟩) rfl (Nat.le_of_ble_eq_true rfl) rfl ?_)
  intro wd17 hL
  refine OW.nil ?_
  refine CW.ret ?_
  obtain rfl := Option.some.inj hm
  exact RRc rfl rfl (run_loadBlk Try.underlying29 Try_T29 (hL.get 2 rfl) rfl) ⟨v12, S11, rfl, hL.fresh 4 rfl [0] (by decide) (by decide) rfl⟩

theorem M.spec_l01In_ok (w0 : World) (a0 : Int) (a1 : Int) (a2 : Int) {r : Bool} (hm : M.spec_l01In a0 a1 a2 = some r) :
    Calls Try.prog 51 #[(.int .i64 a0), (.int .i64 a1), (.int .i64 a2)] w0 fun e w' => e = .returned (.bool r) ∧ Fresh w0 w' [] := by
  unfold M.spec_l01In at hm
  refine calls_CW (args := [(.int .i64 a0), (.int .i64 a1), (.int .i64 a2)]) Try.func51 rfl rfl rfl ?_
  have hL := Hp.start w0
  refine CW.seq ?_
  refine CW.regionL ?_
  refine OW.cons (OP.val (v := (.bool false)) rfl (x_assign) ?_)
  refine OW.nil ?_
  refine CW.seqJ (fun (s_j1 : Bool) (F : Fr) (w : World) => F 6 = (.bool s_j1) ∧ Hp w0 [Ent.snap w0 w0.heap.size] w) (fun s_j1 => M.spec_l01In_j1 s_j1 = some r) ?_ ?_
  · refine CW.regionL ?_
    refine OW.cons (OP.val (v := (.int .i64 a0)) rfl (x_move) ?_)
    refine OW.cons (OP.val (v := (.int .i64 a1)) rfl (x_move) ?_)
    refine OW.cons (OP.val (v := (.bool (decide (a1 ≤ a0)))) rfl (x_geq rfl rfl) ?_)
    refine OW.cons (OP.val (v := (.bool (decide (a1 ≤ a0)))) rfl (x_move) ?_)
    refine ifB_elim hm (fun hb5 hm => ?_) (fun hb5 hm => ?_)
    · refine OW.cons (OP.yes' rfl rfl hb5 (OP.val (v := (.int .i64 a0)) rfl (x_move) ?_))
      refine OW.cons (OP.yes' rfl rfl hb5 (OP.val (v := (.int .i64 a2)) rfl (x_move) ?_))
      refine OW.cons (OP.yes' rfl rfl hb5 (OP.val (v := (.bool (decide (a0 ≤ a2)))) rfl (x_leq rfl rfl) ?_))
      refine OW.cons (OP.val (v := (.bool (decide (a0 ≤ a2)))) rfl (x_pickT' rfl hb5 rfl) ?_)
      refine OW.cons (OP.val (v := (.bool (decide (a0 ≤ a2)))) rfl (x_assign) ?_)
      refine OW.nil ?_
      exact ⟨decide (a0 ≤ a2), hm, ⟨rfl, hL⟩⟩
    · refine OW.cons (OP.no' rfl rfl hb5 rfl ?_)
      refine OW.cons (OP.no' rfl rfl hb5 rfl ?_)
      refine OW.cons (OP.no' rfl rfl hb5 rfl ?_)
      refine OW.cons (OP.val (v := (.bool false)) rfl (x_pickF' rfl hb5 rfl) ?_)
      refine OW.cons (OP.val (v := (.bool false)) rfl (x_assign) ?_)
      refine OW.nil ?_
      exact ⟨false, hm, ⟨rfl, hL⟩⟩
  · intro s_j1 F2 wd3 hJ hm
    unfold M.spec_l01In_j1 at hm
    obtain ⟨f4, hL⟩ := hJ
    refine CW.ret ?_
    obtain rfl := Option.some.inj hm
    exact RR1 rfl f4 ⟨rfl, hL.fresh 0 rfl [] (by decide) (by decide) rfl⟩

theorem M.spec_l26Code_ok (w0 : World) (a0 : Int) {r : Bool} (hm : M.spec_l26Code a0 = some r) :
    Calls Try.prog 57 #[(.int .i64 a0)] w0 fun e w' => e = .returned (.bool r) ∧ Fresh w0 w' [] := by
  unfold M.spec_l26Code at hm
  refine calls_CW (args := [(.int .i64 a0)]) Try.func57 rfl rfl rfl ?_
  have hL := Hp.start w0
  refine CW.seq ?_
  refine CW.regionL ?_
  refine OW.cons (OP.val (v := (.bool false)) rfl (x_assign) ?_)
  refine OW.nil ?_
  refine CW.seq ?_
  refine CW.regionL ?_
  refine OW.cons (OP.val (v := (.int .i64 a0)) rfl (x_move) ?_)
  obtain ⟨x1, hx2, hm⟩ := bndE hm
  refine OW.cons (OP.call rfl (x_call (vs := [(.int .i64 a0), (.int .i64 0), (.int .i64 9)]) Try_C51 ⟨rfl, rfl, rfl, trivial⟩) (M.spec_l01In_ok _ a0 0 9 hx2) ?_)
  rintro e3 wd4 ⟨rfl, hF5⟩
  refine ⟨_, rfl, ?_⟩
  have hL := hL.pushAll hF5
  simp only [List.cons_append, List.nil_append, List.set_cons_zero, List.set_cons_succ] at hL
  refine OW.cons (OP.val (v := (.bool x1)) rfl (x_assign) ?_)
  refine OW.nil ?_
  refine CW.ret ?_
  obtain rfl := Option.some.inj hm
  exact RR1 rfl rfl ⟨rfl, hL.fresh 0 rfl [] (by decide) (by decide) rfl⟩

theorem M.spec_l26Race_ok (w0 : World) (a0 : Int) (a1 : Race) {v1 : Value} (h2 : rdL (· < w0.heap.size) w0 v1 a1.Finishes) {r : Bool} (hm : M.spec_l26Race a0 a1 = some r) :
    Calls Try.prog 52 #[(.int .i64 a0), (.agg #[v1])] w0 fun e w' => e = .returned (.bool r) ∧ Fresh w0 w' [] := by
  unfold M.spec_l26Race at hm
  refine calls_CW (args := [(.int .i64 a0), (.agg #[v1])]) Try.func52 rfl rfl rfl ?_
  have hL := Hp.start w0
  refine CW.seq ?_
  refine CW.regionL ?_
  refine OW.cons (S_box (cs := #[v1]) hL rfl rfl rfl ?_)
  intro wd3 b4 hL
  refine OW.cons (OP.val (v := (.bool false)) rfl (x_assign) ?_)
  refine OW.nil ?_
  refine CW.seq ?_
  refine CW.seq ?_
  refine CW.regionL ?_
  refine OW.cons (OP.val (v := (.pointer (some ⟨b4, 0, none⟩))) rfl (x_fieldAddr (fsz := 1) 0 0 0 Try.underlying29 rfl Try_T27 rfl rfl rfl) ?_)
  refine OW.cons (OP.val (v := v1) rfl (x_load1 Try.underlying27 rfl rfl (hL.cellB 0 rfl rfl)) ?_)
  refine OW.cons (OP.val (v := (.int .i64 (a1.Finishes.length : Int))) rfl (x_lenR Try.underlying27 rfl (hL.rdS 1 rfl h2)) ?_)
  refine OW.cons (OP.val (v := (.int .i64 a0)) rfl (x_move) ?_)
  refine OW.cons (OP.val (v := (.bool ((a1.Finishes.length : Int) != a0))) rfl (x_neq rfl rfl) ?_)
  refine OW.nil ?_
  refine CW.condM (t := (a1.Finishes.length : Int) != a0) rfl hm (fun hb5 hm => ?_) (fun hb5 hm => ?_)
  · refine CW.seq ?_
    refine CW.regionL ?_
    refine OW.cons (OP.val (v := (.bool false)) rfl (x_assign) ?_)
    refine OW.nil ?_
    refine CW.ret ?_
    obtain rfl := Option.some.inj hm
    exact RR1 rfl rfl ⟨rfl, hL.fresh 1 rfl [] (by decide) (by decide) rfl⟩
  · refine CW.skip ?_
    refine CW.seq ?_
    refine CW.seq ?_
    refine CW.regionL ?_
    refine OW.cons (OP.val (v := (.int .i64 0)) rfl (x_assign) ?_)
    refine OW.nil ?_
    obtain ⟨o116, ho117, hm⟩ := bndE hm
    refine CW.loopB (fun (s_l1 : Int) (F : Fr) (w : World) => F 3 = (.pointer (some ⟨b4, 0, none⟩)) ∧ F 5 = (.int .i64 s_l1) ∧ Hp w0 [Ent.blk b4 29 #[v1], Ent.snap w0 w0.heap.size] w) (fun o => outc o (fun x => some x) (fun s => M.spec_l26Race_a1 s) = some r) ho117 hm ⟨rfl, rfl, hL⟩ ?_ ?_
    · intro s_l1 F118 wd119 hJ hm
      have hm := outcE hm
      have hm : M.spec_l26Race_a1 s_l1 = some r := hm
      unfold M.spec_l26Race_a1 at hm
      obtain ⟨f120, f121, hL⟩ := hJ
      refine CW.seq ?_
      refine CW.regionL ?_
      refine OW.cons (OP.val (v := (.bool true)) rfl (x_assign) ?_)
      refine OW.nil ?_
      refine CW.ret ?_
      obtain rfl := Option.some.inj hm
      exact RR1 rfl rfl ⟨rfl, hL.fresh 1 rfl [] (by decide) (by decide) rfl⟩
    · intro s_l1 F122 wd123 t114 hJ hm hr115
      unfold M.spec_l26Race_l1 at hm
      obtain ⟨f124, f125, hL⟩ := hJ
      refine CW.seq ?_
      refine CW.seq ?_
      refine CW.regionL ?_
      refine OW.cons (OP.val (v := (.int .i64 s_l1)) rfl (x_mv f125) ?_)
      refine OW.cons (OP.val (v := (.pointer (some ⟨b4, 0, none⟩))) rfl (x_fieldAddr (fsz := 1) 0 0 0 Try.underlying29 rfl Try_T27 rfl f124 rfl) ?_)
      refine OW.cons (OP.val (v := v1) rfl (x_load1 Try.underlying27 rfl rfl (hL.cellB 0 rfl rfl)) ?_)
      refine OW.cons (OP.val (v := (.int .i64 (a1.Finishes.length : Int))) rfl (x_lenR Try.underlying27 rfl (hL.rdS 1 rfl h2)) ?_)
      refine OW.cons (OP.val (v := (.bool (decide (s_l1 < (a1.Finishes.length : Int))))) rfl (x_lss rfl rfl) ?_)
      refine OW.nil ?_
      refine CW.condM (t := decide (s_l1 < (a1.Finishes.length : Int))) rfl hm (fun hb126 hm => ?_) (fun hb126 hm => ?_)
      · refine CW.skip ?_
        refine CW.seq ?_
        refine CW.block ?_
        refine CW.seq ?_
        refine CW.regionL ?_
        refine OW.cons (OP.val (v := (.pointer (some ⟨b4, 0, none⟩))) rfl (x_fieldAddr (fsz := 1) 0 0 0 Try.underlying29 rfl Try_T27 rfl f124 rfl) ?_)
        refine OW.cons (OP.val (v := v1) rfl (x_load1 Try.underlying27 rfl rfl (hL.cellB 0 rfl rfl)) ?_)
        refine OW.cons (OP.val (v := (.int .i64 s_l1)) rfl (x_mv f125) ?_)
        obtain ⟨x127, ha128, hm⟩ := bndE hm
        obtain ⟨hz129, ha133⟩ := idxE ha128
        obtain ⟨b130, q131, hix132⟩ := rdL_ix (hL.rdS 1 rfl h2) hz129 ha133
        refine OW.cons (OP.val (v := (.pointer (some ⟨b130, q131, none⟩))) rfl (x_ix Try.underlying27 Try_T88 rfl rfl hix132) ?_)
        refine OW.cons (OP.val (v := (.agg #[(.int .i64 x127.Boat), (.int .i64 x127.Code), (.int .i64 x127.Time)])) rfl (x_loadN (cs := [(.int .i64 x127.Boat), (.int .i64 x127.Code), (.int .i64 x127.Time)]) Try.underlying88 Try_T88 rfl rfl (rdF_cells (hL.rdS 1 rfl h2) hix132 ha133)) ?_)
        refine OW.cons (S_alloc (cs := #[(.int .i64 0), (.int .i64 0), (.int .i64 0)]) hL Try_T88 rfl rfl ?_)
        intro wd134 b135 hL
        refine OW.cons (S_storeN (l := [(.int .i64 x127.Boat), (.int .i64 x127.Code), (.int .i64 x127.Time)]) (cs' := #[(.int .i64 x127.Boat), (.int .i64 x127.Code), (.int .i64 x127.Time)]) hL 0 rfl Try_T88 rfl rfl (List.forall_mem_cons.2 ⟨rfl, (List.forall_mem_cons.2 ⟨rfl, (List.forall_mem_cons.2 ⟨rfl, (fun _ h => by cases h)⟩)⟩)⟩) rfl (Nat.le_of_ble_eq_true rfl) rfl ?_)
        intro wd136 hL
        refine OW.nil ?_
        refine CW.seq ?_
        refine CW.seqJ (fun (s_j1 : Bool) (F : Fr) (w : World) => F 3 = (.pointer (some ⟨b4, 0, none⟩)) ∧ F 5 = (.int .i64 s_l1) ∧ F 6 = (.pointer (some ⟨b135, 0, none⟩)) ∧ F 33 = (.bool s_j1) ∧ Hp w0 [Ent.blk b135 88 #[(.int .i64 x127.Boat), (.int .i64 x127.Code), (.int .i64 x127.Time)], Ent.blk b4 29 #[v1], Ent.snap w0 w0.heap.size] w) (fun s_j1 => M.spec_l26Race_j1 s_l1 x127 s_j1 = some t114) ?_ ?_
        · refine CW.regionL ?_
          refine OW.cons (OP.val (v := (.pointer (some ⟨b135, 0, none⟩))) rfl (x_fieldAddr (fsz := 1) 0 0 0 Try.underlying88 rfl Try_T2 rfl rfl rfl) ?_)
          refine OW.cons (OP.val (v := (.int .i64 x127.Boat)) rfl (x_load1 Try.underlying2 rfl rfl (hL.cellB 0 rfl rfl)) ?_)
          refine OW.cons (OP.val (v := (.int .i64 s_l1)) rfl (x_mv f125) ?_)
          refine OW.cons (OP.val (v := (.bool (x127.Boat != s_l1))) rfl (x_neq rfl rfl) ?_)
          refine OW.cons (OP.val (v := (.bool (x127.Boat != s_l1))) rfl (x_move) ?_)
          refine ifB_elim hm (fun hb174 hm => ?_) (fun hb174 hm => ?_)
          · refine OW.cons (OP.no' rfl rfl hb174 rfl ?_)
            refine OW.cons (OP.no' rfl rfl hb174 rfl ?_)
            refine OW.cons (OP.no' rfl rfl hb174 rfl ?_)
            refine OW.cons (OP.no' rfl rfl hb174 rfl ?_)
            refine OW.cons (OP.val (v := (.bool true)) rfl (x_pickT' rfl hb174 rfl) ?_)
            refine OW.nil ?_
            exact ⟨true, hm, ⟨f124, f125, rfl, rfl, hL⟩⟩
          · refine OW.cons (OP.yes' rfl rfl hb174 (OP.val (v := (.pointer (some ⟨b135, 1, none⟩))) rfl (x_fieldAddr (fsz := 1) 0 1 1 Try.underlying88 rfl Try_T2 rfl rfl rfl) ?_))
            refine OW.cons (OP.yes' rfl rfl hb174 (OP.val (v := (.int .i64 x127.Code)) rfl (x_load1 Try.underlying2 rfl rfl (hL.cellB 0 rfl rfl)) ?_))
            obtain ⟨x175, hx176, hm⟩ := bndE hm
            refine OW.cons (OP.yes' rfl rfl hb174 (OP.call rfl (x_call (vs := [(.int .i64 x127.Code)]) Try_C57 ⟨rfl, trivial⟩) (M.spec_l26Code_ok _ x127.Code hx176) ?_))
            rintro e177 wd178 ⟨rfl, hF179⟩
            refine ⟨_, rfl, ?_⟩
            have hL := hL.pushAll hF179
            simp only [List.cons_append, List.nil_append, List.set_cons_zero, List.set_cons_succ] at hL
            refine OW.cons (OP.yes' rfl rfl hb174 (OP.val (v := (.bool (!x175))) rfl (x_not rfl) ?_))
            refine OW.cons (OP.val (v := (.bool (!x175))) rfl (x_pickF' rfl hb174 rfl) ?_)
            refine OW.nil ?_
            exact ⟨!x175, hm, ⟨f124, f125, rfl, rfl, hL⟩⟩
        · intro s_j1 F143 wd144 hJ hm
          unfold M.spec_l26Race_j1 at hm
          obtain ⟨f145, f146, f147, f148, hL⟩ := hJ
          refine CW.condM (t := s_j1) f148 hm (fun hb149 hm => ?_) (fun hb149 hm => ?_)
          · refine CW.seq ?_
            refine CW.regionL ?_
            refine OW.cons (OP.val (v := (.bool false)) rfl (x_assign) ?_)
            refine OW.nil ?_
            refine CW.ret ?_
            obtain rfl := Option.some.inj hm
            have hm := hr115 _ rfl
            obtain rfl := Option.some.inj hm
            exact RR1 rfl rfl ⟨rfl, hL.fresh 2 rfl [] (by decide) (by decide) rfl⟩
          · refine CW.skip ?_
            refine CW.seqJ (fun (s_j2 : Bool) (F : Fr) (w : World) => F 3 = (.pointer (some ⟨b4, 0, none⟩)) ∧ F 5 = (.int .i64 s_l1) ∧ F 52 = (.bool s_j2) ∧ Hp w0 [Ent.blk b135 88 #[(.int .i64 x127.Boat), (.int .i64 x127.Code), (.int .i64 x127.Time)], Ent.blk b4 29 #[v1], Ent.snap w0 w0.heap.size] w) (fun s_j2 => M.spec_l26Race_j2 s_l1 s_j2 = some t114) ?_ ?_
            · refine CW.regionL ?_
              refine OW.cons (OP.val (v := (.pointer (some ⟨b135, 1, none⟩))) rfl (x_fieldAddr (fsz := 1) 0 1 1 Try.underlying88 rfl Try_T2 rfl f147 rfl) ?_)
              refine OW.cons (OP.val (v := (.int .i64 x127.Code)) rfl (x_load1 Try.underlying2 rfl rfl (hL.cellB 0 rfl rfl)) ?_)
              refine OW.cons (OP.val (v := (.bool (x127.Code == 0))) rfl (x_eql rfl rfl) ?_)
              refine OW.cons (OP.val (v := (.bool (x127.Code == 0))) rfl (x_move) ?_)
              refine ifB_elim hm (fun hb165 hm => ?_) (fun hb165 hm => ?_)
              · refine OW.cons (OP.yes' rfl rfl hb165 (OP.val (v := (.pointer (some ⟨b135, 2, none⟩))) rfl (x_fieldAddr (fsz := 1) 0 2 2 Try.underlying88 rfl Try_T2 rfl f147 rfl) ?_))
                refine OW.cons (OP.yes' rfl rfl hb165 (OP.val (v := (.int .i64 x127.Time)) rfl (x_load1 Try.underlying2 rfl rfl (hL.cellB 0 rfl rfl)) ?_))
                obtain ⟨x166, hx167, hm⟩ := bndE hm
                refine OW.cons (OP.yes' rfl rfl hb165 (OP.call rfl (x_call (vs := [(.int .i64 x127.Time), (.int .i64 1), (.int .i64 1000000000)]) Try_C51 ⟨rfl, rfl, rfl, trivial⟩) (M.spec_l01In_ok _ x127.Time 1 1000000000 hx167) ?_))
                rintro e168 wd169 ⟨rfl, hF170⟩
                refine ⟨_, rfl, ?_⟩
                have hL := hL.pushAll hF170
                simp only [List.cons_append, List.nil_append, List.set_cons_zero, List.set_cons_succ] at hL
                refine OW.cons (OP.yes' rfl rfl hb165 (OP.val (v := (.bool (!x166))) rfl (x_not rfl) ?_))
                refine OW.cons (OP.val (v := (.bool (!x166))) rfl (x_pickT' rfl hb165 rfl) ?_)
                refine OW.cons (OP.val (v := (.bool (!x166))) rfl (x_move) ?_)
                refine ifB_elim hm (fun hb171 hm => ?_) (fun hb171 hm => ?_)
                · refine OW.cons (OP.no' rfl rfl hb171 rfl ?_)
                  refine OW.cons (OP.no' rfl rfl hb171 rfl ?_)
                  refine OW.cons (OP.no' rfl rfl hb171 rfl ?_)
                  refine OW.cons (OP.no' rfl rfl hb171 rfl ?_)
                  refine OW.cons (OP.noU rfl rfl rfl ?_)
                  refine OW.cons (OP.noU rfl rfl rfl ?_)
                  refine OW.cons (OP.noU rfl rfl rfl ?_)
                  refine OW.cons (OP.no' rfl rfl hb171 rfl ?_)
                  refine OW.cons (OP.val (v := (.bool true)) rfl (x_pickT' rfl hb171 rfl) ?_)
                  refine OW.nil ?_
                  exact ⟨true, hm, ⟨f145, f146, rfl, hL⟩⟩
                · refine OW.cons (OP.yes' rfl rfl hb171 (OP.val (v := (.pointer (some ⟨b135, 1, none⟩))) rfl (x_fieldAddr (fsz := 1) 0 1 1 Try.underlying88 rfl Try_T2 rfl f147 rfl) ?_))
                  refine OW.cons (OP.yes' rfl rfl hb171 (OP.val (v := (.int .i64 x127.Code)) rfl (x_load1 Try.underlying2 rfl rfl (hL.cellB 0 rfl rfl)) ?_))
                  refine OW.cons (OP.yes' rfl rfl hb171 (OP.val (v := (.bool (x127.Code != 0))) rfl (x_neq rfl rfl) ?_))
                  refine OW.cons (OP.yes' rfl rfl hb171 (OP.val (v := (.bool (x127.Code != 0))) rfl (x_move) ?_))
                  refine ifB_elim hm (fun hb172 hm => ?_) (fun hb172 hm => ?_)
                  · refine OW.cons (OP.yes' rfl rfl hb172 (OP.val (v := (.pointer (some ⟨b135, 2, none⟩))) rfl (x_fieldAddr (fsz := 1) 0 2 2 Try.underlying88 rfl Try_T2 rfl f147 rfl) ?_))
                    refine OW.cons (OP.yes' rfl rfl hb172 (OP.val (v := (.int .i64 x127.Time)) rfl (x_load1 Try.underlying2 rfl rfl (hL.cellB 0 rfl rfl)) ?_))
                    refine OW.cons (OP.yes' rfl rfl hb172 (OP.val (v := (.bool (x127.Time != 0))) rfl (x_neq rfl rfl) ?_))
                    refine OW.cons (OP.yes' rfl rfl hb171 (OP.val (v := (.bool (x127.Time != 0))) rfl (x_pickT' rfl hb172 rfl) ?_))
                    refine OW.cons (OP.val (v := (.bool (x127.Time != 0))) rfl (x_pickF' rfl hb171 rfl) ?_)
                    refine OW.nil ?_
                    exact ⟨x127.Time != 0, hm, ⟨f145, f146, rfl, hL⟩⟩
                  · refine OW.cons (OP.no' rfl rfl hb172 rfl ?_)
                    refine OW.cons (OP.no' rfl rfl hb172 rfl ?_)
                    refine OW.cons (OP.no' rfl rfl hb172 rfl ?_)
                    refine OW.cons (OP.yes' rfl rfl hb171 (OP.val (v := (.bool false)) rfl (x_pickF' rfl hb172 rfl) ?_))
                    refine OW.cons (OP.val (v := (.bool false)) rfl (x_pickF' rfl hb171 rfl) ?_)
                    refine OW.nil ?_
                    exact ⟨false, hm, ⟨f145, f146, rfl, hL⟩⟩
              · refine OW.cons (OP.no' rfl rfl hb165 rfl ?_)
                refine OW.cons (OP.no' rfl rfl hb165 rfl ?_)
                refine OW.cons (OP.no' rfl rfl hb165 rfl ?_)
                refine OW.cons (OP.no' rfl rfl hb165 rfl ?_)
                refine OW.cons (OP.val (v := (.bool false)) rfl (x_pickF' rfl hb165 rfl) ?_)
                refine OW.cons (OP.val (v := (.bool false)) rfl (x_move) ?_)
                refine OW.cons (OP.yes' rfl rfl rfl (OP.val (v := (.pointer (some ⟨b135, 1, none⟩))) rfl (x_fieldAddr (fsz := 1) 0 1 1 Try.underlying88 rfl Try_T2 rfl f147 rfl) ?_))
                refine OW.cons (OP.yes' rfl rfl rfl (OP.val (v := (.int .i64 x127.Code)) rfl (x_load1 Try.underlying2 rfl rfl (hL.cellB 0 rfl rfl)) ?_))
                refine OW.cons (OP.yes' rfl rfl rfl (OP.val (v := (.bool (x127.Code != 0))) rfl (x_neq rfl rfl) ?_))
                refine OW.cons (OP.yes' rfl rfl rfl (OP.val (v := (.bool (x127.Code != 0))) rfl (x_move) ?_))
                refine ifB_elim hm (fun hb173 hm => ?_) (fun hb173 hm => ?_)
                · refine OW.cons (OP.yes' rfl rfl hb173 (OP.val (v := (.pointer (some ⟨b135, 2, none⟩))) rfl (x_fieldAddr (fsz := 1) 0 2 2 Try.underlying88 rfl Try_T2 rfl f147 rfl) ?_))
                  refine OW.cons (OP.yes' rfl rfl hb173 (OP.val (v := (.int .i64 x127.Time)) rfl (x_load1 Try.underlying2 rfl rfl (hL.cellB 0 rfl rfl)) ?_))
                  refine OW.cons (OP.yes' rfl rfl hb173 (OP.val (v := (.bool (x127.Time != 0))) rfl (x_neq rfl rfl) ?_))
                  refine OW.cons (OP.yes' rfl rfl rfl (OP.val (v := (.bool (x127.Time != 0))) rfl (x_pickT' rfl hb173 rfl) ?_))
                  refine OW.cons (OP.val (v := (.bool (x127.Time != 0))) rfl (x_pickF' rfl rfl rfl) ?_)
                  refine OW.nil ?_
                  exact ⟨x127.Time != 0, hm, ⟨f145, f146, rfl, hL⟩⟩
                · refine OW.cons (OP.no' rfl rfl hb173 rfl ?_)
                  refine OW.cons (OP.no' rfl rfl hb173 rfl ?_)
                  refine OW.cons (OP.no' rfl rfl hb173 rfl ?_)
                  refine OW.cons (OP.yes' rfl rfl rfl (OP.val (v := (.bool false)) rfl (x_pickF' rfl hb173 rfl) ?_))
                  refine OW.cons (OP.val (v := (.bool false)) rfl (x_pickF' rfl rfl rfl) ?_)
                  refine OW.nil ?_
                  exact ⟨false, hm, ⟨f145, f146, rfl, hL⟩⟩
            · intro s_j2 F159 wd160 hJ hm
              unfold M.spec_l26Race_j2 at hm
              obtain ⟨f161, f162, f163, hL⟩ := hJ
              refine CW.condM (t := s_j2) f163 hm (fun hb164 hm => ?_) (fun hb164 hm => ?_)
              · refine CW.seq ?_
                refine CW.regionL ?_
                refine OW.cons (OP.val (v := (.bool false)) rfl (x_assign) ?_)
                refine OW.nil ?_
                refine CW.ret ?_
                obtain rfl := Option.some.inj hm
                have hm := hr115 _ rfl
                obtain rfl := Option.some.inj hm
                exact RR1 rfl rfl ⟨rfl, hL.fresh 2 rfl [] (by decide) (by decide) rfl⟩
              · refine CW.skip ?_
                refine CW.regionL ?_
                refine OW.cons (OP.val (v := (.int .i64 s_l1)) rfl (x_mv f162) ?_)
                refine OW.cons (OP.val (v := (.int .i64 (w64 (s_l1 + 1)))) rfl (x_add rfl rfl) ?_)
                refine OW.cons (OP.val (v := (.int .i64 (w64 (s_l1 + 1)))) rfl (x_assign) ?_)
                refine OW.nil ?_
                have hL := hL.sel [1, 2] (by decide) rfl
                obtain rfl := Option.some.inj hm
                exact ⟨_, rfl, ⟨f161, rfl, hL⟩⟩
      · refine CW.exit ?_
        refine XJ.hit ?_
        obtain rfl := Option.some.inj hm
        exact ⟨_, rfl, ⟨f124, f125, hL⟩⟩

theorem M.spec_IsRace_ok (w0 : World) (a0 : Int) (a1 : Race) {v1 : Value} (h2 : rdL (· < w0.heap.size) w0 v1 a1.Finishes) {r : Bool} (hm : M.spec_IsRace a0 a1 = some r) :
    Calls Try.prog 14 #[(.int .i64 a0), (.agg #[v1])] w0 fun e w' => e = .returned (.bool r) ∧ Fresh w0 w' [] := by
  unfold M.spec_IsRace at hm
  refine calls_CW (args := [(.int .i64 a0), (.agg #[v1])]) Try.func14 rfl rfl rfl ?_
  have hL := Hp.start w0
  refine CW.seq ?_
  refine CW.regionL ?_
  refine OW.cons (S_box (cs := #[v1]) hL rfl rfl rfl ?_)
  intro wd3 b4 hL
  refine OW.cons (OP.val (v := (.bool false)) rfl (x_assign) ?_)
  refine OW.nil ?_
  refine CW.seqJ (fun (s_j1 : Bool) (F : Fr) (w : World) => F 4 = (.bool s_j1) ∧ Hp w0 [Ent.blk b4 29 #[v1], Ent.snap w0 w0.heap.size] w) (fun s_j1 => M.spec_IsRace_j1 s_j1 = some r) ?_ ?_
  · refine CW.regionL ?_
    refine OW.cons (OP.val (v := (.int .i64 a0)) rfl (x_move) ?_)
    obtain ⟨x19, hx20, hm⟩ := bndE hm
    refine OW.cons (OP.call rfl (x_call (vs := [(.int .i64 a0), (.int .i64 1), (.int .i64 16)]) Try_C51 ⟨rfl, rfl, rfl, trivial⟩) (M.spec_l01In_ok _ a0 1 16 hx20) ?_)
    rintro e21 wd22 ⟨rfl, hF23⟩
    refine ⟨_, rfl, ?_⟩
    have hL := hL.pushAll hF23
    simp only [List.cons_append, List.nil_append, List.set_cons_zero, List.set_cons_succ] at hL
    refine OW.cons (OP.val (v := (.bool x19)) rfl (x_move) ?_)
    refine ifB_elim hm (fun hb24 hm => ?_) (fun hb24 hm => ?_)
    · refine OW.cons (OP.yes' rfl rfl hb24 (OP.val (v := (.int .i64 a0)) rfl (x_move) ?_))
      refine OW.cons (OP.yes' rfl rfl hb24 (OP.val (v := (.agg #[v1])) rfl (x_loadN (cs := [v1]) Try.underlying29 Try_T29 rfl rfl (hL.cellsB 0 rfl (o := 0) (l := [v1]) (by intro j u hj; exact (by simpa using hj)))) ?_))
      obtain ⟨x25, hx26, hm⟩ := bndE hm
      refine OW.cons (OP.yes' rfl rfl hb24 (OP.call rfl (x_call (vs := [(.int .i64 a0), (.agg #[v1])]) Try_C52 ⟨rfl, rfl, trivial⟩) (M.spec_l26Race_ok _ a0 a1 (hL.rdS 1 rfl h2) hx26) ?_))
      rintro e27 wd28 ⟨rfl, hF29⟩
      refine ⟨_, rfl, ?_⟩
      have hL := hL.pushAll hF29
      simp only [List.cons_append, List.nil_append, List.set_cons_zero, List.set_cons_succ] at hL
      refine OW.cons (OP.val (v := (.bool x25)) rfl (x_pickT' rfl hb24 rfl) ?_)
      refine OW.cons (OP.val (v := (.bool x25)) rfl (x_assign) ?_)
      refine OW.nil ?_
      exact ⟨x25, hm, ⟨rfl, hL⟩⟩
    · refine OW.cons (OP.no' rfl rfl hb24 rfl ?_)
      refine OW.cons (OP.no' rfl rfl hb24 rfl ?_)
      refine OW.cons (OP.no' rfl rfl hb24 rfl ?_)
      refine OW.cons (OP.val (v := (.bool false)) rfl (x_pickF' rfl hb24 rfl) ?_)
      refine OW.cons (OP.val (v := (.bool false)) rfl (x_assign) ?_)
      refine OW.nil ?_
      exact ⟨false, hm, ⟨rfl, hL⟩⟩
  · intro s_j1 F16 wd17 hJ hm
    unfold M.spec_IsRace_j1 at hm
    obtain ⟨f18, hL⟩ := hJ
    refine CW.ret ?_
    obtain rfl := Option.some.inj hm
    exact RR1 rfl f18 ⟨rfl, hL.fresh 1 rfl [] (by decide) (by decide) rfl⟩

theorem M.impl_within_ok (w0 : World) (a0 : Int) (a1 : Int) (a2 : Int) {r : Bool} (hm : M.impl_within a0 a1 a2 = some r) :
    Calls Try.prog 59 #[(.int .i64 a0), (.int .i64 a1), (.int .i64 a2)] w0 fun e w' => e = .returned (.bool r) ∧ Fresh w0 w' [] := by
  unfold M.impl_within at hm
  refine calls_CW (args := [(.int .i64 a0), (.int .i64 a1), (.int .i64 a2)]) Try.func59 rfl rfl rfl ?_
  have hL := Hp.start w0
  refine CW.seq ?_
  refine CW.regionL ?_
  refine OW.cons (OP.val (v := (.bool false)) rfl (x_assign) ?_)
  refine OW.nil ?_
  refine CW.seqJ (fun (s_j1 : Bool) (F : Fr) (w : World) => F 6 = (.bool s_j1) ∧ Hp w0 [Ent.snap w0 w0.heap.size] w) (fun s_j1 => M.impl_within_j1 s_j1 = some r) ?_ ?_
  · refine CW.regionL ?_
    refine OW.cons (OP.val (v := (.int .i64 a0)) rfl (x_move) ?_)
    refine OW.cons (OP.val (v := (.int .i64 a1)) rfl (x_move) ?_)
    refine OW.cons (OP.val (v := (.bool (decide (a1 ≤ a0)))) rfl (x_geq rfl rfl) ?_)
    refine OW.cons (OP.val (v := (.bool (decide (a1 ≤ a0)))) rfl (x_move) ?_)
    refine ifB_elim hm (fun hb5 hm => ?_) (fun hb5 hm => ?_)
    · refine OW.cons (OP.yes' rfl rfl hb5 (OP.val (v := (.int .i64 a0)) rfl (x_move) ?_))
      refine OW.cons (OP.yes' rfl rfl hb5 (OP.val (v := (.int .i64 a2)) rfl (x_move) ?_))
      refine OW.cons (OP.yes' rfl rfl hb5 (OP.val (v := (.bool (decide (a0 ≤ a2)))) rfl (x_leq rfl rfl) ?_))
      refine OW.cons (OP.val (v := (.bool (decide (a0 ≤ a2)))) rfl (x_pickT' rfl hb5 rfl) ?_)
      refine OW.cons (OP.val (v := (.bool (decide (a0 ≤ a2)))) rfl (x_assign) ?_)
      refine OW.nil ?_
      exact ⟨decide (a0 ≤ a2), hm, ⟨rfl, hL⟩⟩
    · refine OW.cons (OP.no' rfl rfl hb5 rfl ?_)
      refine OW.cons (OP.no' rfl rfl hb5 rfl ?_)
      refine OW.cons (OP.no' rfl rfl hb5 rfl ?_)
      refine OW.cons (OP.val (v := (.bool false)) rfl (x_pickF' rfl hb5 rfl) ?_)
      refine OW.cons (OP.val (v := (.bool false)) rfl (x_assign) ?_)
      refine OW.nil ?_
      exact ⟨false, hm, ⟨rfl, hL⟩⟩
  · intro s_j1 F2 wd3 hJ hm
    unfold M.impl_within_j1 at hm
    obtain ⟨f4, hL⟩ := hJ
    refine CW.ret ?_
    obtain rfl := Option.some.inj hm
    exact RR1 rfl f4 ⟨rfl, hL.fresh 0 rfl [] (by decide) (by decide) rfl⟩

theorem M.impl_isBoat_ok (w0 : World) (a0 : Int) {r : Bool} (hm : M.impl_isBoat a0 = some r) :
    Calls Try.prog 95 #[(.int .i64 a0)] w0 fun e w' => e = .returned (.bool r) ∧ Fresh w0 w' [] := by
  unfold M.impl_isBoat at hm
  refine calls_CW (args := [(.int .i64 a0)]) Try.func95 rfl rfl rfl ?_
  have hL := Hp.start w0
  refine CW.seq ?_
  refine CW.regionL ?_
  refine OW.cons (OP.val (v := (.bool false)) rfl (x_assign) ?_)
  refine OW.nil ?_
  refine CW.seq ?_
  refine CW.regionL ?_
  refine OW.cons (OP.val (v := (.int .i64 a0)) rfl (x_move) ?_)
  obtain ⟨x1, hx2, hm⟩ := bndE hm
  refine OW.cons (OP.call rfl (x_call (vs := [(.int .i64 a0), (.int .i64 0), (.int .i64 15)]) Try_C59 ⟨rfl, rfl, rfl, trivial⟩) (M.impl_within_ok _ a0 0 15 hx2) ?_)
  rintro e3 wd4 ⟨rfl, hF5⟩
  refine ⟨_, rfl, ?_⟩
  have hL := hL.pushAll hF5
  simp only [List.cons_append, List.nil_append, List.set_cons_zero, List.set_cons_succ] at hL
  refine OW.cons (OP.val (v := (.bool x1)) rfl (x_assign) ?_)
  refine OW.nil ?_
  refine CW.ret ?_
  obtain rfl := Option.some.inj hm
  exact RR1 rfl rfl ⟨rfl, hL.fresh 0 rfl [] (by decide) (by decide) rfl⟩

theorem M.impl_IsFinish_ok (w0 : World) (a0 : Finish) {r : Bool} (hm : M.impl_IsFinish a0 = some r) :
    Calls Try.prog 84 #[(.agg #[(.int .i64 a0.Boat), (.int .i64 a0.Code), (.int .i64 a0.Time)])] w0 fun e w' => e = .returned (.bool r) ∧ Fresh w0 w' [] := by
  unfold M.impl_IsFinish at hm
  refine calls_CW (args := [(.agg #[(.int .i64 a0.Boat), (.int .i64 a0.Code), (.int .i64 a0.Time)])]) Try.func84 rfl rfl rfl ?_
  have hL := Hp.start w0
  refine CW.seq ?_
  refine CW.regionL ?_
  refine OW.cons (S_box (cs := #[(.int .i64 a0.Boat), (.int .i64 a0.Code), (.int .i64 a0.Time)]) hL rfl rfl rfl ?_)
  intro wd1 b2 hL
  refine OW.cons (OP.val (v := (.bool false)) rfl (x_assign) ?_)
  refine OW.nil ?_
  refine CW.seq ?_
  refine CW.seq ?_
  refine CW.regionL ?_
  refine OW.cons (OP.val (v := (.pointer (some ⟨b2, 1, none⟩))) rfl (x_fieldAddr (fsz := 1) 0 1 1 Try.underlying88 rfl Try_T2 rfl rfl rfl) ?_)
  refine OW.cons (OP.val (v := (.int .i64 a0.Code)) rfl (x_load1 Try.underlying2 rfl rfl (hL.cellB 0 rfl rfl)) ?_)
  refine OW.cons (OP.val (v := (.bool (a0.Code == 0))) rfl (x_eql rfl rfl) ?_)
  refine OW.nil ?_
  refine CW.condM (t := a0.Code == 0) rfl hm (fun hb3 hm => ?_) (fun hb3 hm => ?_)
  · refine CW.seqJ (fun (s_j1 : Bool) (F : Fr) (w : World) => F 2 = (.bool s_j1) ∧ Hp w0 [Ent.blk b2 88 #[(.int .i64 a0.Boat), (.int .i64 a0.Code), (.int .i64 a0.Time)], Ent.snap w0 w0.heap.size] w) (fun s_j1 => M.impl_IsFinish_j1 s_j1 = some r) ?_ ?_
    · refine CW.regionL ?_
      refine OW.cons (OP.val (v := (.pointer (some ⟨b2, 0, none⟩))) rfl (x_fieldAddr (fsz := 1) 0 0 0 Try.underlying88 rfl Try_T2 rfl rfl rfl) ?_)
      refine OW.cons (OP.val (v := (.int .i64 a0.Boat)) rfl (x_load1 Try.underlying2 rfl rfl (hL.cellB 0 rfl rfl)) ?_)
      obtain ⟨x18, hx19, hm⟩ := bndE hm
      refine OW.cons (OP.call rfl (x_call (vs := [(.int .i64 a0.Boat)]) Try_C95 ⟨rfl, trivial⟩) (M.impl_isBoat_ok _ a0.Boat hx19) ?_)
      rintro e20 wd21 ⟨rfl, hF22⟩
      refine ⟨_, rfl, ?_⟩
      have hL := hL.pushAll hF22
      simp only [List.cons_append, List.nil_append, List.set_cons_zero, List.set_cons_succ] at hL
      refine OW.cons (OP.val (v := (.bool x18)) rfl (x_move) ?_)
      refine ifB_elim hm (fun hb23 hm => ?_) (fun hb23 hm => ?_)
      · refine OW.cons (OP.yes' rfl rfl hb23 (OP.val (v := (.pointer (some ⟨b2, 2, none⟩))) rfl (x_fieldAddr (fsz := 1) 0 2 2 Try.underlying88 rfl Try_T2 rfl rfl rfl) ?_))
        refine OW.cons (OP.yes' rfl rfl hb23 (OP.val (v := (.int .i64 a0.Time)) rfl (x_load1 Try.underlying2 rfl rfl (hL.cellB 0 rfl rfl)) ?_))
        obtain ⟨x24, hx25, hm⟩ := bndE hm
        refine OW.cons (OP.yes' rfl rfl hb23 (OP.call rfl (x_call (vs := [(.int .i64 a0.Time), (.int .i64 1), (.int .i64 1000000000)]) Try_C59 ⟨rfl, rfl, rfl, trivial⟩) (M.impl_within_ok _ a0.Time 1 1000000000 hx25) ?_))
        rintro e26 wd27 ⟨rfl, hF28⟩
        refine ⟨_, rfl, ?_⟩
        have hL := hL.pushAll hF28
        simp only [List.cons_append, List.nil_append, List.set_cons_zero, List.set_cons_succ] at hL
        refine OW.cons (OP.val (v := (.bool x24)) rfl (x_pickT' rfl hb23 rfl) ?_)
        refine OW.cons (OP.val (v := (.bool x24)) rfl (x_assign) ?_)
        refine OW.nil ?_
        exact ⟨x24, hm, ⟨rfl, hL⟩⟩
      · refine OW.cons (OP.no' rfl rfl hb23 rfl ?_)
        refine OW.cons (OP.no' rfl rfl hb23 rfl ?_)
        refine OW.cons (OP.no' rfl rfl hb23 rfl ?_)
        refine OW.cons (OP.val (v := (.bool false)) rfl (x_pickF' rfl hb23 rfl) ?_)
        refine OW.cons (OP.val (v := (.bool false)) rfl (x_assign) ?_)
        refine OW.nil ?_
        exact ⟨false, hm, ⟨rfl, hL⟩⟩
    · intro s_j1 F15 wd16 hJ hm
      unfold M.impl_IsFinish_j1 at hm
      obtain ⟨f17, hL⟩ := hJ
      refine CW.ret ?_
      obtain rfl := Option.some.inj hm
      exact RR1 rfl f17 ⟨rfl, hL.fresh 1 rfl [] (by decide) (by decide) rfl⟩
  · refine CW.skip ?_
    refine CW.seqJ (fun (s_j2 : Bool) (F : Fr) (w : World) => F 2 = (.bool s_j2) ∧ Hp w0 [Ent.blk b2 88 #[(.int .i64 a0.Boat), (.int .i64 a0.Code), (.int .i64 a0.Time)], Ent.snap w0 w0.heap.size] w) (fun s_j2 => M.impl_IsFinish_j2 s_j2 = some r) ?_ ?_
    · refine CW.regionL ?_
      refine OW.cons (OP.val (v := (.pointer (some ⟨b2, 0, none⟩))) rfl (x_fieldAddr (fsz := 1) 0 0 0 Try.underlying88 rfl Try_T2 rfl rfl rfl) ?_)
      refine OW.cons (OP.val (v := (.int .i64 a0.Boat)) rfl (x_load1 Try.underlying2 rfl rfl (hL.cellB 0 rfl rfl)) ?_)
      obtain ⟨x44, hx45, hm⟩ := bndE hm
      refine OW.cons (OP.call rfl (x_call (vs := [(.int .i64 a0.Boat)]) Try_C95 ⟨rfl, trivial⟩) (M.impl_isBoat_ok _ a0.Boat hx45) ?_)
      rintro e46 wd47 ⟨rfl, hF48⟩
      refine ⟨_, rfl, ?_⟩
      have hL := hL.pushAll hF48
      simp only [List.cons_append, List.nil_append, List.set_cons_zero, List.set_cons_succ] at hL
      refine OW.cons (OP.val (v := (.bool x44)) rfl (x_move) ?_)
      refine ifB_elim hm (fun hb49 hm => ?_) (fun hb49 hm => ?_)
      · refine OW.cons (OP.yes' rfl rfl hb49 (OP.val (v := (.pointer (some ⟨b2, 1, none⟩))) rfl (x_fieldAddr (fsz := 1) 0 1 1 Try.underlying88 rfl Try_T2 rfl rfl rfl) ?_))
        refine OW.cons (OP.yes' rfl rfl hb49 (OP.val (v := (.int .i64 a0.Code)) rfl (x_load1 Try.underlying2 rfl rfl (hL.cellB 0 rfl rfl)) ?_))
        obtain ⟨x50, hx51, hm⟩ := bndE hm
        refine OW.cons (OP.yes' rfl rfl hb49 (OP.call rfl (x_call (vs := [(.int .i64 a0.Code), (.int .i64 1), (.int .i64 9)]) Try_C59 ⟨rfl, rfl, rfl, trivial⟩) (M.impl_within_ok _ a0.Code 1 9 hx51) ?_))
        rintro e52 wd53 ⟨rfl, hF54⟩
        refine ⟨_, rfl, ?_⟩
        have hL := hL.pushAll hF54
        simp only [List.cons_append, List.nil_append, List.set_cons_zero, List.set_cons_succ] at hL
        refine OW.cons (OP.val (v := (.bool x50)) rfl (x_pickT' rfl hb49 rfl) ?_)
        refine OW.cons (OP.val (v := (.bool x50)) rfl (x_move) ?_)
        refine ifB_elim hm (fun hb55 hm => ?_) (fun hb55 hm => ?_)
        · refine OW.cons (OP.yes' rfl rfl hb55 (OP.val (v := (.pointer (some ⟨b2, 2, none⟩))) rfl (x_fieldAddr (fsz := 1) 0 2 2 Try.underlying88 rfl Try_T2 rfl rfl rfl) ?_))
          refine OW.cons (OP.yes' rfl rfl hb55 (OP.val (v := (.int .i64 a0.Time)) rfl (x_load1 Try.underlying2 rfl rfl (hL.cellB 0 rfl rfl)) ?_))
          refine OW.cons (OP.yes' rfl rfl hb55 (OP.val (v := (.bool (a0.Time == 0))) rfl (x_eql rfl rfl) ?_))
          refine OW.cons (OP.val (v := (.bool (a0.Time == 0))) rfl (x_pickT' rfl hb55 rfl) ?_)
          refine OW.cons (OP.val (v := (.bool (a0.Time == 0))) rfl (x_assign) ?_)
          refine OW.nil ?_
          exact ⟨a0.Time == 0, hm, ⟨rfl, hL⟩⟩
        · refine OW.cons (OP.no' rfl rfl hb55 rfl ?_)
          refine OW.cons (OP.no' rfl rfl hb55 rfl ?_)
          refine OW.cons (OP.no' rfl rfl hb55 rfl ?_)
          refine OW.cons (OP.val (v := (.bool false)) rfl (x_pickF' rfl hb55 rfl) ?_)
          refine OW.cons (OP.val (v := (.bool false)) rfl (x_assign) ?_)
          refine OW.nil ?_
          exact ⟨false, hm, ⟨rfl, hL⟩⟩
      · refine OW.cons (OP.no' rfl rfl hb49 rfl ?_)
        refine OW.cons (OP.no' rfl rfl hb49 rfl ?_)
        refine OW.cons (OP.no' rfl rfl hb49 rfl ?_)
        refine OW.cons (OP.val (v := (.bool false)) rfl (x_pickF' rfl hb49 rfl) ?_)
        refine OW.cons (OP.val (v := (.bool false)) rfl (x_move) ?_)
        refine OW.cons (OP.no' rfl rfl rfl rfl ?_)
        refine OW.cons (OP.no' rfl rfl rfl rfl ?_)
        refine OW.cons (OP.no' rfl rfl rfl rfl ?_)
        refine OW.cons (OP.val (v := (.bool false)) rfl (x_pickF' rfl rfl rfl) ?_)
        refine OW.cons (OP.val (v := (.bool false)) rfl (x_assign) ?_)
        refine OW.nil ?_
        exact ⟨false, hm, ⟨rfl, hL⟩⟩
    · intro s_j2 F41 wd42 hJ hm
      unfold M.impl_IsFinish_j2 at hm
      obtain ⟨f43, hL⟩ := hJ
      refine CW.ret ?_
      obtain rfl := Option.some.inj hm
      exact RR1 rfl f43 ⟨rfl, hL.fresh 1 rfl [] (by decide) (by decide) rfl⟩

theorem M.impl_areFinishes_ok (w0 : World) (a0 : Int) (a1 : List Finish) {v1 : Value} (h2 : rdL (· < w0.heap.size) w0 v1 a1) {r : Bool} (hm : M.impl_areFinishes a0 a1 = some r) :
    Calls Try.prog 54 #[(.int .i64 a0), v1] w0 fun e w' => e = .returned (.bool r) ∧ Fresh w0 w' [] := by
  unfold M.impl_areFinishes at hm
  refine calls_CW (args := [(.int .i64 a0), v1]) Try.func54 rfl rfl rfl ?_
  have hL := Hp.start w0
  refine CW.seq ?_
  refine CW.regionL ?_
  refine OW.cons (OP.val (v := (.bool false)) rfl (x_assign) ?_)
  refine OW.nil ?_
  refine CW.seq ?_
  refine CW.seqJ (fun (s_j1 : Bool) (F : Fr) (w : World) => F 1 = v1 ∧ F 15 = (.bool s_j1) ∧ Hp w0 [Ent.snap w0 w0.heap.size] w) (fun s_j1 => M.impl_areFinishes_j1 a1 s_j1 = some r) ?_ ?_
  · refine CW.regionL ?_
    refine OW.cons (OP.val (v := (.int .i64 a0)) rfl (x_move) ?_)
    obtain ⟨x118, hx119, hm⟩ := bndE hm
    refine OW.cons (OP.call rfl (x_call (vs := [(.int .i64 a0), (.int .i64 1), (.int .i64 16)]) Try_C59 ⟨rfl, rfl, rfl, trivial⟩) (M.impl_within_ok _ a0 1 16 hx119) ?_)
    rintro e120 wd121 ⟨rfl, hF122⟩
    refine ⟨_, rfl, ?_⟩
    have hL := hL.pushAll hF122
    simp only [List.cons_append, List.nil_append, List.set_cons_zero, List.set_cons_succ] at hL
    refine OW.cons (OP.val (v := (.bool (!x118))) rfl (x_not rfl) ?_)
    refine OW.cons (OP.val (v := (.bool (!x118))) rfl (x_move) ?_)
    refine ifB_elim hm (fun hb123 hm => ?_) (fun hb123 hm => ?_)
    · refine OW.cons (OP.no' rfl rfl hb123 rfl ?_)
      refine OW.cons (OP.no' rfl rfl hb123 rfl ?_)
      refine OW.cons (OP.no' rfl rfl hb123 rfl ?_)
      refine OW.cons (OP.no' rfl rfl hb123 rfl ?_)
      refine OW.cons (OP.val (v := (.bool true)) rfl (x_pickT' rfl hb123 rfl) ?_)
      refine OW.nil ?_
      exact ⟨true, hm, ⟨rfl, rfl, hL⟩⟩
    · refine OW.cons (OP.yes' rfl rfl hb123 (OP.val (v := v1) rfl (x_move) ?_))
      refine OW.cons (OP.yes' rfl rfl hb123 (OP.val (v := (.int .i64 (a1.length : Int))) rfl (x_lenR Try.underlying27 rfl (hL.rdS 0 rfl h2)) ?_))
      refine OW.cons (OP.yes' rfl rfl hb123 (OP.val (v := (.int .i64 a0)) rfl (x_move) ?_))
      refine OW.cons (OP.yes' rfl rfl hb123 (OP.val (v := (.bool ((a1.length : Int) != a0))) rfl (x_neq rfl rfl) ?_))
      refine OW.cons (OP.val (v := (.bool ((a1.length : Int) != a0))) rfl (x_pickF' rfl hb123 rfl) ?_)
      refine OW.nil ?_
      exact ⟨(a1.length : Int) != a0, hm, ⟨rfl, rfl, hL⟩⟩
  · intro s_j1 F9 wd10 hJ hm
    unfold M.impl_areFinishes_j1 at hm
    obtain ⟨f11, f12, hL⟩ := hJ
    refine CW.condM (t := s_j1) f12 hm (fun hb13 hm => ?_) (fun hb13 hm => ?_)
    · refine CW.seq ?_
      refine CW.regionL ?_
      refine OW.cons (OP.val (v := (.bool false)) rfl (x_assign) ?_)
      refine OW.nil ?_
      refine CW.ret ?_
      obtain rfl := Option.some.inj hm
      exact RR1 rfl rfl ⟨rfl, hL.fresh 0 rfl [] (by decide) (by decide) rfl⟩
    · refine CW.skip ?_
      refine CW.seq ?_
      refine CW.seq ?_
      refine CW.regionL ?_
      refine OW.cons (OP.val (v := v1) rfl (x_mv f11) ?_)
      refine OW.cons (OP.val (v := (.int .i64 (a1.length : Int))) rfl (x_lenR Try.underlying27 rfl (hL.rdS 0 rfl h2)) ?_)
      refine OW.cons (OP.val (v := (.int .i64 0)) rfl (x_move) ?_)
      refine OW.nil ?_
      obtain ⟨o76, ho77, hm⟩ := bndE hm
      refine CW.loopB (fun (s_l1 : Int) (F : Fr) (w : World) => F 16 = v1 ∧ F 17 = (.int .i64 (a1.length : Int)) ∧ F 18 = (.int .i64 s_l1) ∧ Hp w0 [Ent.snap w0 w0.heap.size] w) (fun o => outc o (fun x => some x) (fun s => M.impl_areFinishes_a1 s) = some r) ho77 hm ⟨rfl, rfl, rfl, hL⟩ ?_ ?_
      · intro s_l1 F78 wd79 hJ hm
        have hm := outcE hm
        have hm : M.impl_areFinishes_a1 s_l1 = some r := hm
        unfold M.impl_areFinishes_a1 at hm
        obtain ⟨f80, f81, f82, hL⟩ := hJ
        refine CW.seq ?_
        refine CW.regionL ?_
        refine OW.cons (OP.val (v := (.bool true)) rfl (x_assign) ?_)
        refine OW.nil ?_
        refine CW.ret ?_
        obtain rfl := Option.some.inj hm
        exact RR1 rfl rfl ⟨rfl, hL.fresh 0 rfl [] (by decide) (by decide) rfl⟩
      · intro s_l1 F83 wd84 t74 hJ hm hr75
        unfold M.impl_areFinishes_l1 at hm
        obtain ⟨f85, f86, f87, hL⟩ := hJ
        refine CW.seq ?_
        refine CW.regionL ?_
        refine OW.cons (OP.val (v := (.bool (decide (s_l1 < (a1.length : Int))))) rfl (x_lss f87 f86) ?_)
        refine OW.nil ?_
        refine CW.seq ?_
        refine CW.condM (t := decide (s_l1 < (a1.length : Int))) rfl hm (fun hb88 hm => ?_) (fun hb88 hm => ?_)
        · refine CW.skip ?_
          refine CW.seq ?_
          refine CW.block ?_
          refine CW.seq ?_
          refine CW.regionL ?_
          refine OW.cons (OP.val (v := (.int .i64 s_l1)) rfl (x_mv f87) ?_)
          obtain ⟨x89, ha90, hm⟩ := bndE hm
          obtain ⟨hz91, ha95⟩ := idxE ha90
          obtain ⟨b92, q93, hix94⟩ := rdL_ix (hL.rdS 0 rfl h2) hz91 ha95
          refine OW.cons (OP.val (v := (.pointer (some ⟨b92, q93, none⟩))) rfl (x_ix Try.underlying27 Try_T88 f85 f87 hix94) ?_)
          refine OW.cons (OP.val (v := (.agg #[(.int .i64 x89.Boat), (.int .i64 x89.Code), (.int .i64 x89.Time)])) rfl (x_loadN (cs := [(.int .i64 x89.Boat), (.int .i64 x89.Code), (.int .i64 x89.Time)]) Try.underlying88 Try_T88 rfl rfl (rdF_cells (hL.rdS 0 rfl h2) hix94 ha95)) ?_)
          refine OW.cons (S_alloc (cs := #[(.int .i64 0), (.int .i64 0), (.int .i64 0)]) hL Try_T88 rfl rfl ?_)
          intro wd96 b97 hL
          refine OW.cons (OP.val (v := (.int .i64 s_l1)) rfl (x_assign) ?_)
          refine OW.cons (S_storeN (l := [(.int .i64 x89.Boat), (.int .i64 x89.Code), (.int .i64 x89.Time)]) (cs' := #[(.int .i64 x89.Boat), (.int .i64 x89.Code), (.int .i64 x89.Time)]) hL 0 rfl Try_T88 rfl rfl (List.forall_mem_cons.2 ⟨rfl, (List.forall_mem_cons.2 ⟨rfl, (List.forall_mem_cons.2 ⟨rfl, (fun _ h => by cases h)⟩)⟩)⟩) rfl (Nat.le_of_ble_eq_true rfl) rfl ?_)
          intro wd98 hL
          refine OW.nil ?_
          refine CW.seqJ (fun (s_j2 : Bool) (F : Fr) (w : World) => F 16 = v1 ∧ F 17 = (.int .i64 (a1.length : Int)) ∧ F 18 = (.int .i64 s_l1) ∧ F 31 = (.bool s_j2) ∧ Hp w0 [Ent.blk b97 88 #[(.int .i64 x89.Boat), (.int .i64 x89.Code), (.int .i64 x89.Time)], Ent.snap w0 w0.heap.size] w) (fun s_j2 => M.impl_areFinishes_j2 s_l1 s_j2 = some t74) ?_ ?_
          · refine CW.regionL ?_
            refine OW.cons (OP.val (v := (.pointer (some ⟨b97, 0, none⟩))) rfl (x_fieldAddr (fsz := 1) 0 0 0 Try.underlying88 rfl Try_T2 rfl rfl rfl) ?_)
            refine OW.cons (OP.val (v := (.int .i64 x89.Boat)) rfl (x_load1 Try.underlying2 rfl rfl (hL.cellB 0 rfl rfl)) ?_)
            refine OW.cons (OP.val (v := (.int .i64 s_l1)) rfl (x_move) ?_)
            refine OW.cons (OP.val (v := (.bool (x89.Boat != s_l1))) rfl (x_neq rfl rfl) ?_)
            refine OW.cons (OP.val (v := (.bool (x89.Boat != s_l1))) rfl (x_move) ?_)
            refine ifB_elim hm (fun hb112 hm => ?_) (fun hb112 hm => ?_)
            · refine OW.cons (OP.no' rfl rfl hb112 rfl ?_)
              refine OW.cons (OP.no' rfl rfl hb112 rfl ?_)
              refine OW.cons (OP.no' rfl rfl hb112 rfl ?_)
              refine OW.cons (OP.val (v := (.bool true)) rfl (x_pickT' rfl hb112 rfl) ?_)
              refine OW.nil ?_
              exact ⟨true, hm, ⟨f85, f86, f87, rfl, hL⟩⟩
            · refine OW.cons (OP.yes' rfl rfl hb112 (OP.val (v := (.agg #[(.int .i64 x89.Boat), (.int .i64 x89.Code), (.int .i64 x89.Time)])) rfl (x_loadN (cs := [(.int .i64 x89.Boat), (.int .i64 x89.Code), (.int .i64 x89.Time)]) Try.underlying88 Try_T88 rfl rfl (hL.cellsB 0 rfl (o := 0) (l := [(.int .i64 x89.Boat), (.int .i64 x89.Code), (.int .i64 x89.Time)]) (by intro j u hj; exact (by simpa using hj)))) ?_))
              obtain ⟨x113, hx114, hm⟩ := bndE hm
              refine OW.cons (OP.yes' rfl rfl hb112 (OP.call rfl (x_call (vs := [(.agg #[(.int .i64 x89.Boat), (.int .i64 x89.Code), (.int .i64 x89.Time)])]) Try_C84 ⟨rfl, trivial⟩) (M.impl_IsFinish_ok _ x89 hx114) ?_))
              rintro e115 wd116 ⟨rfl, hF117⟩
              refine ⟨_, rfl, ?_⟩
              have hL := hL.pushAll hF117
              simp only [List.cons_append, List.nil_append, List.set_cons_zero, List.set_cons_succ] at hL
              refine OW.cons (OP.yes' rfl rfl hb112 (OP.val (v := (.bool (!x113))) rfl (x_not rfl) ?_))
              refine OW.cons (OP.val (v := (.bool (!x113))) rfl (x_pickF' rfl hb112 rfl) ?_)
              refine OW.nil ?_
              exact ⟨!x113, hm, ⟨f85, f86, f87, rfl, hL⟩⟩
          · intro s_j2 F105 wd106 hJ hm
            unfold M.impl_areFinishes_j2 at hm
            obtain ⟨f107, f108, f109, f110, hL⟩ := hJ
            refine CW.condM (t := s_j2) f110 hm (fun hb111 hm => ?_) (fun hb111 hm => ?_)
            · refine CW.seq ?_
              refine CW.regionL ?_
              refine OW.cons (OP.val (v := (.bool false)) rfl (x_assign) ?_)
              refine OW.nil ?_
              refine CW.ret ?_
              obtain rfl := Option.some.inj hm
              have hm := hr75 _ rfl
              obtain rfl := Option.some.inj hm
              exact RR1 rfl rfl ⟨rfl, hL.fresh 1 rfl [] (by decide) (by decide) rfl⟩
            · refine CW.skip ?_
              refine CW.regionL ?_
              refine OW.cons (OP.val (v := (.int .i64 (w64 (s_l1 + 1)))) rfl (x_add f109 rfl) ?_)
              refine OW.cons (OP.val (v := (.int .i64 (w64 (s_l1 + 1)))) rfl (x_move) ?_)
              refine OW.nil ?_
              have hL := hL.sel [1] (by decide) rfl
              obtain rfl := Option.some.inj hm
              exact ⟨_, rfl, ⟨f107, f108, rfl, hL⟩⟩
        · refine CW.exit ?_
          refine XJ.hit ?_
          obtain rfl := Option.some.inj hm
          exact ⟨_, rfl, ⟨f85, f86, f87, hL⟩⟩

theorem M.impl_IsRace_ok (w0 : World) (a0 : Int) (a1 : Race) {v1 : Value} (h2 : rdL (· < w0.heap.size) w0 v1 a1.Finishes) {r : Bool} (hm : M.impl_IsRace a0 a1 = some r) :
    Calls Try.prog 16 #[(.int .i64 a0), (.agg #[v1])] w0 fun e w' => e = .returned (.bool r) ∧ Fresh w0 w' [] := by
  unfold M.impl_IsRace at hm
  refine calls_CW (args := [(.int .i64 a0), (.agg #[v1])]) Try.func16 rfl rfl rfl ?_
  have hL := Hp.start w0
  refine CW.seq ?_
  refine CW.regionL ?_
  refine OW.cons (S_box (cs := #[v1]) hL rfl rfl rfl ?_)
  intro wd3 b4 hL
  refine OW.cons (OP.val (v := (.bool false)) rfl (x_assign) ?_)
  refine OW.nil ?_
  refine CW.seq ?_
  refine CW.regionL ?_
  refine OW.cons (OP.val (v := (.int .i64 a0)) rfl (x_move) ?_)
  refine OW.cons (OP.val (v := (.pointer (some ⟨b4, 0, none⟩))) rfl (x_fieldAddr (fsz := 1) 0 0 0 Try.underlying29 rfl Try_T27 rfl rfl rfl) ?_)
  refine OW.cons (OP.val (v := v1) rfl (x_load1 Try.underlying27 rfl rfl (hL.cellB 0 rfl rfl)) ?_)
  obtain ⟨x5, hx6, hm⟩ := bndE hm
  refine OW.cons (OP.call rfl (x_call (vs := [(.int .i64 a0), v1]) Try_C54 ⟨rfl, rfl, trivial⟩) (M.impl_areFinishes_ok _ a0 a1.Finishes (hL.rdS 1 rfl h2) hx6) ?_)
  rintro e7 wd8 ⟨rfl, hF9⟩
  refine ⟨_, rfl, ?_⟩
  have hL := hL.pushAll hF9
  simp only [List.cons_append, List.nil_append, List.set_cons_zero, List.set_cons_succ] at hL
  refine OW.cons (OP.val (v := (.bool x5)) rfl (x_assign) ?_)
  refine OW.nil ?_
  refine CW.ret ?_
  obtain rfl := Option.some.inj hm
  exact RR1 rfl rfl ⟨rfl, hL.fresh 1 rfl [] (by decide) (by decide) rfl⟩

theorem M.laws_eqFinish_ok (w0 : World) (a0 : Finish) (a1 : Finish) {r : Bool} (hm : M.laws_eqFinish a0 a1 = some r) :
    Calls Try.prog 85 #[(.agg #[(.int .i64 a0.Boat), (.int .i64 a0.Code), (.int .i64 a0.Time)]), (.agg #[(.int .i64 a1.Boat), (.int .i64 a1.Code), (.int .i64 a1.Time)])] w0 fun e w' => e = .returned (.bool r) ∧ Fresh w0 w' [] := by
  unfold M.laws_eqFinish at hm
  refine calls_CW (args := [(.agg #[(.int .i64 a0.Boat), (.int .i64 a0.Code), (.int .i64 a0.Time)]), (.agg #[(.int .i64 a1.Boat), (.int .i64 a1.Code), (.int .i64 a1.Time)])]) Try.func85 rfl rfl rfl ?_
  have hL := Hp.start w0
  refine CW.seq ?_
  refine CW.regionL ?_
  refine OW.cons (S_box (cs := #[(.int .i64 a0.Boat), (.int .i64 a0.Code), (.int .i64 a0.Time)]) hL rfl rfl rfl ?_)
  intro wd1 b2 hL
  refine OW.cons (S_box (cs := #[(.int .i64 a1.Boat), (.int .i64 a1.Code), (.int .i64 a1.Time)]) hL rfl rfl rfl ?_)
  intro wd3 b4 hL
  refine OW.cons (OP.val (v := (.bool false)) rfl (x_assign) ?_)
  refine OW.nil ?_
  refine CW.seq ?_
  refine CW.seq ?_
  refine CW.regionL ?_
  refine OW.cons (OP.val (v := (.pointer (some ⟨b2, 0, none⟩))) rfl (x_fieldAddr (fsz := 1) 0 0 0 Try.underlying88 rfl Try_T2 rfl rfl rfl) ?_)
  refine OW.cons (OP.val (v := (.int .i64 a0.Boat)) rfl (x_load1 Try.underlying2 rfl rfl (hL.cellB 1 rfl rfl)) ?_)
  refine OW.cons (OP.val (v := (.pointer (some ⟨b4, 0, none⟩))) rfl (x_fieldAddr (fsz := 1) 0 0 0 Try.underlying88 rfl Try_T2 rfl rfl rfl) ?_)
  refine OW.cons (OP.val (v := (.int .i64 a1.Boat)) rfl (x_load1 Try.underlying2 rfl rfl (hL.cellB 0 rfl rfl)) ?_)
  refine OW.cons (OP.val (v := (.bool (a0.Boat != a1.Boat))) rfl (x_neq rfl rfl) ?_)
  refine OW.nil ?_
  refine CW.condM (t := a0.Boat != a1.Boat) rfl hm (fun hb5 hm => ?_) (fun hb5 hm => ?_)
  · refine CW.seq ?_
    refine CW.regionL ?_
    refine OW.cons (OP.val (v := (.bool false)) rfl (x_assign) ?_)
    refine OW.nil ?_
    refine CW.ret ?_
    obtain rfl := Option.some.inj hm
    exact RR1 rfl rfl ⟨rfl, hL.fresh 2 rfl [] (by decide) (by decide) rfl⟩
  · refine CW.skip ?_
    refine CW.seq ?_
    refine CW.seq ?_
    refine CW.regionL ?_
    refine OW.cons (OP.val (v := (.pointer (some ⟨b2, 1, none⟩))) rfl (x_fieldAddr (fsz := 1) 0 1 1 Try.underlying88 rfl Try_T2 rfl rfl rfl) ?_)
    refine OW.cons (OP.val (v := (.int .i64 a0.Code)) rfl (x_load1 Try.underlying2 rfl rfl (hL.cellB 1 rfl rfl)) ?_)
    refine OW.cons (OP.val (v := (.pointer (some ⟨b4, 1, none⟩))) rfl (x_fieldAddr (fsz := 1) 0 1 1 Try.underlying88 rfl Try_T2 rfl rfl rfl) ?_)
    refine OW.cons (OP.val (v := (.int .i64 a1.Code)) rfl (x_load1 Try.underlying2 rfl rfl (hL.cellB 0 rfl rfl)) ?_)
    refine OW.cons (OP.val (v := (.bool (a0.Code != a1.Code))) rfl (x_neq rfl rfl) ?_)
    refine OW.nil ?_
    refine CW.condM (t := a0.Code != a1.Code) rfl hm (fun hb6 hm => ?_) (fun hb6 hm => ?_)
    · refine CW.seq ?_
      refine CW.regionL ?_
      refine OW.cons (OP.val (v := (.bool false)) rfl (x_assign) ?_)
      refine OW.nil ?_
      refine CW.ret ?_
      obtain rfl := Option.some.inj hm
      exact RR1 rfl rfl ⟨rfl, hL.fresh 2 rfl [] (by decide) (by decide) rfl⟩
    · refine CW.skip ?_
      refine CW.seq ?_
      refine CW.seq ?_
      refine CW.regionL ?_
      refine OW.cons (OP.val (v := (.pointer (some ⟨b2, 2, none⟩))) rfl (x_fieldAddr (fsz := 1) 0 2 2 Try.underlying88 rfl Try_T2 rfl rfl rfl) ?_)
      refine OW.cons (OP.val (v := (.int .i64 a0.Time)) rfl (x_load1 Try.underlying2 rfl rfl (hL.cellB 1 rfl rfl)) ?_)
      refine OW.cons (OP.val (v := (.pointer (some ⟨b4, 2, none⟩))) rfl (x_fieldAddr (fsz := 1) 0 2 2 Try.underlying88 rfl Try_T2 rfl rfl rfl) ?_)
      refine OW.cons (OP.val (v := (.int .i64 a1.Time)) rfl (x_load1 Try.underlying2 rfl rfl (hL.cellB 0 rfl rfl)) ?_)
      refine OW.cons (OP.val (v := (.bool (a0.Time != a1.Time))) rfl (x_neq rfl rfl) ?_)
      refine OW.nil ?_
      refine CW.condM (t := a0.Time != a1.Time) rfl hm (fun hb7 hm => ?_) (fun hb7 hm => ?_)
      · refine CW.seq ?_
        refine CW.regionL ?_
        refine OW.cons (OP.val (v := (.bool false)) rfl (x_assign) ?_)
        refine OW.nil ?_
        refine CW.ret ?_
        obtain rfl := Option.some.inj hm
        exact RR1 rfl rfl ⟨rfl, hL.fresh 2 rfl [] (by decide) (by decide) rfl⟩
      · refine CW.skip ?_
        refine CW.seq ?_
        refine CW.regionL ?_
        refine OW.cons (OP.val (v := (.bool true)) rfl (x_assign) ?_)
        refine OW.nil ?_
        refine CW.ret ?_
        obtain rfl := Option.some.inj hm
        exact RR1 rfl rfl ⟨rfl, hL.fresh 2 rfl [] (by decide) (by decide) rfl⟩

theorem M.laws_eqFinishS_ok (w0 : World) (a0 : List Finish) {v1 : Value} (h2 : rdL (· < w0.heap.size) w0 v1 a0) (a1 : List Finish) {v3 : Value} (h4 : rdL (· < w0.heap.size) w0 v3 a1) {r : Bool} (hm : M.laws_eqFinishS a0 a1 = some r) :
    Calls Try.prog 55 #[v1, v3] w0 fun e w' => e = .returned (.bool r) ∧ Fresh w0 w' [] := by
  unfold M.laws_eqFinishS at hm
  refine calls_CW (args := [v1, v3]) Try.func55 rfl rfl rfl ?_
  have hL := Hp.start w0
  refine CW.seq ?_
  refine CW.regionL ?_
  refine OW.cons (OP.val (v := (.bool false)) rfl (x_assign) ?_)
  refine OW.nil ?_
  refine CW.seq ?_
  refine CW.seq ?_
  refine CW.regionL ?_
  refine OW.cons (OP.val (v := v1) rfl (x_move) ?_)
  refine OW.cons (OP.val (v := (.int .i64 (a0.length : Int))) rfl (x_lenR Try.underlying27 rfl (hL.rdS 0 rfl h2)) ?_)
  refine OW.cons (OP.val (v := v3) rfl (x_move) ?_)
  refine OW.cons (OP.val (v := (.int .i64 (a1.length : Int))) rfl (x_lenR Try.underlying27 rfl (hL.rdS 0 rfl h4)) ?_)
  refine OW.cons (OP.val (v := (.bool ((a0.length : Int) != (a1.length : Int)))) rfl (x_neq rfl rfl) ?_)
  refine OW.nil ?_
  refine CW.condM (t := (a0.length : Int) != (a1.length : Int)) rfl hm (fun hb5 hm => ?_) (fun hb5 hm => ?_)
  · refine CW.seq ?_
    refine CW.regionL ?_
    refine OW.cons (OP.val (v := (.bool false)) rfl (x_assign) ?_)
    refine OW.nil ?_
    refine CW.ret ?_
    obtain rfl := Option.some.inj hm
    exact RR1 rfl rfl ⟨rfl, hL.fresh 0 rfl [] (by decide) (by decide) rfl⟩
  · refine CW.skip ?_
    refine CW.seq ?_
    refine CW.seq ?_
    refine CW.regionL ?_
    refine OW.cons (OP.val (v := (.int .i64 0)) rfl (x_assign) ?_)
    refine OW.nil ?_
    obtain ⟨o46, ho47, hm⟩ := bndE hm
    refine CW.loopB (fun (s_l1 : Int) (F : Fr) (w : World) => F 0 = v1 ∧ F 1 = v3 ∧ F 5 = (.int .i64 s_l1) ∧ Hp w0 [Ent.snap w0 w0.heap.size] w) (fun o => outc o (fun x => some x) (fun s => M.laws_eqFinishS_a1 s) = some r) ho47 hm ⟨rfl, rfl, rfl, hL⟩ ?_ ?_
    · intro s_l1 F48 wd49 hJ hm
      have hm := outcE hm
      have hm : M.laws_eqFinishS_a1 s_l1 = some r := hm
      unfold M.laws_eqFinishS_a1 at hm
      obtain ⟨f50, f51, f52, hL⟩ := hJ
      refine CW.seq ?_
      refine CW.regionL ?_
      refine OW.cons (OP.val (v := (.bool true)) rfl (x_assign) ?_)
      refine OW.nil ?_
      refine CW.ret ?_
      obtain rfl := Option.some.inj hm
      exact RR1 rfl rfl ⟨rfl, hL.fresh 0 rfl [] (by decide) (by decide) rfl⟩
    · intro s_l1 F53 wd54 t44 hJ hm hr45
      unfold M.laws_eqFinishS_l1 at hm
      obtain ⟨f55, f56, f57, hL⟩ := hJ
      refine CW.seq ?_
      refine CW.seq ?_
      refine CW.regionL ?_
      refine OW.cons (OP.val (v := (.int .i64 s_l1)) rfl (x_mv f57) ?_)
      refine OW.cons (OP.val (v := v1) rfl (x_mv f55) ?_)
      refine OW.cons (OP.val (v := (.int .i64 (a0.length : Int))) rfl (x_lenR Try.underlying27 rfl (hL.rdS 0 rfl h2)) ?_)
      refine OW.cons (OP.val (v := (.bool (decide (s_l1 < (a0.length : Int))))) rfl (x_lss rfl rfl) ?_)
      refine OW.nil ?_
      refine CW.condM (t := decide (s_l1 < (a0.length : Int))) rfl hm (fun hb58 hm => ?_) (fun hb58 hm => ?_)
      · refine CW.skip ?_
        refine CW.seq ?_
        refine CW.block ?_
        refine CW.seq ?_
        refine CW.draw Try_mixed ?_
        have hL := hL.call (Mod.drew _)
        refine DW.pre (fuel := 0) (fin := (((((((((((Array.replicate 10 false).setIfInBounds 0 true).setIfInBounds 1 true).setIfInBounds 2 true).setIfInBounds 3 true).setIfInBounds 4 true).setIfInBounds 5 true).setIfInBounds 6 true).setIfInBounds 7 true).setIfInBounds 8 true).setIfInBounds 9 true)) (C := fun w' => Mod None_ _ w') [0, 1, 2, 3, 4, 5, 6, 7, 8, 9] (Mod.refl _ _) (by kernel_rfl) (by kernel_rfl) ?_
        refine QW.cons rfl (QP.val (v := v1) rfl (fun w' hm' => x_mv f55) ?_)
        refine QW.cons rfl (QP.val (v := (.int .i64 s_l1)) rfl (fun w' hm' => x_mv f57) ?_)
        obtain ⟨x59, ha60, hm⟩ := bndE hm
        obtain ⟨hz61, ha65⟩ := idxE ha60
        obtain ⟨b62, q63, hix64⟩ := rdL_ix (hL.rdS 0 rfl h2) hz61 ha65
        refine QW.cons rfl (QP.val (v := (.pointer (some ⟨b62, q63, none⟩))) rfl (fun w' hm' => x_ix Try.underlying27 Try_T88 rfl rfl hix64) ?_)
        refine QW.cons rfl (QP.val (v := (.agg #[(.int .i64 x59.Boat), (.int .i64 x59.Code), (.int .i64 x59.Time)])) rfl (fun w' hm' => x_loadN (cs := [(.int .i64 x59.Boat), (.int .i64 x59.Code), (.int .i64 x59.Time)]) Try.underlying88 Try_T88 rfl rfl (rdF_cells ((hL.call hm').rdS 0 rfl h2) hix64 ha65)) ?_)
        refine QW.cons rfl (QP.val (v := v3) rfl (fun w' hm' => x_mv f56) ?_)
        refine QW.cons rfl (QP.val (v := (.int .i64 s_l1)) rfl (fun w' hm' => x_mv f57) ?_)
        obtain ⟨x66, ha67, hm⟩ := bndE hm
        obtain ⟨hz68, ha72⟩ := idxE ha67
        obtain ⟨b69, q70, hix71⟩ := rdL_ix (hL.rdS 0 rfl h4) hz68 ha72
        refine QW.cons rfl (QP.val (v := (.pointer (some ⟨b69, q70, none⟩))) rfl (fun w' hm' => x_ix Try.underlying27 Try_T88 rfl rfl hix71) ?_)
        refine QW.cons rfl (QP.val (v := (.agg #[(.int .i64 x66.Boat), (.int .i64 x66.Code), (.int .i64 x66.Time)])) rfl (fun w' hm' => x_loadN (cs := [(.int .i64 x66.Boat), (.int .i64 x66.Code), (.int .i64 x66.Time)]) Try.underlying88 Try_T88 rfl rfl (rdF_cells ((hL.call hm').rdS 0 rfl h4) hix71 ha72)) ?_)
        obtain ⟨x73, hx74, hm⟩ := bndE hm
        refine QW.cons rfl (QP.call (v := (.bool x73)) rfl (fun w' hm' => x_call (vs := [(.agg #[(.int .i64 x59.Boat), (.int .i64 x59.Code), (.int .i64 x59.Time)]), (.agg #[(.int .i64 x66.Boat), (.int .i64 x66.Code), (.int .i64 x66.Time)])]) Try_C85 ⟨rfl, rfl, trivial⟩) (fun w' hm' => (M.laws_eqFinish_ok w' x59 x66 hx74).mono (fun e w'' h => ⟨h.1, hm'.trans h.2.mod⟩)) ?_)
        refine QW.cons rfl (QP.val (v := (.bool (!x73))) rfl (fun w' hm' => x_not rfl) ?_)
        refine QW.nil ?_
        intro wd75 hmod
        have hL := hL.call hmod
        refine DW.done (by kernel_rfl) ?_
        refine CW.condM (t := !x73) rfl hm (fun hb76 hm => ?_) (fun hb76 hm => ?_)
        · refine CW.seq ?_
          refine CW.regionL ?_
          refine OW.cons (OP.val (v := (.bool false)) rfl (x_assign) ?_)
          refine OW.nil ?_
          refine CW.ret ?_
          obtain rfl := Option.some.inj hm
          have hm := hr45 _ rfl
          obtain rfl := Option.some.inj hm
          exact RR1 rfl rfl ⟨rfl, hL.fresh 0 rfl [] (by decide) (by decide) rfl⟩
        · refine CW.skip ?_
          refine CW.regionL ?_
          refine OW.cons (OP.val (v := (.int .i64 s_l1)) rfl (x_mv f57) ?_)
          refine OW.cons (OP.val (v := (.int .i64 (w64 (s_l1 + 1)))) rfl (x_add rfl rfl) ?_)
          refine OW.cons (OP.val (v := (.int .i64 (w64 (s_l1 + 1)))) rfl (x_assign) ?_)
          refine OW.nil ?_
          obtain rfl := Option.some.inj hm
          exact ⟨_, rfl, ⟨f55, f56, rfl, hL⟩⟩
      · refine CW.exit ?_
        refine XJ.hit ?_
        obtain rfl := Option.some.inj hm
        exact ⟨_, rfl, ⟨f55, f56, f57, hL⟩⟩

theorem M.laws_eqRace_ok (w0 : World) (a0 : Race) {v1 : Value} (h2 : rdL (· < w0.heap.size) w0 v1 a0.Finishes) (a1 : Race) {v3 : Value} (h4 : rdL (· < w0.heap.size) w0 v3 a1.Finishes) {r : Bool} (hm : M.laws_eqRace a0 a1 = some r) :
    Calls Try.prog 17 #[(.agg #[v1]), (.agg #[v3])] w0 fun e w' => e = .returned (.bool r) ∧ Fresh w0 w' [] := by
  unfold M.laws_eqRace at hm
  refine calls_CW (args := [(.agg #[v1]), (.agg #[v3])]) Try.func17 rfl rfl rfl ?_
  have hL := Hp.start w0
  refine CW.seq ?_
  refine CW.regionL ?_
  refine OW.cons (S_box (cs := #[v1]) hL rfl rfl rfl ?_)
  intro wd5 b6 hL
  refine OW.cons (S_box (cs := #[v3]) hL rfl rfl rfl ?_)
  intro wd7 b8 hL
  refine OW.cons (OP.val (v := (.bool false)) rfl (x_assign) ?_)
  refine OW.nil ?_
  refine CW.seq ?_
  refine CW.seq ?_
  refine CW.regionL ?_
  refine OW.cons (OP.val (v := (.pointer (some ⟨b6, 0, none⟩))) rfl (x_fieldAddr (fsz := 1) 0 0 0 Try.underlying29 rfl Try_T27 rfl rfl rfl) ?_)
  refine OW.cons (OP.val (v := v1) rfl (x_load1 Try.underlying27 rfl rfl (hL.cellB 1 rfl rfl)) ?_)
  refine OW.cons (OP.val (v := (.pointer (some ⟨b8, 0, none⟩))) rfl (x_fieldAddr (fsz := 1) 0 0 0 Try.underlying29 rfl Try_T27 rfl rfl rfl) ?_)
  refine OW.cons (OP.val (v := v3) rfl (x_load1 Try.underlying27 rfl rfl (hL.cellB 0 rfl rfl)) ?_)
  obtain ⟨x9, hx10, hm⟩ := bndE hm
  refine OW.cons (OP.call rfl (x_call (vs := [v1, v3]) Try_C55 ⟨rfl, rfl, trivial⟩) (M.laws_eqFinishS_ok _ a0.Finishes (hL.rdS 2 rfl h2) a1.Finishes (hL.rdS 2 rfl h4) hx10) ?_)
  rintro e11 wd12 ⟨rfl, hF13⟩
  refine ⟨_, rfl, ?_⟩
  have hL := hL.pushAll hF13
  simp only [List.cons_append, List.nil_append, List.set_cons_zero, List.set_cons_succ] at hL
  refine OW.cons (OP.val (v := (.bool (!x9))) rfl (x_not rfl) ?_)
  refine OW.nil ?_
  refine CW.condM (t := !x9) rfl hm (fun hb14 hm => ?_) (fun hb14 hm => ?_)
  · refine CW.seq ?_
    refine CW.regionL ?_
    refine OW.cons (OP.val (v := (.bool false)) rfl (x_assign) ?_)
    refine OW.nil ?_
    refine CW.ret ?_
    obtain rfl := Option.some.inj hm
    exact RR1 rfl rfl ⟨rfl, hL.fresh 2 rfl [] (by decide) (by decide) rfl⟩
  · refine CW.skip ?_
    refine CW.seq ?_
    refine CW.regionL ?_
    refine OW.cons (OP.val (v := (.bool true)) rfl (x_assign) ?_)
    refine OW.nil ?_
    refine CW.ret ?_
    obtain rfl := Option.some.inj hm
    exact RR1 rfl rfl ⟨rfl, hL.fresh 2 rfl [] (by decide) (by decide) rfl⟩

theorem M.laws_eqInt64S_ok (w0 : World) (a0 : List Int) {v1 : Value} (h2 : rdL (· < w0.heap.size) w0 v1 a0) (a1 : List Int) {v3 : Value} (h4 : rdL (· < w0.heap.size) w0 v3 a1) {r : Bool} (hm : M.laws_eqInt64S a0 a1 = some r) :
    Calls Try.prog 30 #[v1, v3] w0 fun e w' => e = .returned (.bool r) ∧ Fresh w0 w' [] := by
  unfold M.laws_eqInt64S at hm
  refine calls_CW (args := [v1, v3]) Try.func30 rfl rfl rfl ?_
  have hL := Hp.start w0
  refine CW.seq ?_
  refine CW.regionL ?_
  refine OW.cons (OP.val (v := (.bool false)) rfl (x_assign) ?_)
  refine OW.nil ?_
  refine CW.seq ?_
  refine CW.seq ?_
  refine CW.regionL ?_
  refine OW.cons (OP.val (v := v1) rfl (x_move) ?_)
  refine OW.cons (OP.val (v := (.int .i64 (a0.length : Int))) rfl (x_lenR Try.underlying53 rfl (hL.rdS 0 rfl h2)) ?_)
  refine OW.cons (OP.val (v := v3) rfl (x_move) ?_)
  refine OW.cons (OP.val (v := (.int .i64 (a1.length : Int))) rfl (x_lenR Try.underlying53 rfl (hL.rdS 0 rfl h4)) ?_)
  refine OW.cons (OP.val (v := (.bool ((a0.length : Int) != (a1.length : Int)))) rfl (x_neq rfl rfl) ?_)
  refine OW.nil ?_
  refine CW.condM (t := (a0.length : Int) != (a1.length : Int)) rfl hm (fun hb5 hm => ?_) (fun hb5 hm => ?_)
  · refine CW.seq ?_
    refine CW.regionL ?_
    refine OW.cons (OP.val (v := (.bool false)) rfl (x_assign) ?_)
    refine OW.nil ?_
    refine CW.ret ?_
    obtain rfl := Option.some.inj hm
    exact RR1 rfl rfl ⟨rfl, hL.fresh 0 rfl [] (by decide) (by decide) rfl⟩
  · refine CW.skip ?_
    refine CW.seq ?_
    refine CW.seq ?_
    refine CW.regionL ?_
    refine OW.cons (OP.val (v := (.int .i64 0)) rfl (x_assign) ?_)
    refine OW.nil ?_
    obtain ⟨o42, ho43, hm⟩ := bndE hm
    refine CW.loopB (fun (s_l1 : Int) (F : Fr) (w : World) => F 0 = v1 ∧ F 1 = v3 ∧ F 5 = (.int .i64 s_l1) ∧ Hp w0 [Ent.snap w0 w0.heap.size] w) (fun o => outc o (fun x => some x) (fun s => M.laws_eqInt64S_a1 s) = some r) ho43 hm ⟨rfl, rfl, rfl, hL⟩ ?_ ?_
    · intro s_l1 F44 wd45 hJ hm
      have hm := outcE hm
      have hm : M.laws_eqInt64S_a1 s_l1 = some r := hm
      unfold M.laws_eqInt64S_a1 at hm
      obtain ⟨f46, f47, f48, hL⟩ := hJ
      refine CW.seq ?_
      refine CW.regionL ?_
      refine OW.cons (OP.val (v := (.bool true)) rfl (x_assign) ?_)
      refine OW.nil ?_
      refine CW.ret ?_
      obtain rfl := Option.some.inj hm
      exact RR1 rfl rfl ⟨rfl, hL.fresh 0 rfl [] (by decide) (by decide) rfl⟩
    · intro s_l1 F49 wd50 t40 hJ hm hr41
      unfold M.laws_eqInt64S_l1 at hm
      obtain ⟨f51, f52, f53, hL⟩ := hJ
      refine CW.seq ?_
      refine CW.seq ?_
      refine CW.regionL ?_
      refine OW.cons (OP.val (v := (.int .i64 s_l1)) rfl (x_mv f53) ?_)
      refine OW.cons (OP.val (v := v1) rfl (x_mv f51) ?_)
      refine OW.cons (OP.val (v := (.int .i64 (a0.length : Int))) rfl (x_lenR Try.underlying53 rfl (hL.rdS 0 rfl h2)) ?_)
      refine OW.cons (OP.val (v := (.bool (decide (s_l1 < (a0.length : Int))))) rfl (x_lss rfl rfl) ?_)
      refine OW.nil ?_
      refine CW.condM (t := decide (s_l1 < (a0.length : Int))) rfl hm (fun hb54 hm => ?_) (fun hb54 hm => ?_)
      · refine CW.skip ?_
        refine CW.seq ?_
        refine CW.block ?_
        refine CW.seq ?_
        refine CW.draw Try_mixed ?_
        have hL := hL.call (Mod.drew _)
        refine DW.pre (fuel := 0) (fin := ((((((((((Array.replicate 9 false).setIfInBounds 0 true).setIfInBounds 1 true).setIfInBounds 2 true).setIfInBounds 3 true).setIfInBounds 4 true).setIfInBounds 5 true).setIfInBounds 6 true).setIfInBounds 7 true).setIfInBounds 8 true)) (C := fun w' => Mod None_ _ w') [0, 1, 2, 3, 4, 5, 6, 7, 8] (Mod.refl _ _) (by kernel_rfl) (by kernel_rfl) ?_
        refine QW.cons rfl (QP.val (v := v1) rfl (fun w' hm' => x_mv f51) ?_)
        refine QW.cons rfl (QP.val (v := (.int .i64 s_l1)) rfl (fun w' hm' => x_mv f53) ?_)
        obtain ⟨x55, ha56, hm⟩ := bndE hm
        obtain ⟨hz57, ha61⟩ := idxE ha56
        obtain ⟨b58, q59, hix60⟩ := rdL_ix (hL.rdS 0 rfl h2) hz57 ha61
        refine QW.cons rfl (QP.val (v := (.pointer (some ⟨b58, q59, none⟩))) rfl (fun w' hm' => x_ix Try.underlying53 Try_T2 rfl rfl hix60) ?_)
        refine QW.cons rfl (QP.val (v := (.int .i64 x55)) rfl (fun w' hm' => x_load1 Try.underlying2 rfl rfl (rdF_cells ((hL.call hm').rdS 0 rfl h2) hix60 ha61 0 _ rfl)) ?_)
        refine QW.cons rfl (QP.val (v := v3) rfl (fun w' hm' => x_mv f52) ?_)
        refine QW.cons rfl (QP.val (v := (.int .i64 s_l1)) rfl (fun w' hm' => x_mv f53) ?_)
        obtain ⟨x62, ha63, hm⟩ := bndE hm
        obtain ⟨hz64, ha68⟩ := idxE ha63
        obtain ⟨b65, q66, hix67⟩ := rdL_ix (hL.rdS 0 rfl h4) hz64 ha68
        refine QW.cons rfl (QP.val (v := (.pointer (some ⟨b65, q66, none⟩))) rfl (fun w' hm' => x_ix Try.underlying53 Try_T2 rfl rfl hix67) ?_)
        refine QW.cons rfl (QP.val (v := (.int .i64 x62)) rfl (fun w' hm' => x_load1 Try.underlying2 rfl rfl (rdF_cells ((hL.call hm').rdS 0 rfl h4) hix67 ha68 0 _ rfl)) ?_)
        refine QW.cons rfl (QP.val (v := (.bool (x55 != x62))) rfl (fun w' hm' => x_neq rfl rfl) ?_)
        refine QW.nil ?_
        intro wd69 hmod
        have hL := hL.call hmod
        refine DW.done (by kernel_rfl) ?_
        refine CW.condM (t := x55 != x62) rfl hm (fun hb70 hm => ?_) (fun hb70 hm => ?_)
        · refine CW.seq ?_
          refine CW.regionL ?_
          refine OW.cons (OP.val (v := (.bool false)) rfl (x_assign) ?_)
          refine OW.nil ?_
          refine CW.ret ?_
          obtain rfl := Option.some.inj hm
          have hm := hr41 _ rfl
          obtain rfl := Option.some.inj hm
          exact RR1 rfl rfl ⟨rfl, hL.fresh 0 rfl [] (by decide) (by decide) rfl⟩
        · refine CW.skip ?_
          refine CW.regionL ?_
          refine OW.cons (OP.val (v := (.int .i64 s_l1)) rfl (x_mv f53) ?_)
          refine OW.cons (OP.val (v := (.int .i64 (w64 (s_l1 + 1)))) rfl (x_add rfl rfl) ?_)
          refine OW.cons (OP.val (v := (.int .i64 (w64 (s_l1 + 1)))) rfl (x_assign) ?_)
          refine OW.nil ?_
          obtain rfl := Option.some.inj hm
          exact ⟨_, rfl, ⟨f51, f52, rfl, hL⟩⟩
      · refine CW.exit ?_
        refine XJ.hit ?_
        obtain rfl := Option.some.inj hm
        exact ⟨_, rfl, ⟨f51, f52, f53, hL⟩⟩

theorem M.spec_l26Done_ok (w0 : World) (a0 : Finish) {r : Bool} (hm : M.spec_l26Done a0 = some r) :
    Calls Try.prog 66 #[(.agg #[(.int .i64 a0.Boat), (.int .i64 a0.Code), (.int .i64 a0.Time)])] w0 fun e w' => e = .returned (.bool r) ∧ Fresh w0 w' [] := by
  unfold M.spec_l26Done at hm
  refine calls_CW (args := [(.agg #[(.int .i64 a0.Boat), (.int .i64 a0.Code), (.int .i64 a0.Time)])]) Try.func66 rfl rfl rfl ?_
  have hL := Hp.start w0
  refine CW.seq ?_
  refine CW.regionL ?_
  refine OW.cons (S_box (cs := #[(.int .i64 a0.Boat), (.int .i64 a0.Code), (.int .i64 a0.Time)]) hL rfl rfl rfl ?_)
  intro wd1 b2 hL
  refine OW.cons (OP.val (v := (.bool false)) rfl (x_assign) ?_)
  refine OW.nil ?_
  refine CW.seq ?_
  refine CW.regionL ?_
  refine OW.cons (OP.val (v := (.pointer (some ⟨b2, 1, none⟩))) rfl (x_fieldAddr (fsz := 1) 0 1 1 Try.underlying88 rfl Try_T2 rfl rfl rfl) ?_)
  refine OW.cons (OP.val (v := (.int .i64 a0.Code)) rfl (x_load1 Try.underlying2 rfl rfl (hL.cellB 0 rfl rfl)) ?_)
  refine OW.cons (OP.val (v := (.bool (a0.Code == 0))) rfl (x_eql rfl rfl) ?_)
  refine OW.cons (OP.val (v := (.bool (a0.Code == 0))) rfl (x_assign) ?_)
  refine OW.nil ?_
  refine CW.ret ?_
  obtain rfl := Option.some.inj hm
  exact RR1 rfl rfl ⟨rfl, hL.fresh 1 rfl [] (by decide) (by decide) rfl⟩

theorem M.laws_markFinishS_ok (w0 : World) {E4 : TypeId} {S2 : Nat → Prop} {v1 : Value} (a0 : List Finish) (he3 : (Ent.own E4 S2 v1 a0).H w0) (a1 : Int) {r : (Int) × (List Finish)} (hm : M.laws_markFinishS a0 a1 = some r) :
    Calls Try.prog 69 #[v1, (.int .i64 a1)] w0 fun e w' => ∃ (ioS : Nat → Prop), e = .returned (.int .i64 r.1) ∧ Mut w0 w' (Ent.own E4 S2 v1 a0).S [Ent.own E4 ioS v1 r.2] := by
  unfold M.laws_markFinishS at hm
  refine calls_CW (args := [v1, (.int .i64 a1)]) Try.func69 rfl rfl rfl ?_
  have hL := Hp.startIO he3
  refine CW.seq ?_
  refine CW.regionL ?_
  refine OW.cons (OP.val (v := (.int .i64 0)) rfl (x_assign) ?_)
  refine OW.nil ?_
  refine CW.seq ?_
  refine CW.seq ?_
  refine CW.regionL ?_
  refine OW.cons (OP.val (v := (.int .i64 0)) rfl (x_assign) ?_)
  refine OW.nil ?_
  obtain ⟨o59, ho60, hm⟩ := bndE hm
  refine CW.loopB (fun (s_l1 : (List Finish) × Int × Int) (F : Fr) (w : World) => ∃ (S56 : Nat → Prop), F 0 = v1 ∧ F 1 = (.int .i64 s_l1.2.1) ∧ F 5 = (.int .i64 s_l1.2.2) ∧ Hp w0 [Ent.own E4 S56 v1 s_l1.1, Ent.frz w0 (Ent.own E4 S2 v1 a0).S] w) (fun o => outc o (fun x => some x) (fun s => M.laws_markFinishS_a1 s) = some r) ho60 hm ⟨S2, rfl, rfl, rfl, hL⟩ ?_ ?_
  · intro s_l1 F61 wd62 hJ hm
    have hm := outcE hm
    have hm : M.laws_markFinishS_a1 s_l1 = some r := hm
    unfold M.laws_markFinishS_a1 at hm
    obtain ⟨S56, f63, f64, f65, hL⟩ := hJ
    refine CW.seq ?_
    refine CW.regionL ?_
    refine OW.cons (OP.val (v := (.int .i64 s_l1.2.1)) rfl (x_mv f64) ?_)
    refine OW.cons (OP.val (v := (.int .i64 s_l1.2.1)) rfl (x_assign) ?_)
    refine OW.nil ?_
    refine CW.ret ?_
    obtain rfl := Option.some.inj hm
    exact RR1 rfl rfl ⟨S56, rfl, hL.mutOut 1 rfl [0] (by decide) (by decide) rfl⟩
  · intro s_l1 F66 wd67 t57 hJ hm hr58
    unfold M.laws_markFinishS_l1 at hm
    obtain ⟨S56, f68, f69, f70, hL⟩ := hJ
    refine CW.seq ?_
    refine CW.seq ?_
    refine CW.regionL ?_
    refine OW.cons (OP.val (v := (.int .i64 s_l1.2.2)) rfl (x_mv f70) ?_)
    refine OW.cons (OP.val (v := v1) rfl (x_mv f68) ?_)
    refine OW.cons (OP.val (v := (.int .i64 (s_l1.1.length : Int))) rfl (x_lenR Try.underlying27 rfl (hL.rdO 0 rfl)) ?_)
    refine OW.cons (OP.val (v := (.bool (decide (s_l1.2.2 < (s_l1.1.length : Int))))) rfl (x_lss rfl rfl) ?_)
    refine OW.nil ?_
    refine CW.condM (t := decide (s_l1.2.2 < (s_l1.1.length : Int))) rfl hm (fun hb71 hm => ?_) (fun hb71 hm => ?_)
    · refine CW.skip ?_
      refine CW.seq ?_
      refine CW.block ?_
      refine CW.seq ?_
      refine CW.regionL ?_
      refine OW.cons (OP.val (v := v1) rfl (x_mv f68) ?_)
      refine OW.cons (OP.val (v := (.int .i64 s_l1.2.2)) rfl (x_mv f70) ?_)
      refine OW.cons (OP.val (v := (.int .i64 s_l1.2.1)) rfl (x_mv f69) ?_)
      obtain ⟨x72, ha73, hm⟩ := bndE hm
      obtain ⟨hz74, ha78⟩ := idxE ha73
      obtain ⟨b75, q76, hix77⟩ := rdL_ix (hL.rdO 0 rfl) hz74 ha78
      refine OW.cons (OP.val (v := (.pointer (some ⟨b75, q76, none⟩))) rfl (x_ix Try.underlying27 Try_T88 rfl rfl hix77) ?_)
      refine OW.cons (OP.val (v := (.pointer (some ⟨b75, q76, none⟩))) rfl (x_fieldAddr (fsz := 1) q76 0 q76 Try.underlying88 rfl Try_T2 rfl rfl rfl) ?_)
      refine OW.cons (S_storeX (j := 0) (Finish.mk s_l1.2.1 x72.Code x72.Time) hL 0 rfl Try_T2 hix77 ha78 rfl rfl rfl rfl rfl rfl ?_)
      intro wd79 hL
      refine OW.nil ?_
      refine CW.seq ?_
      refine CW.regionL ?_
      refine OW.cons (OP.val (v := (.int .i64 s_l1.2.1)) rfl (x_mv f69) ?_)
      refine OW.cons (OP.val (v := (.int .i64 (w64 (s_l1.2.1 + 1)))) rfl (x_add rfl rfl) ?_)
      refine OW.cons (OP.val (v := (.int .i64 (w64 (s_l1.2.1 + 1)))) rfl (x_assign) ?_)
      refine OW.nil ?_
      refine CW.seq ?_
      refine CW.regionL ?_
      refine OW.cons (OP.val (v := v1) rfl (x_mv f68) ?_)
      refine OW.cons (OP.val (v := (.int .i64 s_l1.2.2)) rfl (x_mv f70) ?_)
      refine OW.cons (OP.val (v := (.int .i64 (w64 (s_l1.2.1 + 1)))) rfl (x_move) ?_)
      obtain ⟨x80, ha81, hm⟩ := bndE hm
      obtain ⟨hz82, ha86⟩ := idxE ha81
      obtain ⟨b83, q84, hix85⟩ := rdL_ix (hL.rdO 0 rfl) hz82 ha86
      refine OW.cons (OP.val (v := (.pointer (some ⟨b83, q84, none⟩))) rfl (x_ix Try.underlying27 Try_T88 rfl rfl hix85) ?_)
      refine OW.cons (OP.val (v := (.pointer (some ⟨b83, q84 + 1, none⟩))) rfl (x_fieldAddr (fsz := 1) q84 1 (q84 + 1) Try.underlying88 rfl Try_T2 rfl rfl rfl) ?_)
      refine OW.cons (S_storeX (j := 1) (Finish.mk x80.Boat (w64 (s_l1.2.1 + 1)) x80.Time) hL 0 rfl Try_T2 hix85 ha86 rfl rfl rfl rfl rfl rfl ?_)
      intro wd87 hL
      refine OW.nil ?_
      refine CW.seq ?_
      refine CW.regionL ?_
      refine OW.cons (OP.val (v := (.int .i64 (w64 (s_l1.2.1 + 1)))) rfl (x_move) ?_)
      refine OW.cons (OP.val (v := (.int .i64 (w64 ((w64 (s_l1.2.1 + 1)) + 1)))) rfl (x_add rfl rfl) ?_)
      refine OW.cons (OP.val (v := (.int .i64 (w64 ((w64 (s_l1.2.1 + 1)) + 1)))) rfl (x_assign) ?_)
      refine OW.nil ?_
      refine CW.seq ?_
      refine CW.regionL ?_
      refine OW.cons (OP.val (v := v1) rfl (x_mv f68) ?_)
      refine OW.cons (OP.val (v := (.int .i64 s_l1.2.2)) rfl (x_mv f70) ?_)
      refine OW.cons (OP.val (v := (.int .i64 (w64 ((w64 (s_l1.2.1 + 1)) + 1)))) rfl (x_move) ?_)
      obtain ⟨x88, ha89, hm⟩ := bndE hm
      obtain ⟨hz90, ha94⟩ := idxE ha89
      obtain ⟨b91, q92, hix93⟩ := rdL_ix (hL.rdO 0 rfl) hz90 ha94
      refine OW.cons (OP.val (v := (.pointer (some ⟨b91, q92, none⟩))) rfl (x_ix Try.underlying27 Try_T88 rfl rfl hix93) ?_)
      refine OW.cons (OP.val (v := (.pointer (some ⟨b91, q92 + 2, none⟩))) rfl (x_fieldAddr (fsz := 1) q92 2 (q92 + 2) Try.underlying88 rfl Try_T2 rfl rfl rfl) ?_)
      refine OW.cons (S_storeX (j := 2) (Finish.mk x88.Boat x88.Code (w64 ((w64 (s_l1.2.1 + 1)) + 1))) hL 0 rfl Try_T2 hix93 ha94 rfl rfl rfl rfl rfl rfl ?_)
      intro wd95 hL
      refine OW.nil ?_
      refine CW.regionL ?_
      refine OW.cons (OP.val (v := (.int .i64 (w64 ((w64 (s_l1.2.1 + 1)) + 1)))) rfl (x_move) ?_)
      refine OW.cons (OP.val (v := (.int .i64 (w64 ((w64 ((w64 (s_l1.2.1 + 1)) + 1)) + 1)))) rfl (x_add rfl rfl) ?_)
      refine OW.cons (OP.val (v := (.int .i64 (w64 ((w64 ((w64 (s_l1.2.1 + 1)) + 1)) + 1)))) rfl (x_assign) ?_)
      refine OW.nil ?_
      refine CW.regionL ?_
      refine OW.cons (OP.val (v := (.int .i64 s_l1.2.2)) rfl (x_mv f70) ?_)
      refine OW.cons (OP.val (v := (.int .i64 (w64 (s_l1.2.2 + 1)))) rfl (x_add rfl rfl) ?_)
      refine OW.cons (OP.val (v := (.int .i64 (w64 (s_l1.2.2 + 1)))) rfl (x_assign) ?_)
      refine OW.nil ?_
      obtain rfl := Option.some.inj hm
      exact ⟨_, rfl, ⟨S56, f68, rfl, rfl, hL⟩⟩
    · refine CW.exit ?_
      refine XJ.hit ?_
      obtain rfl := Option.some.inj hm
      exact ⟨_, rfl, ⟨S56, f68, f69, f70, hL⟩⟩

theorem M.laws_markRace_ok (w0 : World) {E3 : TypeId} {S2 : Nat → Prop} {v1 : Value} (a0 : Race) (he4 : (Ent.own E3 S2 v1 a0.Finishes).H w0) (a1 : Int) {r : (Int) × Race} (hm : M.laws_markRace a0 a1 = some r) :
    Calls Try.prog 31 #[(.agg #[v1]), (.int .i64 a1)] w0 fun e w' => ∃ (ioS0 : Nat → Prop), e = .returned (.int .i64 r.1) ∧ Mut w0 w' (Ent.own E3 S2 v1 a0.Finishes).S [(Ent.own E3 ioS0 v1 r.2.Finishes)] := by
  unfold M.laws_markRace at hm
  refine calls_CW (args := [(.agg #[v1]), (.int .i64 a1)]) Try.func31 rfl rfl rfl ?_
  have hL := Hp.startIO he4
  refine CW.seq ?_
  refine CW.regionL ?_
  refine OW.cons (S_box (cs := #[v1]) hL rfl rfl rfl ?_)
  intro wd5 b6 hL
  refine OW.cons (OP.val (v := (.int .i64 0)) rfl (x_assign) ?_)
  refine OW.nil ?_
  refine CW.seq ?_
  refine CW.regionL ?_
  refine OW.cons (OP.val (v := (.pointer (some ⟨b6, 0, none⟩))) rfl (x_fieldAddr (fsz := 1) 0 0 0 Try.underlying29 rfl Try_T27 rfl rfl rfl) ?_)
  refine OW.cons (OP.val (v := v1) rfl (x_load1 Try.underlying27 rfl rfl (hL.cellB 0 rfl rfl)) ?_)
  refine OW.cons (OP.val (v := (.int .i64 a1)) rfl (x_move) ?_)
  obtain ⟨x7, hx8, hm⟩ := bndE hm
  refine OW.cons (OP.call rfl (x_call (vs := [v1, (.int .i64 a1)]) Try_C69 ⟨rfl, rfl, trivial⟩) (M.laws_markFinishS_ok _ a0.Finishes (hL.get 1 rfl) a1 hx8) ?_)
  rintro e9 wd10 ⟨S12, rfl, hF11⟩
  refine ⟨_, rfl, ?_⟩
  have hL := hL.mut 1 rfl hF11
  simp only [List.cons_append, List.nil_append, List.set_cons_zero, List.set_cons_succ] at hL
  refine OW.cons (OP.val (v := (.int .i64 x7.1)) rfl (x_assign) ?_)
  refine OW.nil ?_
  refine CW.seq ?_
  refine CW.regionL ?_
  refine OW.cons (OP.val (v := (.int .i64 x7.1)) rfl (x_move) ?_)
  refine OW.cons (OP.val (v := (.int .i64 x7.1)) rfl (x_assign) ?_)
  refine OW.nil ?_
  refine CW.ret ?_
  obtain rfl := Option.some.inj hm
  exact RR1 rfl rfl ⟨S12, rfl, hL.mutOut 2 rfl [1] (by decide) (by decide) rfl⟩

theorem M.laws_markInt64S_ok (w0 : World) {E4 : TypeId} {S2 : Nat → Prop} {v1 : Value} (a0 : List Int) (he3 : (Ent.own E4 S2 v1 a0).H w0) (a1 : Int) {r : (Int) × (List Int)} (hm : M.laws_markInt64S a0 a1 = some r) :
    Calls Try.prog 32 #[v1, (.int .i64 a1)] w0 fun e w' => ∃ (ioS : Nat → Prop), e = .returned (.int .i64 r.1) ∧ Mut w0 w' (Ent.own E4 S2 v1 a0).S [Ent.own E4 ioS v1 r.2] := by
  unfold M.laws_markInt64S at hm
  refine calls_CW (args := [v1, (.int .i64 a1)]) Try.func32 rfl rfl rfl ?_
  have hL := Hp.startIO he3
  refine CW.seq ?_
  refine CW.regionL ?_
  refine OW.cons (OP.val (v := (.int .i64 0)) rfl (x_assign) ?_)
  refine OW.nil ?_
  refine CW.seq ?_
  refine CW.seq ?_
  refine CW.regionL ?_
  refine OW.cons (OP.val (v := (.int .i64 0)) rfl (x_assign) ?_)
  refine OW.nil ?_
  obtain ⟨o27, ho28, hm⟩ := bndE hm
  refine CW.loopB (fun (s_l1 : (List Int) × Int × Int) (F : Fr) (w : World) => ∃ (S24 : Nat → Prop), F 0 = v1 ∧ F 1 = (.int .i64 s_l1.2.1) ∧ F 5 = (.int .i64 s_l1.2.2) ∧ Hp w0 [Ent.own E4 S24 v1 s_l1.1, Ent.frz w0 (Ent.own E4 S2 v1 a0).S] w) (fun o => outc o (fun x => some x) (fun s => M.laws_markInt64S_a1 s) = some r) ho28 hm ⟨S2, rfl, rfl, rfl, hL⟩ ?_ ?_
  · intro s_l1 F29 wd30 hJ hm
    have hm := outcE hm
    have hm : M.laws_markInt64S_a1 s_l1 = some r := hm
    unfold M.laws_markInt64S_a1 at hm
    obtain ⟨S24, f31, f32, f33, hL⟩ := hJ
    refine CW.seq ?_
    refine CW.regionL ?_
    refine OW.cons (OP.val (v := (.int .i64 s_l1.2.1)) rfl (x_mv f32) ?_)
    refine OW.cons (OP.val (v := (.int .i64 s_l1.2.1)) rfl (x_assign) ?_)
    refine OW.nil ?_
    refine CW.ret ?_
    obtain rfl := Option.some.inj hm
    exact RR1 rfl rfl ⟨S24, rfl, hL.mutOut 1 rfl [0] (by decide) (by decide) rfl⟩
  · intro s_l1 F34 wd35 t25 hJ hm hr26
    unfold M.laws_markInt64S_l1 at hm
    obtain ⟨S24, f36, f37, f38, hL⟩ := hJ
    refine CW.seq ?_
    refine CW.seq ?_
    refine CW.regionL ?_
    refine OW.cons (OP.val (v := (.int .i64 s_l1.2.2)) rfl (x_mv f38) ?_)
    refine OW.cons (OP.val (v := v1) rfl (x_mv f36) ?_)
    refine OW.cons (OP.val (v := (.int .i64 (s_l1.1.length : Int))) rfl (x_lenR Try.underlying53 rfl (hL.rdO 0 rfl)) ?_)
    refine OW.cons (OP.val (v := (.bool (decide (s_l1.2.2 < (s_l1.1.length : Int))))) rfl (x_lss rfl rfl) ?_)
    refine OW.nil ?_
    refine CW.condM (t := decide (s_l1.2.2 < (s_l1.1.length : Int))) rfl hm (fun hb39 hm => ?_) (fun hb39 hm => ?_)
    · refine CW.skip ?_
      refine CW.seq ?_
      refine CW.block ?_
      refine CW.seq ?_
      refine CW.regionL ?_
      refine OW.cons (OP.val (v := v1) rfl (x_mv f36) ?_)
      refine OW.cons (OP.val (v := (.int .i64 s_l1.2.2)) rfl (x_mv f38) ?_)
      refine OW.cons (OP.val (v := (.int .i64 s_l1.2.1)) rfl (x_mv f37) ?_)
      obtain ⟨x40, ha41, hm⟩ := bndE hm
      obtain ⟨hz42, ha46⟩ := idxE ha41
      obtain ⟨b43, q44, hix45⟩ := rdL_ix (hL.rdO 0 rfl) hz42 ha46
      refine OW.cons (OP.val (v := (.pointer (some ⟨b43, q44, none⟩))) rfl (x_ix Try.underlying53 Try_T2 rfl rfl hix45) ?_)
      refine OW.cons (S_storeX (j := 0) s_l1.2.1 hL 0 rfl Try_T2 hix45 ha46 rfl rfl rfl rfl rfl rfl ?_)
      intro wd47 hL
      refine OW.nil ?_
      refine CW.regionL ?_
      refine OW.cons (OP.val (v := (.int .i64 s_l1.2.1)) rfl (x_mv f37) ?_)
      refine OW.cons (OP.val (v := (.int .i64 (w64 (s_l1.2.1 + 1)))) rfl (x_add rfl rfl) ?_)
      refine OW.cons (OP.val (v := (.int .i64 (w64 (s_l1.2.1 + 1)))) rfl (x_assign) ?_)
      refine OW.nil ?_
      refine CW.regionL ?_
      refine OW.cons (OP.val (v := (.int .i64 s_l1.2.2)) rfl (x_mv f38) ?_)
      refine OW.cons (OP.val (v := (.int .i64 (w64 (s_l1.2.2 + 1)))) rfl (x_add rfl rfl) ?_)
      refine OW.cons (OP.val (v := (.int .i64 (w64 (s_l1.2.2 + 1)))) rfl (x_assign) ?_)
      refine OW.nil ?_
      obtain rfl := Option.some.inj hm
      exact ⟨_, rfl, ⟨S24, f36, rfl, rfl, hL⟩⟩
    · refine CW.exit ?_
      refine XJ.hit ?_
      obtain rfl := Option.some.inj hm
      exact ⟨_, rfl, ⟨S24, f36, f37, f38, hL⟩⟩

theorem M.laws_heldInt64S_ok (w0 : World) (a0 : List Int) {v1 : Value} (h2 : rdL (· < w0.heap.size) w0 v1 a0) (a1 : Int) {r : Int} (hm : M.laws_heldInt64S a0 a1 = some r) :
    Calls Try.prog 33 #[v1, (.int .i64 a1)] w0 fun e w' => e = .returned (.int .i64 r) ∧ Fresh w0 w' [] := by
  unfold M.laws_heldInt64S at hm
  refine calls_CW (args := [v1, (.int .i64 a1)]) Try.func33 rfl rfl rfl ?_
  have hL := Hp.start w0
  refine CW.seq ?_
  refine CW.regionL ?_
  refine OW.cons (OP.val (v := (.int .i64 0)) rfl (x_assign) ?_)
  refine OW.nil ?_
  refine CW.seq ?_
  refine CW.seq ?_
  refine CW.regionL ?_
  refine OW.cons (OP.val (v := (.int .i64 0)) rfl (x_assign) ?_)
  refine OW.nil ?_
  obtain ⟨o23, ho24, hm⟩ := bndE hm
  refine CW.loopB (fun (s_l1 : Int × Int) (F : Fr) (w : World) => F 0 = v1 ∧ F 1 = (.int .i64 s_l1.1) ∧ F 5 = (.int .i64 s_l1.2) ∧ Hp w0 [Ent.snap w0 w0.heap.size] w) (fun o => outc o (fun x => some x) (fun s => M.laws_heldInt64S_a1 s) = some r) ho24 hm ⟨rfl, rfl, rfl, hL⟩ ?_ ?_
  · intro s_l1 F25 wd26 hJ hm
    have hm := outcE hm
    have hm : M.laws_heldInt64S_a1 s_l1 = some r := hm
    unfold M.laws_heldInt64S_a1 at hm
    obtain ⟨f27, f28, f29, hL⟩ := hJ
    refine CW.seq ?_
    refine CW.regionL ?_
    refine OW.cons (OP.val (v := (.int .i64 s_l1.1)) rfl (x_mv f28) ?_)
    refine OW.cons (OP.val (v := (.int .i64 s_l1.1)) rfl (x_assign) ?_)
    refine OW.nil ?_
    refine CW.ret ?_
    obtain rfl := Option.some.inj hm
    exact RR1 rfl rfl ⟨rfl, hL.fresh 0 rfl [] (by decide) (by decide) rfl⟩
  · intro s_l1 F30 wd31 t21 hJ hm hr22
    unfold M.laws_heldInt64S_l1 at hm
    obtain ⟨f32, f33, f34, hL⟩ := hJ
    refine CW.seq ?_
    refine CW.seq ?_
    refine CW.regionL ?_
    refine OW.cons (OP.val (v := (.int .i64 s_l1.2)) rfl (x_mv f34) ?_)
    refine OW.cons (OP.val (v := v1) rfl (x_mv f32) ?_)
    refine OW.cons (OP.val (v := (.int .i64 (a0.length : Int))) rfl (x_lenR Try.underlying53 rfl (hL.rdS 0 rfl h2)) ?_)
    refine OW.cons (OP.val (v := (.bool (decide (s_l1.2 < (a0.length : Int))))) rfl (x_lss rfl rfl) ?_)
    refine OW.nil ?_
    refine CW.condM (t := decide (s_l1.2 < (a0.length : Int))) rfl hm (fun hb35 hm => ?_) (fun hb35 hm => ?_)
    · refine CW.skip ?_
      refine CW.seq ?_
      refine CW.block ?_
      refine CW.seq ?_
      refine CW.seq ?_
      refine CW.regionL ?_
      refine OW.cons (OP.val (v := v1) rfl (x_mv f32) ?_)
      refine OW.cons (OP.val (v := (.int .i64 s_l1.2)) rfl (x_mv f34) ?_)
      obtain ⟨x36, ha37, hm⟩ := bndE hm
      obtain ⟨hz38, ha42⟩ := idxE ha37
      obtain ⟨b39, q40, hix41⟩ := rdL_ix (hL.rdS 0 rfl h2) hz38 ha42
      refine OW.cons (OP.val (v := (.pointer (some ⟨b39, q40, none⟩))) rfl (x_ix Try.underlying53 Try_T2 rfl rfl hix41) ?_)
      refine OW.cons (OP.val (v := (.int .i64 x36)) rfl (x_load1 Try.underlying2 rfl rfl (rdF_cells (hL.rdS 0 rfl h2) hix41 ha42 0 _ rfl)) ?_)
      refine OW.cons (OP.val (v := (.int .i64 s_l1.1)) rfl (x_mv f33) ?_)
      refine OW.cons (OP.val (v := (.bool (x36 != s_l1.1))) rfl (x_neq rfl rfl) ?_)
      refine OW.nil ?_
      refine CW.condM (t := x36 != s_l1.1) rfl hm (fun hb43 hm => ?_) (fun hb43 hm => ?_)
      · refine CW.seq ?_
        refine CW.regionL ?_
        refine OW.cons (OP.val (v := (.int .i64 (-1))) rfl (x_assign) ?_)
        refine OW.nil ?_
        refine CW.ret ?_
        obtain rfl := Option.some.inj hm
        have hm := hr22 _ rfl
        obtain rfl := Option.some.inj hm
        exact RR1 rfl rfl ⟨rfl, hL.fresh 0 rfl [] (by decide) (by decide) rfl⟩
      · refine CW.skip ?_
        refine CW.regionL ?_
        refine OW.cons (OP.val (v := (.int .i64 s_l1.1)) rfl (x_mv f33) ?_)
        refine OW.cons (OP.val (v := (.int .i64 (w64 (s_l1.1 + 1)))) rfl (x_add rfl rfl) ?_)
        refine OW.cons (OP.val (v := (.int .i64 (w64 (s_l1.1 + 1)))) rfl (x_assign) ?_)
        refine OW.nil ?_
        refine CW.regionL ?_
        refine OW.cons (OP.val (v := (.int .i64 s_l1.2)) rfl (x_mv f34) ?_)
        refine OW.cons (OP.val (v := (.int .i64 (w64 (s_l1.2 + 1)))) rfl (x_add rfl rfl) ?_)
        refine OW.cons (OP.val (v := (.int .i64 (w64 (s_l1.2 + 1)))) rfl (x_assign) ?_)
        refine OW.nil ?_
        obtain rfl := Option.some.inj hm
        exact ⟨_, rfl, ⟨f32, rfl, rfl, hL⟩⟩
    · refine CW.exit ?_
      refine XJ.hit ?_
      obtain rfl := Option.some.inj hm
      exact ⟨_, rfl, ⟨f32, f33, f34, hL⟩⟩

theorem M.spec_FinishOrder_ok (w0 : World) (a0 : Int) (a1 : Race) {v1 : Value} (h2 : rdL (· < w0.heap.size) w0 v1 a1.Finishes) {r : (List Int) × Int} (hm : M.spec_FinishOrder a0 a1 = some r) :
    Calls Try.prog 43 #[(.int .i64 a0), (.agg #[v1])] w0 fun e w' => ∃ (rv0 : Value) (rS0 : Nat → Prop), e = .returned (.tuple #[rv0, (.int .i64 r.2)]) ∧ Fresh w0 w' [Ent.own 2 rS0 rv0 r.1] := by
  unfold M.spec_FinishOrder at hm
  refine calls_CW (args := [(.int .i64 a0), (.agg #[v1])]) Try.func43 rfl rfl rfl ?_
  have hL := Hp.start w0
  refine CW.seq ?_
  refine CW.regionL ?_
  refine OW.cons (S_box (cs := #[v1]) hL rfl rfl rfl ?_)
  intro wd3 b4 hL
  refine OW.cons (OP.val (v := (.slice none 0 0)) rfl (x_assign) ?_)
  refine OW.cons (OP.val (v := (.int .i64 0)) rfl (x_assign) ?_)
  refine OW.nil ?_
  refine CW.seq ?_
  refine CW.seq ?_
  refine CW.regionL ?_
  refine OW.cons (OP.val (v := (.int .i64 a0)) rfl (x_move) ?_)
  refine OW.cons (OP.val (v := (.agg #[v1])) rfl (x_loadN (cs := [v1]) Try.underlying29 Try_T29 rfl rfl (hL.cellsB 0 rfl (o := 0) (l := [v1]) (by intro j u hj; exact (by simpa using hj)))) ?_)
  obtain ⟨x5, hx6, hm⟩ := bndE hm
  refine OW.cons (OP.call rfl (x_call (vs := [(.int .i64 a0), (.agg #[v1])]) Try_C14 ⟨rfl, rfl, trivial⟩) (M.spec_IsRace_ok _ a0 a1 (hL.rdS 1 rfl h2) hx6) ?_)
  rintro e7 wd8 ⟨rfl, hF9⟩
  refine ⟨_, rfl, ?_⟩
  have hL := hL.pushAll hF9
  simp only [List.cons_append, List.nil_append, List.set_cons_zero, List.set_cons_succ] at hL
  refine OW.cons (OP.val (v := (.bool (!x5))) rfl (x_not rfl) ?_)
  refine OW.nil ?_
  refine CW.condM (t := !x5) rfl hm (fun hb10 hm => ?_) (fun hb10 hm => ?_)
  · refine CW.seq ?_
    refine CW.regionL ?_
    refine OW.cons (OP.val (v := (.slice none 0 0)) rfl (x_assign) ?_)
    refine OW.cons (OP.val (v := (.int .i64 1)) rfl (x_assign) ?_)
    refine OW.nil ?_
    refine CW.ret ?_
    have hL := hL.pushNil Int 2
    obtain rfl := Option.some.inj hm
    exact RR2 rfl rfl rfl ⟨(.slice none 0 0), None_, rfl, hL.fresh 2 rfl [0] (by decide) (by decide) rfl⟩
  · refine CW.skip ?_
    refine CW.seq ?_
    refine CW.regionL ?_
    refine OW.cons (S_lit ([] : List Int) hL Try.underlying53 Try_T2 rfl (by decide) (by first | (simp [Instr.fill, madeCells, Value.cells, ev, upd, Flat.enc, Flat.sz]; done) | rfl | kernel_rfl) rfl rfl ?_)
    intro wd11 v12 S13 hL
    refine OW.cons (OP.val (v := v12) rfl (x_assign) ?_)
    refine OW.nil ?_
    refine CW.seq ?_
    refine CW.regionL ?_
    refine OW.cons (S_lit ([] : List Int) hL Try.underlying53 Try_T2 rfl (by decide) (by first | (simp [Instr.fill, madeCells, Value.cells, ev, upd, Flat.enc, Flat.sz]; done) | rfl | kernel_rfl) rfl rfl ?_)
    intro wd14 v15 S16 hL
    refine OW.cons (OP.val (v := v15) rfl (x_assign) ?_)
    refine OW.nil ?_
    refine CW.seq ?_
    refine CW.seq ?_
    refine CW.regionL ?_
    refine OW.cons (OP.val (v := (.int .i64 0)) rfl (x_assign) ?_)
    refine OW.nil ?_
    obtain ⟨o1727, ho1728, hm⟩ := bndE hm
    have hL := hL.sel [1, 0, 2, 3] (by decide) rfl
    refine CW.loopB (fun (s_l1 : (List Int) × (List Int) × Int) (F : Fr) (w : World) => ∃ (v1721 : Value) (S1722 : Nat → Prop) (v1723 : Value) (S1724 : Nat → Prop), F 0 = (.int .i64 a0) ∧ F 3 = (.pointer (some ⟨b4, 0, none⟩)) ∧ F 6 = v1721 ∧ F 7 = v1723 ∧ F 8 = (.int .i64 s_l1.2.2) ∧ Hp w0 [Ent.own 2 S1722 v1721 s_l1.1, Ent.own 2 S1724 v1723 s_l1.2.1, Ent.blk b4 29 #[v1], Ent.snap w0 w0.heap.size] w) (fun o => outc o (fun x => some x) (fun s => M.spec_FinishOrder_a1 s) = some r) ho1728 hm ⟨v12, S13, v15, S16, rfl, rfl, rfl, rfl, rfl, hL⟩ ?_ ?_
    · intro s_l1 F1729 wd1730 hJ hm
      have hm := outcE hm
      have hm : M.spec_FinishOrder_a1 s_l1 = some r := hm
      unfold M.spec_FinishOrder_a1 at hm
      obtain ⟨v1721, S1722, v1723, S1724, f1731, f1732, f1733, f1734, f1735, hL⟩ := hJ
      refine CW.seq ?_
      refine CW.regionL ?_
      refine OW.cons (OP.val (v := v1721) rfl (x_mv f1733) ?_)
      refine OW.cons (OP.val (v := v1723) rfl (x_mv f1734) ?_)
      obtain ⟨hc1739, hm⟩ := chkE hm
      refine OW.cons (S_append (ys := s_l1.2.1) hL 0 rfl Try.underlying53 Try_T2 rfl rfl rfl (hL.rdO 1 rfl) hc1739 (by decide) rfl ?_)
      intro wd1736 v1737 S1738 hL
      refine OW.cons (OP.val (v := v1737) rfl (x_assign) ?_)
      refine OW.cons (OP.val (v := (.int .i64 0)) rfl (x_assign) ?_)
      refine OW.nil ?_
      refine CW.ret ?_
      obtain rfl := Option.some.inj hm
      exact RR2 rfl rfl rfl ⟨v1737, S1738, rfl, hL.fresh 3 rfl [0] (by decide) (by decide) rfl⟩
    · intro s_l1 F1740 wd1741 t1725 hJ hm hr1726
      unfold M.spec_FinishOrder_l1 at hm
      obtain ⟨v1721, S1722, v1723, S1724, f1742, f1743, f1744, f1745, f1746, hL⟩ := hJ
      refine CW.seq ?_
      refine CW.seq ?_
      refine CW.regionL ?_
      refine OW.cons (OP.val (v := (.int .i64 s_l1.2.2)) rfl (x_mv f1746) ?_)
      refine OW.cons (OP.val (v := (.int .i64 a0)) rfl (x_mv f1742) ?_)
      refine OW.cons (OP.val (v := (.bool (decide (s_l1.2.2 < a0)))) rfl (x_lss rfl rfl) ?_)
      refine OW.nil ?_
      refine CW.condM (t := decide (s_l1.2.2 < a0)) rfl hm (fun hb1747 hm => ?_) (fun hb1747 hm => ?_)
      · refine CW.skip ?_
        refine CW.seqJ (fun (s_j1 : (List Int) × (List Int)) (F : Fr) (w : World) => ∃ (v2167 : Value) (S2168 : Nat → Prop) (v2169 : Value) (S2170 : Nat → Prop), F 0 = (.int .i64 a0) ∧ F 3 = (.pointer (some ⟨b4, 0, none⟩)) ∧ F 6 = v2167 ∧ F 7 = v2169 ∧ F 8 = (.int .i64 s_l1.2.2) ∧ Hp w0 [Ent.own 2 S2168 v2167 s_j1.1, Ent.own 2 S2170 v2169 s_j1.2, Ent.blk b4 29 #[v1], Ent.snap w0 w0.heap.size] w) (fun s_j1 => M.spec_FinishOrder_j1 s_l1 s_j1 = some t1725) ?_ ?_
        · refine CW.blockJ (fun (s_j2 : (List Int) × (List Int)) (F : Fr) (w : World) => ∃ (v2382 : Value) (S2383 : Nat → Prop) (v2384 : Value) (S2385 : Nat → Prop), F 0 = (.int .i64 a0) ∧ F 3 = (.pointer (some ⟨b4, 0, none⟩)) ∧ F 6 = v2382 ∧ F 7 = v2384 ∧ F 8 = (.int .i64 s_l1.2.2) ∧ Hp w0 [Ent.own 2 S2383 v2382 s_j2.1, Ent.own 2 S2385 v2384 s_j2.2, Ent.blk b4 29 #[v1], Ent.snap w0 w0.heap.size] w) (fun s_j2 => M.spec_FinishOrder_j2 s_l1 s_j2 = some t1725) ?_ ?_
          · refine CW.seq ?_
            refine CW.regionL ?_
            refine OW.cons (OP.val (v := (.pointer (some ⟨b4, 0, none⟩))) rfl (x_fieldAddr (fsz := 1) 0 0 0 Try.underlying29 rfl Try_T27 rfl f1743 rfl) ?_)
            refine OW.cons (OP.val (v := v1) rfl (x_load1 Try.underlying27 rfl rfl (hL.cellB 2 rfl rfl)) ?_)
            refine OW.cons (OP.val (v := (.int .i64 s_l1.2.2)) rfl (x_mv f1746) ?_)
            obtain ⟨x2393, ha2394, hm⟩ := bndE hm
            obtain ⟨hz2395, ha2399⟩ := idxE ha2394
            obtain ⟨b2396, q2397, hix2398⟩ := rdL_ix (hL.rdS 3 rfl h2) hz2395 ha2399
            refine OW.cons (OP.val (v := (.pointer (some ⟨b2396, q2397, none⟩))) rfl (x_ix Try.underlying27 Try_T88 rfl rfl hix2398) ?_)
            refine OW.cons (OP.val (v := (.agg #[(.int .i64 x2393.Boat), (.int .i64 x2393.Code), (.int .i64 x2393.Time)])) rfl (x_loadN (cs := [(.int .i64 x2393.Boat), (.int .i64 x2393.Code), (.int .i64 x2393.Time)]) Try.underlying88 Try_T88 rfl rfl (rdF_cells (hL.rdS 3 rfl h2) hix2398 ha2399)) ?_)
            refine OW.cons (S_alloc (cs := #[(.int .i64 0), (.int .i64 0), (.int .i64 0)]) hL Try_T88 rfl rfl ?_)
            intro wd2400 b2401 hL
            refine OW.cons (S_storeN (l := [(.int .i64 x2393.Boat), (.int .i64 x2393.Code), (.int .i64 x2393.Time)]) (cs' := #[(.int .i64 x2393.Boat), (.int .i64 x2393.Code), (.int .i64 x2393.Time)]) hL 0 rfl Try_T88 rfl rfl (List.forall_mem_cons.2 ⟨rfl, (List.forall_mem_cons.2 ⟨rfl, (List.forall_mem_cons.2 ⟨rfl, (fun _ h => by cases h)⟩)⟩)⟩) rfl (Nat.le_of_ble_eq_true rfl) rfl ?_)
            intro wd2402 hL
            refine OW.nil ?_
            refine CW.seq ?_
            refine CW.seq ?_
            refine CW.regionL ?_
            refine OW.cons (OP.val (v := (.agg #[(.int .i64 x2393.Boat), (.int .i64 x2393.Code), (.int .i64 x2393.Time)])) rfl (x_loadN (cs := [(.int .i64 x2393.Boat), (.int .i64 x2393.Code), (.int .i64 x2393.Time)]) Try.underlying88 Try_T88 rfl rfl (hL.cellsB 0 rfl (o := 0) (l := [(.int .i64 x2393.Boat), (.int .i64 x2393.Code), (.int .i64 x2393.Time)]) (by intro j u hj; exact (by simpa using hj)))) ?_)
            obtain ⟨x2403, hx2404, hm⟩ := bndE hm
            refine OW.cons (OP.call rfl (x_call (vs := [(.agg #[(.int .i64 x2393.Boat), (.int .i64 x2393.Code), (.int .i64 x2393.Time)])]) Try_C66 ⟨rfl, trivial⟩) (M.spec_l26Done_ok _ x2393 hx2404) ?_)
            rintro e2405 wd2406 ⟨rfl, hF2407⟩
            refine ⟨_, rfl, ?_⟩
            have hL := hL.pushAll hF2407
            simp only [List.cons_append, List.nil_append, List.set_cons_zero, List.set_cons_succ] at hL
            refine OW.cons (OP.val (v := (.bool (!x2403))) rfl (x_not rfl) ?_)
            refine OW.nil ?_
            refine CW.condM (t := !x2403) rfl hm (fun hb2408 hm => ?_) (fun hb2408 hm => ?_)
            · refine CW.seq ?_
              refine CW.regionL ?_
              refine OW.cons (OP.val (v := v1723) rfl (x_mv f1745) ?_)
              refine OW.cons (OP.val (v := (.int .i64 s_l1.2.2)) rfl (x_mv f1746) ?_)
              refine OW.cons (S_lit ([s_l1.2.2] : List Int) hL Try.underlying53 Try_T2 rfl (by decide) (by first | (simp [Instr.fill, madeCells, Value.cells, ev, upd, Flat.enc, Flat.sz]; done) | rfl | kernel_rfl) rfl rfl ?_)
              intro wd2409 v2410 S2411 hL
              obtain ⟨hc2415, hm⟩ := chkE hm
              refine OW.cons (S_append (ys := ([s_l1.2.2] : List Int)) hL 3 rfl Try.underlying53 Try_T2 rfl rfl rfl (hL.rdO 0 rfl) hc2415 (by decide) rfl ?_)
              intro wd2412 v2413 S2414 hL
              refine OW.cons (OP.val (v := v2413) rfl (x_assign) ?_)
              refine OW.nil ?_
              refine CW.exit ?_
              refine XJ.hit ?_
              have hL := hL.sel [2, 3, 4, 5] (by decide) rfl
              exact ⟨(s_l1.1, s_l1.2.1 ++ ([s_l1.2.2] : List Int)), hm, ⟨v1721, S1722, v2413, S2414, f1742, f1743, f1744, rfl, f1746, hL⟩⟩
            · refine CW.skip ?_
              refine CW.seq ?_
              refine CW.regionL ?_
              refine OW.cons (OP.val (v := v1721) rfl (x_mv f1744) ?_)
              refine OW.cons (OP.val (v := (.int .i64 (s_l1.1.length : Int))) rfl (x_lenR Try.underlying53 rfl (hL.rdO 1 rfl)) ?_)
              refine OW.cons (OP.val (v := (.int .i64 (s_l1.1.length : Int))) rfl (x_assign) ?_)
              refine OW.nil ?_
              refine CW.seq ?_
              obtain ⟨o2508, ho2509, hm⟩ := bndE hm
              refine CW.loopB (fun (s_l2 : Int) (F : Fr) (w : World) => F 0 = (.int .i64 a0) ∧ F 3 = (.pointer (some ⟨b4, 0, none⟩)) ∧ F 6 = v1721 ∧ F 7 = v1723 ∧ F 8 = (.int .i64 s_l1.2.2) ∧ F 9 = (.pointer (some ⟨b2401, 0, none⟩)) ∧ F 10 = (.int .i64 s_l2) ∧ Hp w0 [Ent.blk b2401 88 #[(.int .i64 x2393.Boat), (.int .i64 x2393.Code), (.int .i64 x2393.Time)], Ent.own 2 S1722 v1721 s_l1.1, Ent.own 2 S1724 v1723 s_l1.2.1, Ent.blk b4 29 #[v1], Ent.snap w0 w0.heap.size] w) (fun o => outc o (fun x => some (.ret x)) (fun s => M.spec_FinishOrder_a2 s_l1 s) = some t1725) ho2509 hm ⟨f1742, f1743, f1744, f1745, f1746, rfl, rfl, hL⟩ ?_ ?_
              · intro s_l2 F2510 wd2511 hJ hm
                have hm := outcE hm
                have hm : M.spec_FinishOrder_a2 s_l1 s_l2 = some t1725 := hm
                unfold M.spec_FinishOrder_a2 at hm
                obtain ⟨f2512, f2513, f2514, f2515, f2516, f2517, f2518, hL⟩ := hJ
                refine CW.seq ?_
                refine CW.regionL ?_
                refine OW.cons (S_lit ([] : List Int) hL Try.underlying53 Try_T2 rfl (by decide) (by first | (simp [Instr.fill, madeCells, Value.cells, ev, upd, Flat.enc, Flat.sz]; done) | rfl | kernel_rfl) rfl rfl ?_)
                intro wd2519 v2520 S2521 hL
                refine OW.cons (OP.val (v := v1721) rfl (x_mv f2514) ?_)
                refine OW.cons (OP.val (v := (.int .i64 s_l2)) rfl (x_mv f2518) ?_)
                obtain ⟨hc2524, hm⟩ := chkE hm
                obtain ⟨v2522, hs2523⟩ := subV_of (hL.rdO 2 rfl) hc2524
                refine OW.cons (OP.val (v := v2522) rfl (x_slice0 Try.underlying53 Try_T2 rfl rfl hs2523) ?_)
                obtain ⟨hc2528, hm⟩ := chkE hm
                refine OW.cons (S_append (ys := subL s_l1.1 0 s_l2) hL 0 rfl Try.underlying53 Try_T2 rfl rfl rfl (SubV.rdL hs2523 (hL.rdO 2 rfl)) hc2528 (by decide) rfl ?_)
                intro wd2525 v2526 S2527 hL
                refine OW.cons (OP.val (v := v2526) rfl (x_assign) ?_)
                refine OW.nil ?_
                refine CW.seq ?_
                refine CW.regionL ?_
                refine OW.cons (OP.val (v := v2526) rfl (x_move) ?_)
                refine OW.cons (OP.val (v := (.int .i64 s_l1.2.2)) rfl (x_mv f2516) ?_)
                refine OW.cons (S_lit ([s_l1.2.2] : List Int) hL Try.underlying53 Try_T2 rfl (by decide) (by first | (simp [Instr.fill, madeCells, Value.cells, ev, upd, Flat.enc, Flat.sz]; done) | rfl | kernel_rfl) rfl rfl ?_)
                intro wd2529 v2530 S2531 hL
                obtain ⟨hc2535, hm⟩ := chkE hm
                refine OW.cons (S_append (ys := ([s_l1.2.2] : List Int)) hL 1 rfl Try.underlying53 Try_T2 rfl rfl rfl (hL.rdO 0 rfl) hc2535 (by decide) rfl ?_)
                intro wd2532 v2533 S2534 hL
                refine OW.cons (OP.val (v := v2533) rfl (x_assign) ?_)
                refine OW.nil ?_
                refine CW.regionL ?_
                refine OW.cons (OP.val (v := v2533) rfl (x_move) ?_)
                refine OW.cons (OP.val (v := v1721) rfl (x_mv f2514) ?_)
                refine OW.cons (OP.val (v := (.int .i64 s_l2)) rfl (x_mv f2518) ?_)
                obtain ⟨hc2538, hm⟩ := chkE hm
                obtain ⟨v2536, hs2537⟩ := subV_of (hL.rdO 3 rfl) hc2538
                refine OW.cons (OP.val (v := v2536) rfl (x_slice1 Try.underlying53 Try_T2 rfl rfl (subV_len (hL.rdO 3 rfl)) hs2537) ?_)
                obtain ⟨hc2542, hm⟩ := chkE hm
                refine OW.cons (S_append (ys := subL s_l1.1 s_l2 (s_l1.1.length : Int)) hL 1 rfl Try.underlying53 Try_T2 rfl rfl rfl (SubV.rdL hs2537 (hL.rdO 3 rfl)) hc2542 (by decide) rfl ?_)
                intro wd2539 v2540 S2541 hL
                refine OW.cons (OP.val (v := v2540) rfl (x_assign) ?_)
                refine OW.nil ?_
                have hL := hL.sel [1, 4, 5, 6] (by decide) rfl
                exact ⟨(((([] : List Int) ++ (subL s_l1.1 0 s_l2)) ++ ([s_l1.2.2] : List Int)) ++ (subL s_l1.1 s_l2 (s_l1.1.length : Int)), s_l1.2.1), hm, ⟨v2540, S2541, v1723, S1724, f2512, f2513, rfl, f2515, f2516, hL⟩⟩
              · intro s_l2 F2543 wd2544 t2506 hJ hm hr2507
                unfold M.spec_FinishOrder_l2 at hm
                obtain ⟨f2545, f2546, f2547, f2548, f2549, f2550, f2551, hL⟩ := hJ
                refine CW.seq ?_
                refine CW.seqJ (fun (s_j3 : Bool) (F : Fr) (w : World) => F 0 = (.int .i64 a0) ∧ F 3 = (.pointer (some ⟨b4, 0, none⟩)) ∧ F 6 = v1721 ∧ F 7 = v1723 ∧ F 8 = (.int .i64 s_l1.2.2) ∧ F 9 = (.pointer (some ⟨b2401, 0, none⟩)) ∧ F 10 = (.int .i64 s_l2) ∧ F 53 = (.bool s_j3) ∧ Hp w0 [Ent.blk b2401 88 #[(.int .i64 x2393.Boat), (.int .i64 x2393.Code), (.int .i64 x2393.Time)], Ent.own 2 S1722 v1721 s_l1.1, Ent.own 2 S1724 v1723 s_l1.2.1, Ent.blk b4 29 #[v1], Ent.snap w0 w0.heap.size] w) (fun s_j3 => M.spec_FinishOrder_j3 s_l2 s_j3 = some t2506) ?_ ?_
                · refine CW.draw Try_mixed ?_
                  have hL := hL.call (Mod.drew _)
                  refine DW.pre (fuel := 0) (fin := ((((((((((((((((((Array.replicate 17 false).setIfInBounds 0 true).setIfInBounds 1 true).setIfInBounds 2 true).setIfInBounds 3 true).setIfInBounds 4 true).setIfInBounds 5 true).setIfInBounds 6 true).setIfInBounds 7 true).setIfInBounds 8 true).setIfInBounds 9 true).setIfInBounds 10 true).setIfInBounds 11 true).setIfInBounds 12 true).setIfInBounds 13 true).setIfInBounds 14 true).setIfInBounds 15 true).setIfInBounds 16 true)) (C := fun w' => Mod None_ _ w') [0, 1, 2, 3, 4, 5, 6, 7, 8, 9, 10, 11, 12, 13, 14, 15, 16] (Mod.refl _ _) (by kernel_rfl) (by kernel_rfl) ?_
                  refine QW.cons rfl (QP.val (v := (.int .i64 s_l2)) rfl (fun w' hm' => x_mv f2551) ?_)
                  refine QW.cons rfl (QP.val (v := (.bool (decide (0 < s_l2)))) rfl (fun w' hm' => x_gtr rfl rfl) ?_)
                  refine QW.cons rfl (QP.val (v := (.bool (decide (0 < s_l2)))) rfl (fun w' hm' => x_move) ?_)
                  refine ifB_elim hm (fun hb2580 hm => ?_) (fun hb2580 hm => ?_)
                  · refine QW.cons rfl (QP.yes' rfl rfl hb2580 (QP.val (v := (.pointer (some ⟨b4, 0, none⟩))) rfl (fun w' hm' => x_fieldAddr (fsz := 1) 0 0 0 Try.underlying29 rfl Try_T27 rfl f2546 rfl) ?_))
                    refine QW.cons rfl (QP.yes' rfl rfl hb2580 (QP.val (v := v1) rfl (fun w' hm' => x_load1 Try.underlying27 rfl rfl ((hL.call hm').cellB 3 rfl rfl)) ?_))
                    refine QW.cons rfl (QP.yes' rfl rfl hb2580 (QP.val (v := v1721) rfl (fun w' hm' => x_mv f2547) ?_))
                    refine QW.cons rfl (QP.yes' rfl rfl hb2580 (QP.val (v := (.int .i64 s_l2)) rfl (fun w' hm' => x_mv f2551) ?_))
                    refine QW.cons rfl (QP.yes' rfl rfl hb2580 (QP.val (v := (.int .i64 (w64 (s_l2 - 1)))) rfl (fun w' hm' => x_sub rfl rfl) ?_))
                    obtain ⟨x2581, ha2582, hm⟩ := bndE hm
                    obtain ⟨hz2583, ha2587⟩ := idxE ha2582
                    obtain ⟨b2584, q2585, hix2586⟩ := rdL_ix (hL.rdO 1 rfl) hz2583 ha2587
                    refine QW.cons rfl (QP.yes' rfl rfl hb2580 (QP.val (v := (.pointer (some ⟨b2584, q2585, none⟩))) rfl (fun w' hm' => x_ix Try.underlying53 Try_T2 rfl rfl hix2586) ?_))
                    refine QW.cons rfl (QP.yes' rfl rfl hb2580 (QP.val (v := (.int .i64 x2581)) rfl (fun w' hm' => x_load1 Try.underlying2 rfl rfl (rdF_cells ((hL.call hm').rdO 1 rfl) hix2586 ha2587 0 _ rfl)) ?_))
                    obtain ⟨x2588, ha2589, hm⟩ := bndE hm
                    obtain ⟨hz2590, ha2594⟩ := idxE ha2589
                    obtain ⟨b2591, q2592, hix2593⟩ := rdL_ix (hL.rdS 4 rfl h2) hz2590 ha2594
                    refine QW.cons rfl (QP.yes' rfl rfl hb2580 (QP.val (v := (.pointer (some ⟨b2591, q2592, none⟩))) rfl (fun w' hm' => x_ix Try.underlying27 Try_T88 rfl rfl hix2593) ?_))
                    refine QW.cons rfl (QP.yes' rfl rfl hb2580 (QP.val (v := (.pointer (some ⟨b2591, q2592 + 2, none⟩))) rfl (fun w' hm' => x_fieldAddr (fsz := 1) q2592 2 (q2592 + 2) Try.underlying88 rfl Try_T2 rfl rfl rfl) ?_))
                    refine QW.cons rfl (QP.yes' rfl rfl hb2580 (QP.val (v := (.int .i64 x2588.Time)) rfl (fun w' hm' => x_load1 Try.underlying2 rfl rfl (rdF_cells ((hL.call hm').rdS 4 rfl h2) hix2593 ha2594 2 _ rfl)) ?_))
                    refine QW.cons rfl (QP.yes' rfl rfl hb2580 (QP.val (v := (.pointer (some ⟨b2401, 2, none⟩))) rfl (fun w' hm' => x_fieldAddr (fsz := 1) 0 2 2 Try.underlying88 rfl Try_T2 rfl f2550 rfl) ?_))
                    refine QW.cons rfl (QP.yes' rfl rfl hb2580 (QP.val (v := (.int .i64 x2393.Time)) rfl (fun w' hm' => x_load1 Try.underlying2 rfl rfl ((hL.call hm').cellB 0 rfl rfl)) ?_))
                    refine QW.cons rfl (QP.yes' rfl rfl hb2580 (QP.val (v := (.bool (decide (x2393.Time < x2588.Time)))) rfl (fun w' hm' => x_gtr rfl rfl) ?_))
                    refine QW.cons rfl (QP.val (v := (.bool (decide (x2393.Time < x2588.Time)))) rfl (fun w' hm' => x_pickT' rfl hb2580 rfl) ?_)
                    refine QW.nil ?_
                    intro wd2595 hmod
                    have hL := hL.call hmod
                    refine DW.done (by kernel_rfl) ?_
                    exact ⟨decide (x2393.Time < x2588.Time), hm, ⟨f2545, f2546, f2547, f2548, f2549, f2550, f2551, rfl, hL⟩⟩
                  · refine QW.cons rfl (QP.no' rfl rfl hb2580 rfl ?_)
                    refine QW.cons rfl (QP.no' rfl rfl hb2580 rfl ?_)
                    refine QW.cons rfl (QP.no' rfl rfl hb2580 rfl ?_)
                    refine QW.cons rfl (QP.no' rfl rfl hb2580 rfl ?_)
                    refine QW.cons rfl (QP.no' rfl rfl hb2580 rfl ?_)
                    refine QW.cons rfl (QP.no' rfl rfl hb2580 rfl ?_)
                    refine QW.cons rfl (QP.no' rfl rfl hb2580 rfl ?_)
                    refine QW.cons rfl (QP.no' rfl rfl hb2580 rfl ?_)
                    refine QW.cons rfl (QP.no' rfl rfl hb2580 rfl ?_)
                    refine QW.cons rfl (QP.no' rfl rfl hb2580 rfl ?_)
                    refine QW.cons rfl (QP.no' rfl rfl hb2580 rfl ?_)
                    refine QW.cons rfl (QP.no' rfl rfl hb2580 rfl ?_)
                    refine QW.cons rfl (QP.no' rfl rfl hb2580 rfl ?_)
                    refine QW.cons rfl (QP.val (v := (.bool false)) rfl (fun w' hm' => x_pickF' rfl hb2580 rfl) ?_)
                    refine QW.nil ?_
                    intro wd2596 hmod
                    have hL := hL.call hmod
                    refine DW.done (by kernel_rfl) ?_
                    exact ⟨false, hm, ⟨f2545, f2546, f2547, f2548, f2549, f2550, f2551, rfl, hL⟩⟩
                · intro s_j3 F2569 wd2570 hJ hm
                  unfold M.spec_FinishOrder_j3 at hm
                  obtain ⟨f2571, f2572, f2573, f2574, f2575, f2576, f2577, f2578, hL⟩ := hJ
                  refine CW.condM (t := s_j3) f2578 hm (fun hb2579 hm => ?_) (fun hb2579 hm => ?_)
                  · refine CW.skip ?_
                    refine CW.block ?_
                    refine CW.regionL ?_
                    refine OW.cons (OP.val (v := (.int .i64 s_l2)) rfl (x_mv f2577) ?_)
                    refine OW.cons (OP.val (v := (.int .i64 (w64 (s_l2 - 1)))) rfl (x_sub rfl rfl) ?_)
                    refine OW.cons (OP.val (v := (.int .i64 (w64 (s_l2 - 1)))) rfl (x_assign) ?_)
                    refine OW.nil ?_
                    obtain rfl := Option.some.inj hm
                    exact ⟨_, rfl, ⟨f2571, f2572, f2573, f2574, f2575, f2576, rfl, hL⟩⟩
                  · refine CW.exit ?_
                    refine XJ.hit ?_
                    obtain rfl := Option.some.inj hm
                    exact ⟨_, rfl, ⟨f2571, f2572, f2573, f2574, f2575, f2576, f2577, hL⟩⟩
          · intro s_j2 F2386 wd2387 hJ hm
            unfold M.spec_FinishOrder_j2 at hm
            obtain ⟨v2382, S2383, v2384, S2385, f2388, f2389, f2390, f2391, f2392, hL⟩ := hJ
            exact ⟨(s_j2.1, s_j2.2), hm, ⟨v2382, S2383, v2384, S2385, f2388, f2389, f2390, f2391, f2392, hL⟩⟩
        · intro s_j1 F2171 wd2172 hJ hm
          unfold M.spec_FinishOrder_j1 at hm
          obtain ⟨v2167, S2168, v2169, S2170, f2173, f2174, f2175, f2176, f2177, hL⟩ := hJ
          refine CW.regionL ?_
          refine OW.cons (OP.val (v := (.int .i64 s_l1.2.2)) rfl (x_mv f2177) ?_)
          refine OW.cons (OP.val (v := (.int .i64 (w64 (s_l1.2.2 + 1)))) rfl (x_add rfl rfl) ?_)
          refine OW.cons (OP.val (v := (.int .i64 (w64 (s_l1.2.2 + 1)))) rfl (x_assign) ?_)
          refine OW.nil ?_
          obtain rfl := Option.some.inj hm
          exact ⟨_, rfl, ⟨v2167, S2168, v2169, S2170, f2173, f2174, f2175, f2176, rfl, hL⟩⟩
      · refine CW.exit ?_
        refine XJ.hit ?_
        obtain rfl := Option.some.inj hm
        exact ⟨_, rfl, ⟨v1721, S1722, v1723, S1724, f1742, f1743, f1744, f1745, f1746, hL⟩⟩

theorem M.impl_FinishOrder_1_ok (w0 : World) (a0 : Int) (a1 : Int) (a2 : Race) {v3 : Value} {b1 : Nat} (h4 : rdL (· < w0.heap.size) w0 v3 a2.Finishes) (hb2 : bxA (· < w0.heap.size) w0 b1 29 #[v3]) {r : Int} (hm : M.impl_FinishOrder_1 a0 a1 a2 = some r) :
    Calls Try.prog 79 #[(.int .i64 a0), (.int .i64 a1), (.pointer (some ⟨b1, 0, none⟩))] w0 fun e w' => e = .returned (.int .i64 r) ∧ Fresh w0 w' [] := by
  unfold M.impl_FinishOrder_1 at hm
  refine calls_CW (args := [(.int .i64 a0), (.int .i64 a1), (.pointer (some ⟨b1, 0, none⟩))]) Try.func79 rfl rfl rfl ?_
  have hL := Hp.start w0
  refine CW.seq ?_
  refine CW.regionL ?_
  refine OW.cons (OP.val (v := (.int .i64 0)) rfl (x_assign) ?_)
  refine OW.nil ?_
  refine CW.seq ?_
  refine CW.drawH (fun w' => Hp w0 [Ent.snap w0 w0.heap.size] w') Try_mixed ?_
  have hL := hL.call (Mod.drew _)
  have hS := (hL.sel [0] (by decide) rfl)
  refine DH.take 0 rfl (by kernel_rfl) (by kernel_rfl) (by kernel_rfl) rfl rfl hS (YH.val (v := (.pointer (some ⟨b1, 0, none⟩))) (fun w' hS' => x_fieldAddr (fsz := 1) 0 0 0 Try.underlying29 rfl Try_T27 rfl rfl rfl)) ?_
  have hS := (hL.sel [0] (by decide) rfl)
  refine DH.take 1 rfl (by kernel_rfl) (by kernel_rfl) (by kernel_rfl) rfl rfl hS (YH.val (v := v3) (fun w' hS' => x_load1 Try.underlying27 rfl rfl ((hS'.bxS 0 rfl hb2).cell rfl))) ?_
  have hS := (hL.sel [0] (by decide) rfl)
  refine DH.take 2 rfl (by kernel_rfl) (by kernel_rfl) (by kernel_rfl) rfl rfl hS (YH.val (v := (.int .i64 a0)) (fun w' hS' => x_move)) ?_
  have hS := (hL.sel [0] (by decide) rfl)
  obtain ⟨x25, ha26, hm⟩ := bndE hm
  obtain ⟨hz27, ha31⟩ := idxE ha26
  obtain ⟨b28, q29, hix30⟩ := rdL_ix (hL.rdS 0 rfl h4) hz27 ha31
  refine DH.take 3 rfl (by kernel_rfl) (by kernel_rfl) (by kernel_rfl) rfl rfl hS (YH.val (v := (.pointer (some ⟨b28, q29, none⟩))) (fun w' hS' => x_ix Try.underlying27 Try_T88 rfl rfl hix30)) ?_
  have hS := (hL.sel [0] (by decide) rfl)
  refine DH.take 4 rfl (by kernel_rfl) (by kernel_rfl) (by kernel_rfl) rfl rfl hS (YH.val (v := (.agg #[(.int .i64 x25.Boat), (.int .i64 x25.Code), (.int .i64 x25.Time)])) (fun w' hS' => x_loadN (cs := [(.int .i64 x25.Boat), (.int .i64 x25.Code), (.int .i64 x25.Time)]) Try.underlying88 Try_T88 rfl rfl (rdF_cells (hS'.rdS 0 rfl h4) hix30 ha31))) ?_
  have hS := (hL.sel [0] (by decide) rfl)
  refine DH.take 5 rfl (by kernel_rfl) (by kernel_rfl) (by kernel_rfl) rfl rfl hS (YH.val (v := (.pointer (some ⟨b1, 0, none⟩))) (fun w' hS' => x_fieldAddr (fsz := 1) 0 0 0 Try.underlying29 rfl Try_T27 rfl rfl rfl)) ?_
  have hS := (hL.sel [0] (by decide) rfl)
  refine DH.take 6 rfl (by kernel_rfl) (by kernel_rfl) (by kernel_rfl) rfl rfl hS (YH.val (v := v3) (fun w' hS' => x_load1 Try.underlying27 rfl rfl ((hS'.bxS 0 rfl hb2).cell rfl))) ?_
  have hS := (hL.sel [0] (by decide) rfl)
  refine DH.take 7 rfl (by kernel_rfl) (by kernel_rfl) (by kernel_rfl) rfl rfl hS (YH.val (v := (.int .i64 a1)) (fun w' hS' => x_move)) ?_
  have hS := (hL.sel [0] (by decide) rfl)
  obtain ⟨x32, ha33, hm⟩ := bndE hm
  obtain ⟨hz34, ha38⟩ := idxE ha33
  obtain ⟨b35, q36, hix37⟩ := rdL_ix (hL.rdS 0 rfl h4) hz34 ha38
  refine DH.take 8 rfl (by kernel_rfl) (by kernel_rfl) (by kernel_rfl) rfl rfl hS (YH.val (v := (.pointer (some ⟨b35, q36, none⟩))) (fun w' hS' => x_ix Try.underlying27 Try_T88 rfl rfl hix37)) ?_
  have hS := (hL.sel [0] (by decide) rfl)
  refine DH.take 9 rfl (by kernel_rfl) (by kernel_rfl) (by kernel_rfl) rfl rfl hS (YH.val (v := (.agg #[(.int .i64 x32.Boat), (.int .i64 x32.Code), (.int .i64 x32.Time)])) (fun w' hS' => x_loadN (cs := [(.int .i64 x32.Boat), (.int .i64 x32.Code), (.int .i64 x32.Time)]) Try.underlying88 Try_T88 rfl rfl (rdF_cells (hS'.rdS 0 rfl h4) hix37 ha38))) ?_
  refine DH.node (listed' := #[true, true, true, true, true, true, true, true, true, true, true, true, true, true]) (fuel' := 0) (fun (F : Fr) (w : World) => ∃ (b60 : Nat) (b61 : Nat), F 5 = (.int .i64 0) ∧ F 6 = (.pointer (some ⟨b61, 0, none⟩)) ∧ F 7 = (.pointer (some ⟨b60, 0, none⟩)) ∧ Hp w0 [Ent.blk b60 88 #[(.int .i64 x32.Boat), (.int .i64 x32.Code), (.int .i64 x32.Time)], Ent.blk b61 88 #[(.int .i64 x25.Boat), (.int .i64 x25.Code), (.int .i64 x25.Time)], Ent.snap w0 w0.heap.size] w) ?_ (fun hN55 => ?_)
  · intro F68 wd69 hJ
    obtain ⟨b60, b61, f70, f71, f72, hL⟩ := hJ
    refine DH.done (by kernel_rfl) ?_
    refine CW.seq ?_
    refine CW.seq ?_
    refine CW.regionL ?_
    refine OW.cons (OP.val (v := (.pointer (some ⟨b61, 1, none⟩))) rfl (x_fieldAddr (fsz := 1) 0 1 1 Try.underlying88 rfl Try_T2 rfl f71 rfl) ?_)
    refine OW.cons (OP.val (v := (.int .i64 x25.Code)) rfl (x_load1 Try.underlying2 rfl rfl (hL.cellB 1 rfl rfl)) ?_)
    refine OW.cons (OP.val (v := (.bool (x25.Code == 0))) rfl (x_eql rfl rfl) ?_)
    refine OW.cons (OP.val (v := (.pointer (some ⟨b60, 1, none⟩))) rfl (x_fieldAddr (fsz := 1) 0 1 1 Try.underlying88 rfl Try_T2 rfl f72 rfl) ?_)
    refine OW.cons (OP.val (v := (.int .i64 x32.Code)) rfl (x_load1 Try.underlying2 rfl rfl (hL.cellB 0 rfl rfl)) ?_)
    refine OW.cons (OP.val (v := (.bool (x32.Code == 0))) rfl (x_eql rfl rfl) ?_)
    refine OW.cons (OP.val (v := (.bool ((x25.Code == 0) != (x32.Code == 0)))) rfl (x_neqB Try.underlying4 rfl rfl) ?_)
    refine OW.nil ?_
    refine CW.condM (t := (x25.Code == 0) != (x32.Code == 0)) rfl hm (fun hb73 hm => ?_) (fun hb73 hm => ?_)
    · refine CW.seq ?_
      refine CW.regionL ?_
      refine OW.cons (OP.val (v := (.pointer (some ⟨b61, 1, none⟩))) rfl (x_fieldAddr (fsz := 1) 0 1 1 Try.underlying88 rfl Try_T2 rfl f71 rfl) ?_)
      refine OW.cons (OP.val (v := (.int .i64 x25.Code)) rfl (x_load1 Try.underlying2 rfl rfl (hL.cellB 1 rfl rfl)) ?_)
      refine OW.cons (OP.val (v := (.int .i64 (min x25.Code 1))) rfl (x_min2 rfl rfl) ?_)
      refine OW.cons (OP.val (v := (.pointer (some ⟨b60, 1, none⟩))) rfl (x_fieldAddr (fsz := 1) 0 1 1 Try.underlying88 rfl Try_T2 rfl f72 rfl) ?_)
      refine OW.cons (OP.val (v := (.int .i64 x32.Code)) rfl (x_load1 Try.underlying2 rfl rfl (hL.cellB 0 rfl rfl)) ?_)
      refine OW.cons (OP.val (v := (.int .i64 (min x32.Code 1))) rfl (x_min2 rfl rfl) ?_)
      refine OW.cons (OP.val (v := (.int .i64 (w64 ((min x25.Code 1) - (min x32.Code 1))))) rfl (x_sub rfl rfl) ?_)
      refine OW.cons (OP.val (v := (.int .i64 (w64 ((min x25.Code 1) - (min x32.Code 1))))) rfl (x_assign) ?_)
      refine OW.nil ?_
      refine CW.ret ?_
      obtain rfl := Option.some.inj hm
      exact RR1 rfl rfl ⟨rfl, hL.fresh 2 rfl [] (by decide) (by decide) rfl⟩
    · refine CW.skip ?_
      refine CW.seq ?_
      refine CW.regionL ?_
      refine OW.cons (OP.val (v := (.pointer (some ⟨b61, 2, none⟩))) rfl (x_fieldAddr (fsz := 1) 0 2 2 Try.underlying88 rfl Try_T2 rfl f71 rfl) ?_)
      refine OW.cons (OP.val (v := (.int .i64 x25.Time)) rfl (x_load1 Try.underlying2 rfl rfl (hL.cellB 1 rfl rfl)) ?_)
      refine OW.cons (OP.val (v := (.pointer (some ⟨b60, 2, none⟩))) rfl (x_fieldAddr (fsz := 1) 0 2 2 Try.underlying88 rfl Try_T2 rfl f72 rfl) ?_)
      refine OW.cons (OP.val (v := (.int .i64 x32.Time)) rfl (x_load1 Try.underlying2 rfl rfl (hL.cellB 0 rfl rfl)) ?_)
      refine OW.cons (OP.val (v := (.int .i64 (w64 (x25.Time - x32.Time)))) rfl (x_sub rfl rfl) ?_)
      refine OW.cons (OP.val (v := (.int .i64 (w64 (x25.Time - x32.Time)))) rfl (x_assign) ?_)
      refine OW.nil ?_
      refine CW.ret ?_
      obtain rfl := Option.some.inj hm
      exact RR1 rfl rfl ⟨rfl, hL.fresh 2 rfl [] (by decide) (by decide) rfl⟩
  refine DH.node (listed' := #[true, true, true, true, true, true, true, true, true, true, true, true, true, false]) (fuel' := 1) (fun (F : Fr) (w : World) => ∃ (b62 : Nat) (b63 : Nat), F 5 = (.int .i64 0) ∧ F 6 = (.pointer (some ⟨b63, 0, none⟩)) ∧ F 7 = (.pointer (some ⟨b62, 0, none⟩)) ∧ F 17 = (.agg #[(.int .i64 x32.Boat), (.int .i64 x32.Code), (.int .i64 x32.Time)]) ∧ Hp w0 [Ent.blk b62 88 #[(.int .i64 0), (.int .i64 0), (.int .i64 0)], Ent.blk b63 88 #[(.int .i64 x25.Boat), (.int .i64 x25.Code), (.int .i64 x25.Time)], Ent.snap w0 w0.heap.size] w) ?_ (fun hN56 => ?_)
  · intro F74 wd75 hJ
    obtain ⟨b62, b63, f76, f77, f78, f79, hL⟩ := hJ
    refine DH.only 13 rfl (by kernel_rfl) (S_storeN (l := [(.int .i64 x32.Boat), (.int .i64 x32.Code), (.int .i64 x32.Time)]) (cs' := #[(.int .i64 x32.Boat), (.int .i64 x32.Code), (.int .i64 x32.Time)]) hL 0 rfl Try_T88 f78 rfl (List.forall_mem_cons.2 ⟨rfl, (List.forall_mem_cons.2 ⟨rfl, (List.forall_mem_cons.2 ⟨rfl, (fun _ h => by cases h)⟩)⟩)⟩) f79 (Nat.le_of_ble_eq_true rfl) rfl ?_)
    intro wd80 hL
    refine ⟨(hL.sel [2] (by decide) rfl), ?_⟩
    exact DH.relist (listed' := #[true, true, true, true, true, true, true, true, true, true, true, true, true, true]) (by kernel_rfl) (hN55 _ _ ⟨b62, b63, f76, f77, f78, hL⟩)
  refine DH.node (listed' := #[true, true, true, true, true, true, true, true, true, true, true, true, false, false]) (fuel' := 2) (fun (F : Fr) (w : World) => ∃ (b64 : Nat) (b65 : Nat), F 5 = (.int .i64 0) ∧ F 6 = (.pointer (some ⟨b65, 0, none⟩)) ∧ F 7 = (.pointer (some ⟨b64, 0, none⟩)) ∧ F 12 = (.agg #[(.int .i64 x25.Boat), (.int .i64 x25.Code), (.int .i64 x25.Time)]) ∧ F 17 = (.agg #[(.int .i64 x32.Boat), (.int .i64 x32.Code), (.int .i64 x32.Time)]) ∧ Hp w0 [Ent.blk b64 88 #[(.int .i64 0), (.int .i64 0), (.int .i64 0)], Ent.blk b65 88 #[(.int .i64 0), (.int .i64 0), (.int .i64 0)], Ent.snap w0 w0.heap.size] w) ?_ (fun hN57 => ?_)
  · intro F81 wd82 hJ
    obtain ⟨b64, b65, f83, f84, f85, f86, f87, hL⟩ := hJ
    refine DH.only 12 rfl (by kernel_rfl) (S_storeN (l := [(.int .i64 x25.Boat), (.int .i64 x25.Code), (.int .i64 x25.Time)]) (cs' := #[(.int .i64 x25.Boat), (.int .i64 x25.Code), (.int .i64 x25.Time)]) hL 1 rfl Try_T88 f84 rfl (List.forall_mem_cons.2 ⟨rfl, (List.forall_mem_cons.2 ⟨rfl, (List.forall_mem_cons.2 ⟨rfl, (fun _ h => by cases h)⟩)⟩)⟩) f86 (Nat.le_of_ble_eq_true rfl) rfl ?_)
    intro wd88 hL
    refine ⟨(hL.sel [2] (by decide) rfl), ?_⟩
    exact DH.relist (listed' := #[true, true, true, true, true, true, true, true, true, true, true, true, true, false]) (by kernel_rfl) (hN56 _ _ ⟨b64, b65, f83, f84, f85, f87, hL⟩)
  refine DH.node (listed' := #[true, true, true, true, true, true, true, true, true, true, true, false, false, false]) (fuel' := 3) (fun (F : Fr) (w : World) => ∃ (b66 : Nat), F 5 = (.int .i64 0) ∧ F 6 = (.pointer (some ⟨b66, 0, none⟩)) ∧ F 12 = (.agg #[(.int .i64 x25.Boat), (.int .i64 x25.Code), (.int .i64 x25.Time)]) ∧ F 17 = (.agg #[(.int .i64 x32.Boat), (.int .i64 x32.Code), (.int .i64 x32.Time)]) ∧ Hp w0 [Ent.blk b66 88 #[(.int .i64 0), (.int .i64 0), (.int .i64 0)], Ent.snap w0 w0.heap.size] w) ?_ (fun hN58 => ?_)
  · intro F89 wd90 hJ
    obtain ⟨b66, f91, f92, f93, f94, hL⟩ := hJ
    refine DH.only 11 rfl (by kernel_rfl) (S_alloc (cs := #[(.int .i64 0), (.int .i64 0), (.int .i64 0)]) hL Try_T88 rfl rfl ?_)
    intro wd95 b96 hL
    refine ⟨(hL.sel [2] (by decide) rfl), ?_⟩
    exact DH.relist (listed' := #[true, true, true, true, true, true, true, true, true, true, true, true, false, false]) (by kernel_rfl) (hN57 _ _ ⟨b96, b66, f91, f92, rfl, f93, f94, hL⟩)
  refine DH.node (listed' := #[true, true, true, true, true, true, true, true, true, true, false, true, false, false]) (fuel' := 3) (fun (F : Fr) (w : World) => ∃ (b67 : Nat), F 5 = (.int .i64 0) ∧ F 7 = (.pointer (some ⟨b67, 0, none⟩)) ∧ F 12 = (.agg #[(.int .i64 x25.Boat), (.int .i64 x25.Code), (.int .i64 x25.Time)]) ∧ F 17 = (.agg #[(.int .i64 x32.Boat), (.int .i64 x32.Code), (.int .i64 x32.Time)]) ∧ Hp w0 [Ent.blk b67 88 #[(.int .i64 0), (.int .i64 0), (.int .i64 0)], Ent.snap w0 w0.heap.size] w) ?_ (fun hN59 => ?_)
  · intro F97 wd98 hJ
    obtain ⟨b67, f99, f100, f101, f102, hL⟩ := hJ
    refine DH.only 10 rfl (by kernel_rfl) (S_alloc (cs := #[(.int .i64 0), (.int .i64 0), (.int .i64 0)]) hL Try_T88 rfl rfl ?_)
    intro wd103 b104 hL
    refine ⟨(hL.sel [2] (by decide) rfl), ?_⟩
    have hL := hL.sel [1, 0, 2] (by decide) rfl
    exact DH.relist (listed' := #[true, true, true, true, true, true, true, true, true, true, true, true, false, false]) (by kernel_rfl) (hN57 _ _ ⟨b67, b104, f99, rfl, f100, f101, f102, hL⟩)
  refine DH.all (rs := [10, 11]) (by kernel_rfl) (by simp) ?_
  intro i105 hi106
  simp only [List.mem_cons, List.not_mem_nil, or_false] at hi106
  rcases hi106 with rfl | rfl
  · refine ⟨_, rfl, ?_⟩
    refine S_alloc (cs := #[(.int .i64 0), (.int .i64 0), (.int .i64 0)]) hL Try_T88 rfl rfl ?_
    intro wd107 b108 hL
    refine ⟨(hL.sel [1] (by decide) rfl), ?_⟩
    exact DH.relist (listed' := #[true, true, true, true, true, true, true, true, true, true, true, false, false, false]) (by kernel_rfl) (hN58 _ _ ⟨b108, rfl, rfl, rfl, rfl, hL⟩)
  · refine ⟨_, rfl, ?_⟩
    refine S_alloc (cs := #[(.int .i64 0), (.int .i64 0), (.int .i64 0)]) hL Try_T88 rfl rfl ?_
    intro wd109 b110 hL
    refine ⟨(hL.sel [1] (by decide) rfl), ?_⟩
    exact DH.relist (listed' := #[true, true, true, true, true, true, true, true, true, true, false, true, false, false]) (by kernel_rfl) (hN59 _ _ ⟨b110, rfl, rfl, rfl, rfl, hL⟩)

theorem M.impl_sign_ok (w0 : World) (a0 : Int) {r : Int} (hm : M.impl_sign a0 = some r) :
    Calls Try.prog 94 #[(.int .i64 a0)] w0 fun e w' => e = .returned (.int .i64 r) ∧ Fresh w0 w' [] := by
  unfold M.impl_sign at hm
  refine calls_CW (args := [(.int .i64 a0)]) Try.func94 rfl rfl rfl ?_
  have hL := Hp.start w0
  refine CW.seq ?_
  refine CW.regionL ?_
  refine OW.cons (OP.val (v := (.int .i64 0)) rfl (x_assign) ?_)
  refine OW.nil ?_
  refine CW.seq ?_
  refine CW.regionL ?_
  refine OW.cons (OP.val (v := (.int .i64 a0)) rfl (x_move) ?_)
  refine OW.cons (OP.val (v := (.int .i64 (min 1 a0))) rfl (x_min2 rfl rfl) ?_)
  refine OW.cons (OP.val (v := (.int .i64 (max (-1) (min 1 a0)))) rfl (x_max2 rfl rfl) ?_)
  refine OW.cons (OP.val (v := (.int .i64 (max (-1) (min 1 a0)))) rfl (x_assign) ?_)
  refine OW.nil ?_
  refine CW.ret ?_
  obtain rfl := Option.some.inj hm
  exact RR1 rfl rfl ⟨rfl, hL.fresh 0 rfl [] (by decide) (by decide) rfl⟩

theorem M.impl_sortedIndices_1_ok (w0 : World) (a0 : Int) (a1 : Int) (a2 : Int → Int → Option Int) {fk3 : FuncId} {cp4 : List Value} {b1 : Nat} (hq5 : FnQ Try.prog fk3 cp4 (· < w0.heap.size) w0 (fun yw yvs yv => ∃ (y0 : Int) (y1 : Int) (yr : Int), yvs = [(.int .i64 y0), (.int .i64 y1)] ∧ a2 y0 y1 = some yr ∧ yv = (.int .i64 yr))) (hb2 : bxA (· < w0.heap.size) w0 b1 102 #[(.func (.func fk3) #[] cp4.toArray)]) {r : Int} (hm : M.impl_sortedIndices_1 a0 a1 a2 = some r) :
    Calls Try.prog 93 #[(.int .i64 a0), (.int .i64 a1), (.pointer (some ⟨b1, 0, none⟩))] w0 fun e w' => e = .returned (.int .i64 r) ∧ Fresh w0 w' [] := by
  unfold M.impl_sortedIndices_1 at hm
  refine calls_CW (args := [(.int .i64 a0), (.int .i64 a1), (.pointer (some ⟨b1, 0, none⟩))]) Try.func93 rfl rfl rfl ?_
  have hL := Hp.start w0
  refine CW.seq ?_
  refine CW.regionL ?_
  refine OW.cons (OP.val (v := (.int .i64 0)) rfl (x_assign) ?_)
  refine OW.nil ?_
  refine CW.seq ?_
  refine CW.regionL ?_
  refine OW.cons (OP.val (v := (.func (.func fk3) #[] cp4.toArray)) rfl (x_load1 Try.underlying102 rfl rfl ((hL.bxS 0 rfl hb2).cell rfl)) ?_)
  refine OW.cons (OP.val (v := (.int .i64 a0)) rfl (x_move) ?_)
  refine OW.cons (OP.val (v := (.int .i64 a1)) rfl (x_move) ?_)
  obtain ⟨x6, hx7, hm⟩ := bndE hm
  refine OW.cons (OP.call rfl (x_callV (vs := [(.int .i64 a0), (.int .i64 a1)]) (cap := cp4) hq5.1 rfl ⟨rfl, rfl, trivial⟩) (hq5.2 _ (hL.agS 0 rfl) [(.int .i64 a0), (.int .i64 a1)] _ ⟨a0, a1, x6, rfl, hx7, rfl⟩) ?_)
  rintro e8 wd9 ⟨rfl, hF10⟩
  refine ⟨_, rfl, ?_⟩
  have hL := hL.pushAll hF10
  simp only [List.cons_append, List.nil_append, List.set_cons_zero, List.set_cons_succ] at hL
  obtain ⟨x11, hx12, hm⟩ := bndE hm
  refine OW.cons (OP.call rfl (x_call (vs := [(.int .i64 x6)]) Try_C94 ⟨rfl, trivial⟩) (M.impl_sign_ok _ x6 hx12) ?_)
  rintro e13 wd14 ⟨rfl, hF15⟩
  refine ⟨_, rfl, ?_⟩
  have hL := hL.pushAll hF15
  simp only [List.cons_append, List.nil_append, List.set_cons_zero, List.set_cons_succ] at hL
  refine OW.cons (OP.val (v := (.int .i64 x11)) rfl (x_assign) ?_)
  refine OW.nil ?_
  refine CW.ret ?_
  obtain rfl := Option.some.inj hm
  exact RR1 rfl rfl ⟨rfl, hL.fresh 0 rfl [] (by decide) (by decide) rfl⟩

theorem M.slices_insertionSortCmpFunc_int64__ok (w0 : World) {E4 : TypeId} {S2 : Nat → Prop} {v1 : Value} (a0 : List Int) (he3 : (Ent.own E4 S2 v1 a0).H w0) (a1 : Int) (a2 : Int) (a3 : Int → Int → Option Int) {fk5 : FuncId} {cp6 : List Value} (hq7 : FnQ Try.prog fk5 cp6 (fun k => k < w0.heap.size ∧ ¬ (Ent.own E4 S2 v1 a0).S k) w0 (fun yw yvs yv => ∃ (y0 : Int) (y1 : Int) (yr : Int), yvs = [(.int .i64 y0), (.int .i64 y1)] ∧ a3 y0 y1 = some yr ∧ yv = (.int .i64 yr))) {r : (Unit) × (List Int)} (hm : M.slices_insertionSortCmpFunc_int64_ a0 a1 a2 a3 = some r) :
    Calls Try.prog 97 #[v1, (.int .i64 a1), (.int .i64 a2), (.func (.func fk5) #[] cp6.toArray)] w0 fun e w' => ∃ (ioS : Nat → Prop), e = .returned (.tuple #[]) ∧ Mut w0 w' (Ent.own E4 S2 v1 a0).S [Ent.own E4 ioS v1 r.2] := by
  unfold M.slices_insertionSortCmpFunc_int64_ at hm
  refine calls_CW (args := [v1, (.int .i64 a1), (.int .i64 a2), (.func (.func fk5) #[] cp6.toArray)]) Try.func97 rfl rfl rfl ?_
  have hL := Hp.startIO he3
  refine CW.seq ?_
  refine CW.regionL ?_
  refine OW.cons (OP.val (v := (.int .i64 a1)) rfl (x_move) ?_)
  refine OW.cons (OP.val (v := (.int .i64 (w64 (a1 + 1)))) rfl (x_add rfl rfl) ?_)
  refine OW.cons (OP.val (v := (.int .i64 (w64 (a1 + 1)))) rfl (x_assign) ?_)
  refine OW.nil ?_
  obtain ⟨o814, ho815, hm⟩ := bndE hm
  refine CW.loopB (fun (s_l1 : (List Int) × Int) (F : Fr) (w : World) => ∃ (S811 : Nat → Prop), F 0 = v1 ∧ F 1 = (.int .i64 a1) ∧ F 2 = (.int .i64 a2) ∧ F 3 = (.func (.func fk5) #[] cp6.toArray) ∧ F 8 = (.int .i64 s_l1.2) ∧ Hp w0 [Ent.own E4 S811 v1 s_l1.1, Ent.frz w0 (Ent.own E4 S2 v1 a0).S] w) (fun o => outc o (fun x => some x) (fun s => M.slices_insertionSortCmpFunc_int64__a1 s) = some r) ho815 hm ⟨S2, rfl, rfl, rfl, rfl, rfl, hL⟩ ?_ ?_
  · intro s_l1 F816 wd817 hJ hm
    have hm := outcE hm
    have hm : M.slices_insertionSortCmpFunc_int64__a1 s_l1 = some r := hm
    unfold M.slices_insertionSortCmpFunc_int64__a1 at hm
    obtain ⟨S811, f818, f819, f820, f821, f822, hL⟩ := hJ
    obtain rfl := Option.some.inj hm
    exact RR0 rfl  ⟨S811, rfl, hL.mutOut 1 rfl [0] (by decide) (by decide) rfl⟩
  · intro s_l1 F823 wd824 t812 hJ hm hr813
    unfold M.slices_insertionSortCmpFunc_int64__l1 at hm
    obtain ⟨S811, f825, f826, f827, f828, f829, hL⟩ := hJ
    refine CW.seq ?_
    refine CW.seq ?_
    refine CW.regionL ?_
    refine OW.cons (OP.val (v := (.int .i64 s_l1.2)) rfl (x_mv f829) ?_)
    refine OW.cons (OP.val (v := (.int .i64 a2)) rfl (x_mv f827) ?_)
    refine OW.cons (OP.val (v := (.bool (decide (s_l1.2 < a2)))) rfl (x_lss rfl rfl) ?_)
    refine OW.nil ?_
    refine CW.condM (t := decide (s_l1.2 < a2)) rfl hm (fun hb830 hm => ?_) (fun hb830 hm => ?_)
    · refine CW.skip ?_
      refine CW.seq ?_
      refine CW.block ?_
      refine CW.seq ?_
      refine CW.regionL ?_
      refine OW.cons (OP.val (v := (.int .i64 s_l1.2)) rfl (x_mv f829) ?_)
      refine OW.cons (OP.val (v := (.int .i64 s_l1.2)) rfl (x_assign) ?_)
      refine OW.nil ?_
      obtain ⟨o1087, ho1088, hm⟩ := bndE hm
      refine CW.loopB (fun (s_l2 : (List Int) × Int) (F : Fr) (w : World) => ∃ (S1084 : Nat → Prop), F 0 = v1 ∧ F 1 = (.int .i64 a1) ∧ F 2 = (.int .i64 a2) ∧ F 3 = (.func (.func fk5) #[] cp6.toArray) ∧ F 8 = (.int .i64 s_l1.2) ∧ F 9 = (.int .i64 s_l2.2) ∧ Hp w0 [Ent.own E4 S1084 v1 s_l2.1, Ent.frz w0 (Ent.own E4 S2 v1 a0).S] w) (fun o => outc o (fun x => some (.ret x)) (fun s => M.slices_insertionSortCmpFunc_int64__a2 s_l1 s) = some t812) ho1088 hm ⟨S811, f825, f826, f827, f828, f829, rfl, hL⟩ ?_ ?_
      · intro s_l2 F1089 wd1090 hJ hm
        have hm := outcE hm
        have hm : M.slices_insertionSortCmpFunc_int64__a2 s_l1 s_l2 = some t812 := hm
        unfold M.slices_insertionSortCmpFunc_int64__a2 at hm
        obtain ⟨S1084, f1091, f1092, f1093, f1094, f1095, f1096, hL⟩ := hJ
        refine CW.regionL ?_
        refine OW.cons (OP.val (v := (.int .i64 s_l1.2)) rfl (x_mv f1095) ?_)
        refine OW.cons (OP.val (v := (.int .i64 (w64 (s_l1.2 + 1)))) rfl (x_add rfl rfl) ?_)
        refine OW.cons (OP.val (v := (.int .i64 (w64 (s_l1.2 + 1)))) rfl (x_assign) ?_)
        refine OW.nil ?_
        obtain rfl := Option.some.inj hm
        exact ⟨_, rfl, ⟨S1084, f1091, f1092, f1093, f1094, rfl, hL⟩⟩
      · intro s_l2 F1097 wd1098 t1085 hJ hm hr1086
        unfold M.slices_insertionSortCmpFunc_int64__l2 at hm
        obtain ⟨S1084, f1099, f1100, f1101, f1102, f1103, f1104, hL⟩ := hJ
        refine CW.seq ?_
        refine CW.seqJ (fun (s_j1 : Bool) (F : Fr) (w : World) => F 0 = v1 ∧ F 1 = (.int .i64 a1) ∧ F 2 = (.int .i64 a2) ∧ F 3 = (.func (.func fk5) #[] cp6.toArray) ∧ F 8 = (.int .i64 s_l1.2) ∧ F 9 = (.int .i64 s_l2.2) ∧ F 34 = (.bool s_j1) ∧ Hp w0 [Ent.own E4 S1084 v1 s_l2.1, Ent.frz w0 (Ent.own E4 S2 v1 a0).S] w) (fun s_j1 => M.slices_insertionSortCmpFunc_int64__j1 s_l2 s_j1 = some t1085) ?_ ?_
        · refine CW.draw Try_mixed ?_
          have hL := hL.call (Mod.drew _)
          refine DW.pre (fuel := 0) (fin := ((((((((((((((((((Array.replicate 17 false).setIfInBounds 0 true).setIfInBounds 1 true).setIfInBounds 2 true).setIfInBounds 3 true).setIfInBounds 4 true).setIfInBounds 5 true).setIfInBounds 6 true).setIfInBounds 7 true).setIfInBounds 8 true).setIfInBounds 9 true).setIfInBounds 10 true).setIfInBounds 11 true).setIfInBounds 12 true).setIfInBounds 13 true).setIfInBounds 14 true).setIfInBounds 15 true).setIfInBounds 16 true)) (C := fun w' => Mod None_ _ w') [0, 1, 2, 3, 4, 5, 6, 7, 8, 9, 10, 11, 12, 13, 14, 15, 16] (Mod.refl _ _) (by kernel_rfl) (by kernel_rfl) ?_
          refine QW.cons rfl (QP.val (v := (.int .i64 s_l2.2)) rfl (fun w' hm' => x_mv f1104) ?_)
          refine QW.cons rfl (QP.val (v := (.int .i64 a1)) rfl (fun w' hm' => x_mv f1100) ?_)
          refine QW.cons rfl (QP.val (v := (.bool (decide (a1 < s_l2.2)))) rfl (fun w' hm' => x_gtr rfl rfl) ?_)
          refine QW.cons rfl (QP.val (v := (.bool (decide (a1 < s_l2.2)))) rfl (fun w' hm' => x_move) ?_)
          refine ifB_elim hm (fun hb1212 hm => ?_) (fun hb1212 hm => ?_)
          · refine QW.cons rfl (QP.yes' rfl rfl hb1212 (QP.val (v := (.func (.func fk5) #[] cp6.toArray)) rfl (fun w' hm' => x_mv f1102) ?_))
            refine QW.cons rfl (QP.yes' rfl rfl hb1212 (QP.val (v := v1) rfl (fun w' hm' => x_mv f1099) ?_))
            refine QW.cons rfl (QP.yes' rfl rfl hb1212 (QP.val (v := (.int .i64 s_l2.2)) rfl (fun w' hm' => x_mv f1104) ?_))
            obtain ⟨x1213, ha1214, hm⟩ := bndE hm
            obtain ⟨hz1215, ha1219⟩ := idxE ha1214
            obtain ⟨b1216, q1217, hix1218⟩ := rdL_ix (hL.rdO 0 rfl) hz1215 ha1219
            refine QW.cons rfl (QP.yes' rfl rfl hb1212 (QP.val (v := (.pointer (some ⟨b1216, q1217, none⟩))) rfl (fun w' hm' => x_ix Try.underlying53 Try_T2 rfl rfl hix1218) ?_))
            refine QW.cons rfl (QP.yes' rfl rfl hb1212 (QP.val (v := (.int .i64 x1213)) rfl (fun w' hm' => x_load1 Try.underlying2 rfl rfl (rdF_cells ((hL.call hm').rdO 0 rfl) hix1218 ha1219 0 _ rfl)) ?_))
            refine QW.cons rfl (QP.yes' rfl rfl hb1212 (QP.val (v := v1) rfl (fun w' hm' => x_mv f1099) ?_))
            refine QW.cons rfl (QP.yes' rfl rfl hb1212 (QP.val (v := (.int .i64 s_l2.2)) rfl (fun w' hm' => x_mv f1104) ?_))
            refine QW.cons rfl (QP.yes' rfl rfl hb1212 (QP.val (v := (.int .i64 (w64 (s_l2.2 - 1)))) rfl (fun w' hm' => x_sub rfl rfl) ?_))
            obtain ⟨x1220, ha1221, hm⟩ := bndE hm
            obtain ⟨hz1222, ha1226⟩ := idxE ha1221
            obtain ⟨b1223, q1224, hix1225⟩ := rdL_ix (hL.rdO 0 rfl) hz1222 ha1226
            refine QW.cons rfl (QP.yes' rfl rfl hb1212 (QP.val (v := (.pointer (some ⟨b1223, q1224, none⟩))) rfl (fun w' hm' => x_ix Try.underlying53 Try_T2 rfl rfl hix1225) ?_))
            refine QW.cons rfl (QP.yes' rfl rfl hb1212 (QP.val (v := (.int .i64 x1220)) rfl (fun w' hm' => x_load1 Try.underlying2 rfl rfl (rdF_cells ((hL.call hm').rdO 0 rfl) hix1225 ha1226 0 _ rfl)) ?_))
            obtain ⟨x1227, hx1228, hm⟩ := bndE hm
            refine QW.cons rfl (QP.yes' rfl rfl hb1212 (QP.call (v := (.int .i64 x1227)) rfl (fun w' hm' => x_callV (vs := [(.int .i64 x1213), (.int .i64 x1220)]) (cap := cp6) hq7.1 rfl ⟨rfl, rfl, trivial⟩) (fun w' hm' => (hq7.2 w' ((hL.call hm').agZ 1 rfl) [(.int .i64 x1213), (.int .i64 x1220)] _ ⟨x1213, x1220, x1227, rfl, hx1228, rfl⟩).mono (fun e w'' h => ⟨h.1, hm'.trans h.2.mod⟩)) ?_))
            refine QW.cons rfl (QP.yes' rfl rfl hb1212 (QP.val (v := (.bool (decide (x1227 < 0)))) rfl (fun w' hm' => x_lss rfl rfl) ?_))
            refine QW.cons rfl (QP.val (v := (.bool (decide (x1227 < 0)))) rfl (fun w' hm' => x_pickT' rfl hb1212 rfl) ?_)
            refine QW.nil ?_
            intro wd1229 hmod
            have hL := hL.call hmod
            refine DW.done (by kernel_rfl) ?_
            exact ⟨decide (x1227 < 0), hm, ⟨f1099, f1100, f1101, f1102, f1103, f1104, rfl, hL⟩⟩
          · refine QW.cons rfl (QP.no' rfl rfl hb1212 rfl ?_)
            refine QW.cons rfl (QP.no' rfl rfl hb1212 rfl ?_)
            refine QW.cons rfl (QP.no' rfl rfl hb1212 rfl ?_)
            refine QW.cons rfl (QP.no' rfl rfl hb1212 rfl ?_)
            refine QW.cons rfl (QP.no' rfl rfl hb1212 rfl ?_)
            refine QW.cons rfl (QP.no' rfl rfl hb1212 rfl ?_)
            refine QW.cons rfl (QP.no' rfl rfl hb1212 rfl ?_)
            refine QW.cons rfl (QP.no' rfl rfl hb1212 rfl ?_)
            refine QW.cons rfl (QP.no' rfl rfl hb1212 rfl ?_)
            refine QW.cons rfl (QP.no' rfl rfl hb1212 rfl ?_)
            refine QW.cons rfl (QP.no' rfl rfl hb1212 rfl ?_)
            refine QW.cons rfl (QP.no' rfl rfl hb1212 rfl ?_)
            refine QW.cons rfl (QP.val (v := (.bool false)) rfl (fun w' hm' => x_pickF' rfl hb1212 rfl) ?_)
            refine QW.nil ?_
            intro wd1230 hmod
            have hL := hL.call hmod
            refine DW.done (by kernel_rfl) ?_
            exact ⟨false, hm, ⟨f1099, f1100, f1101, f1102, f1103, f1104, rfl, hL⟩⟩
        · intro s_j1 F1124 wd1125 hJ hm
          unfold M.slices_insertionSortCmpFunc_int64__j1 at hm
          obtain ⟨f1126, f1127, f1128, f1129, f1130, f1131, f1132, hL⟩ := hJ
          refine CW.condM (t := s_j1) f1132 hm (fun hb1133 hm => ?_) (fun hb1133 hm => ?_)
          · refine CW.skip ?_
            refine CW.seq ?_
            refine CW.block ?_
            refine CW.drawH (fun w' => Hp w0 [Ent.frz w0 (Ent.own E4 S2 v1 a0).S] w') Try_mixed ?_
            have hL := hL.call (Mod.drew _)
            have hS := (hL.sel [1] (by decide) rfl)
            refine DH.take 0 rfl (by kernel_rfl) (by kernel_rfl) (by kernel_rfl) rfl rfl hS (YH.val (v := v1) (fun w' hS' => x_mv f1126)) ?_
            have hS := (hL.sel [1] (by decide) rfl)
            refine DH.take 1 rfl (by kernel_rfl) (by kernel_rfl) (by kernel_rfl) rfl rfl hS (YH.val (v := (.int .i64 s_l2.2)) (fun w' hS' => x_mv f1131)) ?_
            have hS := (hL.sel [1] (by decide) rfl)
            refine DH.take 2 rfl (by kernel_rfl) (by kernel_rfl) (by kernel_rfl) rfl rfl hS (YH.val (v := v1) (fun w' hS' => x_mv f1126)) ?_
            have hS := (hL.sel [1] (by decide) rfl)
            refine DH.take 3 rfl (by kernel_rfl) (by kernel_rfl) (by kernel_rfl) rfl rfl hS (YH.val (v := (.int .i64 s_l2.2)) (fun w' hS' => x_mv f1131)) ?_
            have hS := (hL.sel [1] (by decide) rfl)
            refine DH.take 4 rfl (by kernel_rfl) (by kernel_rfl) (by kernel_rfl) rfl rfl hS (YH.val (v := (.int .i64 (w64 (s_l2.2 - 1)))) (fun w' hS' => x_sub rfl rfl)) ?_
            have hS := (hL.sel [1] (by decide) rfl)
            refine DH.take 5 rfl (by kernel_rfl) (by kernel_rfl) (by kernel_rfl) rfl rfl hS (YH.val (v := v1) (fun w' hS' => x_mv f1126)) ?_
            have hS := (hL.sel [1] (by decide) rfl)
            refine DH.take 6 rfl (by kernel_rfl) (by kernel_rfl) (by kernel_rfl) rfl rfl hS (YH.val (v := (.int .i64 s_l2.2)) (fun w' hS' => x_mv f1131)) ?_
            have hS := (hL.sel [1] (by decide) rfl)
            refine DH.take 7 rfl (by kernel_rfl) (by kernel_rfl) (by kernel_rfl) rfl rfl hS (YH.val (v := (.int .i64 (w64 (s_l2.2 - 1)))) (fun w' hS' => x_sub rfl rfl)) ?_
            have hS := (hL.sel [1] (by decide) rfl)
            obtain ⟨x1164, ha1165, hm⟩ := bndE hm
            obtain ⟨hz1166, ha1170⟩ := idxE ha1165
            obtain ⟨b1167, q1168, hix1169⟩ := rdL_ix (hL.rdO 0 rfl) hz1166 ha1170
            refine DH.take 8 rfl (by kernel_rfl) (by kernel_rfl) (by kernel_rfl) rfl rfl hS (YH.val (v := (.pointer (some ⟨b1167, q1168, none⟩))) (fun w' hS' => x_ix Try.underlying53 Try_T2 rfl rfl hix1169)) ?_
            have hS := (hL.sel [1] (by decide) rfl)
            refine DH.take 10 rfl (by kernel_rfl) (by kernel_rfl) (by kernel_rfl) rfl rfl hS (YH.val (v := v1) (fun w' hS' => x_mv f1126)) ?_
            have hS := (hL.sel [1] (by decide) rfl)
            refine DH.take 11 rfl (by kernel_rfl) (by kernel_rfl) (by kernel_rfl) rfl rfl hS (YH.val (v := (.int .i64 s_l2.2)) (fun w' hS' => x_mv f1131)) ?_
            have hS := (hL.sel [1] (by decide) rfl)
            obtain ⟨x1171, ha1172, hm⟩ := bndE hm
            obtain ⟨hz1173, ha1177⟩ := idxE ha1172
            obtain ⟨b1174, q1175, hix1176⟩ := rdL_ix (hL.rdO 0 rfl) hz1173 ha1177
            refine DH.take 12 rfl (by kernel_rfl) (by kernel_rfl) (by kernel_rfl) rfl rfl hS (YH.val (v := (.pointer (some ⟨b1174, q1175, none⟩))) (fun w' hS' => x_ix Try.underlying53 Try_T2 rfl rfl hix1176)) ?_
            refine DH.all (rs := [9, 13]) (by kernel_rfl) (by simp) ?_
            intro i1178 hi1179
            simp only [List.mem_cons, List.not_mem_nil, or_false] at hi1179
            rcases hi1179 with rfl | rfl
            · refine ⟨_, rfl, ?_⟩
              refine OP.val (v := (.int .i64 x1164)) rfl (x_load1 Try.underlying2 rfl rfl (rdF_cells (hL.rdO 0 rfl) hix1169 ha1170 0 _ rfl)) ?_
              refine ⟨(hL.sel [1] (by decide) rfl), ?_⟩
              refine DH.only 13 rfl (by kernel_rfl) (OP.val (v := (.int .i64 x1171)) rfl (x_load1 Try.underlying2 rfl rfl (rdF_cells (hL.rdO 0 rfl) hix1176 ha1177 0 _ rfl)) ?_)
              refine ⟨(hL.sel [1] (by decide) rfl), ?_⟩
              have hS := (hL.sel [1] (by decide) rfl)
              obtain ⟨x1180, ha1181, hm⟩ := bndE hm
              obtain ⟨hz1182, ha1186⟩ := idxE ha1181
              obtain ⟨b1183, q1184, hix1185⟩ := rdL_ix (hL.rdO 0 rfl) hz1182 ha1186
              refine DH.take 14 rfl (by kernel_rfl) (by kernel_rfl) (by kernel_rfl) rfl rfl hS (YH.val (v := (.pointer (some ⟨b1183, q1184, none⟩))) (fun w' hS' => x_ix Try.underlying53 Try_T2 rfl rfl hix1185)) ?_
              refine DH.only 15 rfl (by kernel_rfl) (S_storeX (j := 0) x1164 hL 0 rfl Try_T2 hix1185 ha1186 rfl rfl rfl rfl rfl rfl ?_)
              intro wd1187 hL
              refine ⟨(hL.sel [1] (by decide) rfl), ?_⟩
              have hS := (hL.sel [1] (by decide) rfl)
              obtain ⟨x1188, ha1189, hm⟩ := bndE hm
              obtain ⟨hz1190, ha1194⟩ := idxE ha1189
              obtain ⟨b1191, q1192, hix1193⟩ := rdL_ix (hL.rdO 0 rfl) hz1190 ha1194
              refine DH.take 16 rfl (by kernel_rfl) (by kernel_rfl) (by kernel_rfl) rfl rfl hS (YH.val (v := (.pointer (some ⟨b1191, q1192, none⟩))) (fun w' hS' => x_ix Try.underlying53 Try_T2 rfl rfl hix1193)) ?_
              refine DH.only 17 rfl (by kernel_rfl) (S_storeX (j := 0) x1171 hL 0 rfl Try_T2 hix1193 ha1194 rfl rfl rfl rfl rfl rfl ?_)
              intro wd1195 hL
              refine ⟨(hL.sel [1] (by decide) rfl), ?_⟩
              refine DH.done (by kernel_rfl) ?_
              refine CW.regionL ?_
              refine OW.cons (OP.val (v := (.int .i64 s_l2.2)) rfl (x_mv f1131) ?_)
              refine OW.cons (OP.val (v := (.int .i64 (w64 (s_l2.2 - 1)))) rfl (x_sub rfl rfl) ?_)
              refine OW.cons (OP.val (v := (.int .i64 (w64 (s_l2.2 - 1)))) rfl (x_assign) ?_)
              refine OW.nil ?_
              obtain rfl := Option.some.inj hm
              exact ⟨_, rfl, ⟨S1084, f1126, f1127, f1128, f1129, f1130, rfl, hL⟩⟩
            · refine ⟨_, rfl, ?_⟩
              refine OP.val (v := (.int .i64 x1171)) rfl (x_load1 Try.underlying2 rfl rfl (rdF_cells (hL.rdO 0 rfl) hix1176 ha1177 0 _ rfl)) ?_
              refine ⟨(hL.sel [1] (by decide) rfl), ?_⟩
              refine DH.only 9 rfl (by kernel_rfl) (OP.val (v := (.int .i64 x1164)) rfl (x_load1 Try.underlying2 rfl rfl (rdF_cells (hL.rdO 0 rfl) hix1169 ha1170 0 _ rfl)) ?_)
              refine ⟨(hL.sel [1] (by decide) rfl), ?_⟩
              have hS := (hL.sel [1] (by decide) rfl)
              obtain ⟨x1196, ha1197, hm⟩ := bndE hm
              obtain ⟨hz1198, ha1202⟩ := idxE ha1197
              obtain ⟨b1199, q1200, hix1201⟩ := rdL_ix (hL.rdO 0 rfl) hz1198 ha1202
              refine DH.take 14 rfl (by kernel_rfl) (by kernel_rfl) (by kernel_rfl) rfl rfl hS (YH.val (v := (.pointer (some ⟨b1199, q1200, none⟩))) (fun w' hS' => x_ix Try.underlying53 Try_T2 rfl rfl hix1201)) ?_
              refine DH.only 15 rfl (by kernel_rfl) (S_storeX (j := 0) x1164 hL 0 rfl Try_T2 hix1201 ha1202 rfl rfl rfl rfl rfl rfl ?_)
              intro wd1203 hL
              refine ⟨(hL.sel [1] (by decide) rfl), ?_⟩
              have hS := (hL.sel [1] (by decide) rfl)
              obtain ⟨x1204, ha1205, hm⟩ := bndE hm
              obtain ⟨hz1206, ha1210⟩ := idxE ha1205
              obtain ⟨b1207, q1208, hix1209⟩ := rdL_ix (hL.rdO 0 rfl) hz1206 ha1210
              refine DH.take 16 rfl (by kernel_rfl) (by kernel_rfl) (by kernel_rfl) rfl rfl hS (YH.val (v := (.pointer (some ⟨b1207, q1208, none⟩))) (fun w' hS' => x_ix Try.underlying53 Try_T2 rfl rfl hix1209)) ?_
              refine DH.only 17 rfl (by kernel_rfl) (S_storeX (j := 0) x1171 hL 0 rfl Try_T2 hix1209 ha1210 rfl rfl rfl rfl rfl rfl ?_)
              intro wd1211 hL
              refine ⟨(hL.sel [1] (by decide) rfl), ?_⟩
              refine DH.done (by kernel_rfl) ?_
              refine CW.regionL ?_
              refine OW.cons (OP.val (v := (.int .i64 s_l2.2)) rfl (x_mv f1131) ?_)
              refine OW.cons (OP.val (v := (.int .i64 (w64 (s_l2.2 - 1)))) rfl (x_sub rfl rfl) ?_)
              refine OW.cons (OP.val (v := (.int .i64 (w64 (s_l2.2 - 1)))) rfl (x_assign) ?_)
              refine OW.nil ?_
              obtain rfl := Option.some.inj hm
              exact ⟨_, rfl, ⟨S1084, f1126, f1127, f1128, f1129, f1130, rfl, hL⟩⟩
          · refine CW.exit ?_
            refine XJ.hit ?_
            obtain rfl := Option.some.inj hm
            exact ⟨_, rfl, ⟨S1084, f1126, f1127, f1128, f1129, f1130, f1131, hL⟩⟩
    · refine CW.exit ?_
      refine XJ.hit ?_
      obtain rfl := Option.some.inj hm
      exact ⟨_, rfl, ⟨S811, f825, f826, f827, f828, f829, hL⟩⟩

theorem M.slices_stableCmpFunc_int64__ok (w0 : World) {E4 : TypeId} {S2 : Nat → Prop} {v1 : Value} (a0 : List Int) (he3 : (Ent.own E4 S2 v1 a0).H w0) (a1 : Int) (a2 : Int → Int → Option Int) {fk5 : FuncId} {cp6 : List Value} (hq7 : FnQ Try.prog fk5 cp6 (fun k => k < w0.heap.size ∧ ¬ (Ent.own E4 S2 v1 a0).S k) w0 (fun yw yvs yv => ∃ (y0 : Int) (y1 : Int) (yr : Int), yvs = [(.int .i64 y0), (.int .i64 y1)] ∧ a2 y0 y1 = some yr ∧ yv = (.int .i64 yr))) {r : (Unit) × (List Int)} (hm : M.slices_stableCmpFunc_int64_ a0 a1 a2 = some r) :
    Calls Try.prog 96 #[v1, (.int .i64 a1), (.func (.func fk5) #[] cp6.toArray)] w0 fun e w' => ∃ (ioS : Nat → Prop), e = .returned (.tuple #[]) ∧ Mut w0 w' (Ent.own E4 S2 v1 a0).S [Ent.own E4 ioS v1 r.2] := by
  unfold M.slices_stableCmpFunc_int64_ at hm
  refine calls_CW (args := [v1, (.int .i64 a1), (.func (.func fk5) #[] cp6.toArray)]) Try.func96 rfl rfl rfl ?_
  have hL := Hp.startIO he3
  refine CW.seq ?_
  refine CW.regionL ?_
  refine OW.cons (OP.val (v := (.int .i64 20)) rfl (x_assign) ?_)
  refine OW.nil ?_
  refine CW.seq ?_
  refine CW.regionL ?_
  refine OW.cons (OP.val (v := (.int .i64 20)) rfl (x_move) ?_)
  refine OW.cons (OP.val (v := (.int .i64 0)) rfl (x_assign) ?_)
  refine OW.cons (OP.val (v := (.int .i64 20)) rfl (x_assign) ?_)
  refine OW.nil ?_
  refine CW.seq ?_
  obtain ⟨o26, ho27, hm⟩ := bndE hm
  refine CW.loopB (fun (s_l1 : (List Int) × Int × Int) (F : Fr) (w : World) => ∃ (S23 : Nat → Prop), F 0 = v1 ∧ F 1 = (.int .i64 a1) ∧ F 2 = (.func (.func fk5) #[] cp6.toArray) ∧ F 6 = (.int .i64 20) ∧ F 7 = (.int .i64 s_l1.2.1) ∧ F 8 = (.int .i64 s_l1.2.2) ∧ Hp w0 [Ent.own E4 S23 v1 s_l1.1, Ent.frz w0 (Ent.own E4 S2 v1 a0).S] w) (fun o => outc o (fun x => some x) (fun s => M.slices_stableCmpFunc_int64__a1 a1 a2 s) = some r) ho27 hm ⟨S2, rfl, rfl, rfl, rfl, rfl, rfl, hL⟩ ?_ ?_
  · intro s_l1 F28 wd29 hJ hm
    have hm := outcE hm
    have hm : M.slices_stableCmpFunc_int64__a1 a1 a2 s_l1 = some r := hm
    unfold M.slices_stableCmpFunc_int64__a1 at hm
    obtain ⟨S23, f30, f31, f32, f33, f34, f35, hL⟩ := hJ
    refine CW.seq ?_
    refine CW.regionL ?_
    refine OW.cons (OP.val (v := v1) rfl (x_mv f30) ?_)
    refine OW.cons (OP.val (v := (.int .i64 s_l1.2.1)) rfl (x_mv f34) ?_)
    refine OW.cons (OP.val (v := (.int .i64 a1)) rfl (x_mv f31) ?_)
    refine OW.cons (OP.val (v := (.func (.func fk5) #[] cp6.toArray)) rfl (x_mv f32) ?_)
    obtain ⟨x36, hx37, hm⟩ := bndE hm
    refine OW.cons (OP.call rfl (x_call (vs := [v1, (.int .i64 s_l1.2.1), (.int .i64 a1), (.func (.func fk5) #[] cp6.toArray)]) Try_C97 ⟨rfl, rfl, rfl, rfl, trivial⟩) (M.slices_insertionSortCmpFunc_int64__ok _ s_l1.1 (hL.get 0 rfl) s_l1.2.1 a1 a2 (hL.fnZX 1 0 (by decide) rfl rfl hq7) hx37) ?_)
    rintro e38 wd39 ⟨S41, rfl, hF40⟩
    refine ⟨_, rfl, ?_⟩
    have hL := hL.mut 0 rfl hF40
    simp only [List.cons_append, List.nil_append, List.set_cons_zero, List.set_cons_succ] at hL
    refine OW.nil ?_
    obtain ⟨o106, ho107, hm⟩ := bndE hm
    refine CW.loopB (fun (s_l2 : Int) (F : Fr) (w : World) => F 0 = v1 ∧ F 1 = (.int .i64 a1) ∧ F 2 = (.func (.func fk5) #[] cp6.toArray) ∧ F 6 = (.int .i64 s_l2) ∧ Hp w0 [Ent.own E4 S41 v1 x36.2, Ent.frz w0 (Ent.own E4 S2 v1 a0).S] w) (fun o => outc o (fun x => some x) (fun s => M.slices_stableCmpFunc_int64__a2 x36 s) = some r) ho107 hm ⟨f30, f31, f32, f33, hL⟩ ?_ ?_
    · intro s_l2 F108 wd109 hJ hm
      have hm := outcE hm
      have hm : M.slices_stableCmpFunc_int64__a2 x36 s_l2 = some r := hm
      unfold M.slices_stableCmpFunc_int64__a2 at hm
      obtain ⟨f110, f111, f112, f113, hL⟩ := hJ
      obtain rfl := Option.some.inj hm
      exact RR0 rfl  ⟨S41, rfl, hL.mutOut 1 rfl [0] (by decide) (by decide) rfl⟩
    · intro s_l2 F114 wd115 t104 hJ hm hr105
      unfold M.slices_stableCmpFunc_int64__l2 at hm
      obtain ⟨f116, f117, f118, f119, hL⟩ := hJ
      refine CW.seq ?_
      refine CW.seq ?_
      refine CW.regionL ?_
      refine OW.cons (OP.val (v := (.int .i64 s_l2)) rfl (x_mv f119) ?_)
      refine OW.cons (OP.val (v := (.int .i64 a1)) rfl (x_mv f117) ?_)
      refine OW.cons (OP.val (v := (.bool (decide (s_l2 < a1)))) rfl (x_lss rfl rfl) ?_)
      refine OW.nil ?_
      refine CW.condM (t := decide (s_l2 < a1)) rfl hm (fun hb120 hm => ?_) (fun hb120 hm => ?_)
      · refine CW.skip ?_
        refine CW.block ?_
        refine CW.seq ?_
        refine CW.regionL ?_
        refine OW.cons (OP.val (v := (.int .i64 s_l2)) rfl (x_mv f119) ?_)
        refine OW.cons (OP.val (v := (.int .i64 (w64 (2 * s_l2)))) rfl (x_mul rfl rfl) ?_)
        refine OW.cons (OP.val (v := (.int .i64 0)) rfl (x_assign) ?_)
        refine OW.cons (OP.val (v := (.int .i64 (w64 (2 * s_l2)))) rfl (x_assign) ?_)
        refine OW.nil ?_
        refine CW.seq ?_
        obtain ⟨o124, ho125, hm⟩ := bndE hm
        refine CW.loopB (fun (s_l3 : Unit) (F : Fr) (w : World) => F 0 = v1 ∧ F 1 = (.int .i64 a1) ∧ F 2 = (.func (.func fk5) #[] cp6.toArray) ∧ F 6 = (.int .i64 s_l2) ∧ F 7 = (.int .i64 0) ∧ F 8 = (.int .i64 (w64 (2 * s_l2))) ∧ Hp w0 [Ent.own E4 S41 v1 x36.2, Ent.frz w0 (Ent.own E4 S2 v1 a0).S] w) (fun o => outc o (fun x => some (.ret x)) (fun s => M.slices_stableCmpFunc_int64__a3 a1 s_l2 s) = some t104) ho125 hm ⟨f116, f117, f118, f119, rfl, rfl, hL⟩ ?_ ?_
        · intro s_l3 F126 wd127 hJ hm
          have hm := outcE hm
          have hm : M.slices_stableCmpFunc_int64__a3 a1 s_l2 s_l3 = some t104 := hm
          unfold M.slices_stableCmpFunc_int64__a3 at hm
          obtain ⟨f128, f129, f130, f131, f132, f133, hL⟩ := hJ
          refine CW.seqJ (fun (s_j1 : Unit) (F : Fr) (w : World) => F 0 = v1 ∧ F 1 = (.int .i64 a1) ∧ F 2 = (.func (.func fk5) #[] cp6.toArray) ∧ F 6 = (.int .i64 s_l2) ∧ Hp w0 [Ent.own E4 S41 v1 x36.2, Ent.frz w0 (Ent.own E4 S2 v1 a0).S] w) (fun s_j1 => M.slices_stableCmpFunc_int64__j1 s_l2 s_j1 = some t104) ?_ ?_
          · refine CW.seq ?_
            refine CW.regionL ?_
            refine OW.cons (OP.val (v := (.int .i64 0)) rfl (x_mv f132) ?_)
            refine OW.cons (OP.val (v := (.int .i64 s_l2)) rfl (x_mv f131) ?_)
            refine OW.cons (OP.val (v := (.int .i64 (w64 (0 + s_l2)))) rfl (x_add rfl rfl) ?_)
            refine OW.cons (OP.val (v := (.int .i64 (w64 (0 + s_l2)))) rfl (x_assign) ?_)
            refine OW.nil ?_
            refine CW.seq ?_
            refine CW.regionL ?_
            refine OW.cons (OP.val (v := (.int .i64 (w64 (0 + s_l2)))) rfl (x_move) ?_)
            refine OW.cons (OP.val (v := (.int .i64 a1)) rfl (x_mv f129) ?_)
            refine OW.cons (OP.val (v := (.bool (decide ((w64 (0 + s_l2)) < a1)))) rfl (x_lss rfl rfl) ?_)
            refine OW.nil ?_
            refine CW.condM (t := decide ((w64 (0 + s_l2)) < a1)) rfl hm (fun hb141 hm => ?_) (fun hb141 hm => ?_)
            · refine CW.regionL ?_
              refine OW.cons (OP.val (v := v1) rfl (x_mv f128) ?_)
              refine OW.cons (OP.val (v := (.int .i64 0)) rfl (x_mv f132) ?_)
              refine OW.cons (OP.val (v := (.int .i64 (w64 (0 + s_l2)))) rfl (x_move) ?_)
              refine OW.cons (OP.val (v := (.int .i64 a1)) rfl (x_mv f129) ?_)
              refine OW.cons (OP.val (v := (.func (.func fk5) #[] cp6.toArray)) rfl (x_mv f130) ?_)
              exact nomatch hm
            · refine CW.skip ?_
              exact ⟨(), hm, ⟨f128, f129, f130, f131, hL⟩⟩
          · intro s_j1 F135 wd136 hJ hm
            unfold M.slices_stableCmpFunc_int64__j1 at hm
            obtain ⟨f137, f138, f139, f140, hL⟩ := hJ
            refine CW.regionL ?_
            refine OW.cons (OP.val (v := (.int .i64 s_l2)) rfl (x_mv f140) ?_)
            refine OW.cons (OP.val (v := (.int .i64 (w64 (s_l2 * 2)))) rfl (x_mul rfl rfl) ?_)
            refine OW.cons (OP.val (v := (.int .i64 (w64 (s_l2 * 2)))) rfl (x_assign) ?_)
            refine OW.nil ?_
            obtain rfl := Option.some.inj hm
            exact ⟨_, rfl, ⟨f137, f138, f139, rfl, hL⟩⟩
        · intro s_l3 F142 wd143 t122 hJ hm hr123
          unfold M.slices_stableCmpFunc_int64__l3 at hm
          obtain ⟨f144, f145, f146, f147, f148, f149, hL⟩ := hJ
          refine CW.seq ?_
          refine CW.seq ?_
          refine CW.regionL ?_
          refine OW.cons (OP.val (v := (.int .i64 (w64 (2 * s_l2)))) rfl (x_mv f149) ?_)
          refine OW.cons (OP.val (v := (.int .i64 a1)) rfl (x_mv f145) ?_)
          refine OW.cons (OP.val (v := (.bool (decide ((w64 (2 * s_l2)) ≤ a1)))) rfl (x_leq rfl rfl) ?_)
          refine OW.nil ?_
          refine CW.condM (t := decide ((w64 (2 * s_l2)) ≤ a1)) rfl hm (fun hb150 hm => ?_) (fun hb150 hm => ?_)
          · refine CW.skip ?_
            refine CW.block ?_
            refine CW.seq ?_
            refine CW.regionL ?_
            refine OW.cons (OP.val (v := v1) rfl (x_mv f144) ?_)
            refine OW.cons (OP.val (v := (.int .i64 0)) rfl (x_mv f148) ?_)
            refine OW.cons (OP.val (v := (.int .i64 0)) rfl (x_mv f148) ?_)
            refine OW.cons (OP.val (v := (.int .i64 s_l2)) rfl (x_mv f147) ?_)
            refine OW.cons (OP.val (v := (.int .i64 (w64 (0 + s_l2)))) rfl (x_add rfl rfl) ?_)
            refine OW.cons (OP.val (v := (.int .i64 (w64 (2 * s_l2)))) rfl (x_mv f149) ?_)
            refine OW.cons (OP.val (v := (.func (.func fk5) #[] cp6.toArray)) rfl (x_mv f146) ?_)
            exact nomatch hm
          · refine CW.exit ?_
            refine XJ.hit ?_
            obtain rfl := Option.some.inj hm
            exact ⟨_, rfl, ⟨f144, f145, f146, f147, f148, f149, hL⟩⟩
      · refine CW.exit ?_
        refine XJ.hit ?_
        obtain rfl := Option.some.inj hm
        exact ⟨_, rfl, ⟨f116, f117, f118, f119, hL⟩⟩
  · intro s_l1 F151 wd152 t24 hJ hm hr25
    unfold M.slices_stableCmpFunc_int64__l1 at hm
    obtain ⟨S23, f153, f154, f155, f156, f157, f158, hL⟩ := hJ
    refine CW.seq ?_
    refine CW.seq ?_
    refine CW.regionL ?_
    refine OW.cons (OP.val (v := (.int .i64 s_l1.2.2)) rfl (x_mv f158) ?_)
    refine OW.cons (OP.val (v := (.int .i64 a1)) rfl (x_mv f154) ?_)
    refine OW.cons (OP.val (v := (.bool (decide (s_l1.2.2 ≤ a1)))) rfl (x_leq rfl rfl) ?_)
    refine OW.nil ?_
    refine CW.condM (t := decide (s_l1.2.2 ≤ a1)) rfl hm (fun hb159 hm => ?_) (fun hb159 hm => ?_)
    · refine CW.skip ?_
      refine CW.block ?_
      refine CW.seq ?_
      refine CW.regionL ?_
      refine OW.cons (OP.val (v := v1) rfl (x_mv f153) ?_)
      refine OW.cons (OP.val (v := (.int .i64 s_l1.2.1)) rfl (x_mv f157) ?_)
      refine OW.cons (OP.val (v := (.int .i64 s_l1.2.2)) rfl (x_mv f158) ?_)
      refine OW.cons (OP.val (v := (.func (.func fk5) #[] cp6.toArray)) rfl (x_mv f155) ?_)
      obtain ⟨x160, hx161, hm⟩ := bndE hm
      refine OW.cons (OP.call rfl (x_call (vs := [v1, (.int .i64 s_l1.2.1), (.int .i64 s_l1.2.2), (.func (.func fk5) #[] cp6.toArray)]) Try_C97 ⟨rfl, rfl, rfl, rfl, trivial⟩) (M.slices_insertionSortCmpFunc_int64__ok _ s_l1.1 (hL.get 0 rfl) s_l1.2.1 s_l1.2.2 a2 (hL.fnZX 1 0 (by decide) rfl rfl hq7) hx161) ?_)
      rintro e162 wd163 ⟨S165, rfl, hF164⟩
      refine ⟨_, rfl, ?_⟩
      have hL := hL.mut 0 rfl hF164
      simp only [List.cons_append, List.nil_append, List.set_cons_zero, List.set_cons_succ] at hL
      refine OW.nil ?_
      refine CW.seq ?_
      refine CW.regionL ?_
      refine OW.cons (OP.val (v := (.int .i64 s_l1.2.2)) rfl (x_mv f158) ?_)
      refine OW.cons (OP.val (v := (.int .i64 s_l1.2.2)) rfl (x_assign) ?_)
      refine OW.nil ?_
      refine CW.regionL ?_
      refine OW.cons (OP.val (v := (.int .i64 s_l1.2.2)) rfl (x_mv f158) ?_)
      refine OW.cons (OP.val (v := (.int .i64 20)) rfl (x_mv f156) ?_)
      refine OW.cons (OP.val (v := (.int .i64 (w64 (s_l1.2.2 + 20)))) rfl (x_add rfl rfl) ?_)
      refine OW.cons (OP.val (v := (.int .i64 (w64 (s_l1.2.2 + 20)))) rfl (x_assign) ?_)
      refine OW.nil ?_
      obtain rfl := Option.some.inj hm
      exact ⟨_, rfl, ⟨S165, f153, f154, f155, f156, rfl, rfl, hL⟩⟩
    · refine CW.exit ?_
      refine XJ.hit ?_
      obtain rfl := Option.some.inj hm
      exact ⟨_, rfl, ⟨S23, f153, f154, f155, f156, f157, f158, hL⟩⟩

theorem M.slices_SortStableFunc___int64_int64__ok (w0 : World) {E4 : TypeId} {S2 : Nat → Prop} {v1 : Value} (a0 : List Int) (he3 : (Ent.own E4 S2 v1 a0).H w0) (a1 : Int → Int → Option Int) {fk5 : FuncId} {cp6 : List Value} (hq7 : FnQ Try.prog fk5 cp6 (fun k => k < w0.heap.size ∧ ¬ (Ent.own E4 S2 v1 a0).S k) w0 (fun yw yvs yv => ∃ (y0 : Int) (y1 : Int) (yr : Int), yvs = [(.int .i64 y0), (.int .i64 y1)] ∧ a1 y0 y1 = some yr ∧ yv = (.int .i64 yr))) {r : (Unit) × (List Int)} (hm : M.slices_SortStableFunc___int64_int64_ a0 a1 = some r) :
    Calls Try.prog 92 #[v1, (.func (.func fk5) #[] cp6.toArray)] w0 fun e w' => ∃ (ioS : Nat → Prop), e = .returned (.tuple #[]) ∧ Mut w0 w' (Ent.own E4 S2 v1 a0).S [Ent.own E4 ioS v1 r.2] := by
  unfold M.slices_SortStableFunc___int64_int64_ at hm
  refine calls_CW (args := [v1, (.func (.func fk5) #[] cp6.toArray)]) Try.func92 rfl rfl rfl ?_
  have hL := Hp.startIO he3
  refine CW.regionL ?_
  refine OW.cons (OP.val (v := v1) rfl (x_move) ?_)
  refine OW.cons (OP.val (v := v1) rfl (x_move) ?_)
  refine OW.cons (OP.val (v := (.int .i64 (a0.length : Int))) rfl (x_lenR Try.underlying53 rfl (hL.rdO 0 rfl)) ?_)
  refine OW.cons (OP.val (v := (.func (.func fk5) #[] cp6.toArray)) rfl (x_move) ?_)
  obtain ⟨x8, hx9, hm⟩ := bndE hm
  refine OW.cons (OP.call rfl (x_call (vs := [v1, (.int .i64 (a0.length : Int)), (.func (.func fk5) #[] cp6.toArray)]) Try_C96 ⟨rfl, rfl, rfl, trivial⟩) (M.slices_stableCmpFunc_int64__ok _ a0 (hL.get 0 rfl) (a0.length : Int) a1 (hL.fnZX 1 0 (by decide) rfl rfl hq7) hx9) ?_)
  rintro e10 wd11 ⟨S13, rfl, hF12⟩
  refine ⟨_, rfl, ?_⟩
  have hL := hL.mut 0 rfl hF12
  simp only [List.cons_append, List.nil_append, List.set_cons_zero, List.set_cons_succ] at hL
  refine OW.nil ?_
  obtain rfl := Option.some.inj hm
  exact RR0 rfl  ⟨S13, rfl, hL.mutOut 1 rfl [0] (by decide) (by decide) rfl⟩

theorem M.impl_sortedIndices_ok (w0 : World) (a0 : Int) (a1 : Int → Int → Option Int) {fk1 : FuncId} {cp2 : List Value} (hq3 : FnQ Try.prog fk1 cp2 (· < w0.heap.size) w0 (fun yw yvs yv => ∃ (y0 : Int) (y1 : Int) (yr : Int), yvs = [(.int .i64 y0), (.int .i64 y1)] ∧ a1 y0 y1 = some yr ∧ yv = (.int .i64 yr))) {r : (List Int)} (hm : M.impl_sortedIndices a0 a1 = some r) :
    Calls Try.prog 78 #[(.int .i64 a0), (.func (.func fk1) #[] cp2.toArray)] w0 fun e w' => ∃ (rv0 : Value) (rS0 : Nat → Prop), e = .returned rv0 ∧ Fresh w0 w' [Ent.own 2 rS0 rv0 r] := by
  unfold M.impl_sortedIndices at hm
  refine calls_CW (args := [(.int .i64 a0), (.func (.func fk1) #[] cp2.toArray)]) Try.func78 rfl rfl rfl ?_
  have hL := Hp.start w0
  refine CW.seq ?_
  refine CW.regionL ?_
  refine OW.cons (S_box (cs := #[(.func (.func fk1) #[] cp2.toArray)]) hL rfl rfl rfl ?_)
  intro wd4 b5 hL
  refine OW.cons (OP.val (v := (.slice none 0 0)) rfl (x_assign) ?_)
  refine OW.nil ?_
  refine CW.seq ?_
  refine CW.regionL ?_
  refine OW.cons (S_lit ([] : List Int) hL Try.underlying53 Try_T2 rfl (by decide) (by first | (simp [Instr.fill, madeCells, Value.cells, ev, upd, Flat.enc, Flat.sz]; done) | rfl | kernel_rfl) rfl rfl ?_)
  intro wd6 v7 S8 hL
  refine OW.cons (OP.val (v := v7) rfl (x_assign) ?_)
  refine OW.nil ?_
  refine CW.seq ?_
  refine CW.seq ?_
  refine CW.regionL ?_
  refine OW.cons (OP.val (v := (.int .i64 a0)) rfl (x_move) ?_)
  refine OW.cons (OP.val (v := (.int .i64 0)) rfl (x_move) ?_)
  refine OW.nil ?_
  obtain ⟨o31, ho32, hm⟩ := bndE hm
  refine CW.loopB (fun (s_l1 : (List Int) × Int) (F : Fr) (w : World) => ∃ (v27 : Value) (S28 : Nat → Prop), F 3 = (.pointer (some ⟨b5, 0, none⟩)) ∧ F 5 = v27 ∧ F 8 = (.int .i64 a0) ∧ F 9 = (.int .i64 s_l1.2) ∧ Hp w0 [Ent.own 2 S28 v27 s_l1.1, Ent.blk b5 102 #[(.func (.func fk1) #[] cp2.toArray)], Ent.snap w0 w0.heap.size] w) (fun o => outc o (fun x => some x) (fun s => M.impl_sortedIndices_a1 a1 s) = some r) ho32 hm ⟨v7, S8, rfl, rfl, rfl, rfl, hL⟩ ?_ ?_
  · intro s_l1 F33 wd34 hJ hm
    have hm := outcE hm
    have hm : M.impl_sortedIndices_a1 a1 s_l1 = some r := hm
    unfold M.impl_sortedIndices_a1 at hm
    obtain ⟨v27, S28, f35, f36, f37, f38, hL⟩ := hJ
    refine CW.seq ?_
    refine CW.regionL ?_
    refine OW.cons (OP.val (v := v27) rfl (x_mv f36) ?_)
    refine OW.cons (OP.val (v := (.func (.func 93) #[] #[(.pointer (some ⟨b5, 0, none⟩))])) rfl (x_makeFunc (vs := [(.pointer (some ⟨b5, 0, none⟩))]) ⟨f35, trivial⟩) ?_)
    obtain ⟨x39, hx40, hm⟩ := bndE hm
    refine OW.cons (OP.call rfl (x_call (vs := [v27, (.func (.func 93) #[] #[(.pointer (some ⟨b5, 0, none⟩))])]) Try_C92 ⟨rfl, rfl, trivial⟩) (M.slices_SortStableFunc___int64_int64__ok _ s_l1.1 (hL.get 0 rfl) (fun y0 y1 => M.impl_sortedIndices_1 y0 y1 a1) ⟨Try_C93, fun yw hag yvs yv hR => by obtain ⟨y0, y1, yr, rfl, hyf, rfl⟩ := hR; exact M.impl_sortedIndices_1_ok yw y0 y1 a1 (hag.fnS (hL.fnSX 2 0 (by decide) rfl rfl hq3)) (hag.bx (hL.bxX 1 0 (by decide) rfl rfl)) hyf⟩ hx40) ?_)
    rintro e41 wd42 ⟨S44, rfl, hF43⟩
    refine ⟨_, rfl, ?_⟩
    have hL := hL.mut 0 rfl hF43
    simp only [List.cons_append, List.nil_append, List.set_cons_zero, List.set_cons_succ] at hL
    refine OW.nil ?_
    refine CW.seq ?_
    refine CW.regionL ?_
    refine OW.cons (OP.val (v := v27) rfl (x_mv f36) ?_)
    refine OW.cons (OP.val (v := v27) rfl (x_assign) ?_)
    refine OW.nil ?_
    refine CW.ret ?_
    obtain rfl := Option.some.inj hm
    exact RR1 rfl rfl ⟨v27, S44, rfl, hL.fresh 2 rfl [0] (by decide) (by decide) rfl⟩
  · intro s_l1 F45 wd46 t29 hJ hm hr30
    unfold M.impl_sortedIndices_l1 at hm
    obtain ⟨v27, S28, f47, f48, f49, f50, hL⟩ := hJ
    refine CW.seq ?_
    refine CW.regionL ?_
    refine OW.cons (OP.val (v := (.bool (decide (s_l1.2 < a0)))) rfl (x_lss f50 f49) ?_)
    refine OW.nil ?_
    refine CW.seq ?_
    refine CW.condM (t := decide (s_l1.2 < a0)) rfl hm (fun hb51 hm => ?_) (fun hb51 hm => ?_)
    · refine CW.skip ?_
      refine CW.seq ?_
      refine CW.block ?_
      refine CW.seq ?_
      refine CW.regionL ?_
      refine OW.cons (OP.val (v := (.int .i64 s_l1.2)) rfl (x_mv f50) ?_)
      refine OW.cons (OP.val (v := (.int .i64 s_l1.2)) rfl (x_assign) ?_)
      refine OW.nil ?_
      refine CW.regionL ?_
      refine OW.cons (OP.val (v := v27) rfl (x_mv f48) ?_)
      refine OW.cons (OP.val (v := (.int .i64 s_l1.2)) rfl (x_move) ?_)
      refine OW.cons (S_lit ([s_l1.2] : List Int) hL Try.underlying53 Try_T2 rfl (by decide) (by first | (simp [Instr.fill, madeCells, Value.cells, ev, upd, Flat.enc, Flat.sz]; done) | rfl | kernel_rfl) rfl rfl ?_)
      intro wd52 v53 S54 hL
      obtain ⟨hc58, hm⟩ := chkE hm
      refine OW.cons (S_append (ys := ([s_l1.2] : List Int)) hL 1 rfl Try.underlying53 Try_T2 rfl rfl rfl (hL.rdO 0 rfl) hc58 (by decide) rfl ?_)
      intro wd55 v56 S57 hL
      refine OW.cons (OP.val (v := v56) rfl (x_assign) ?_)
      refine OW.nil ?_
      refine CW.regionL ?_
      refine OW.cons (OP.val (v := (.int .i64 (w64 (s_l1.2 + 1)))) rfl (x_add f50 rfl) ?_)
      refine OW.cons (OP.val (v := (.int .i64 (w64 (s_l1.2 + 1)))) rfl (x_move) ?_)
      refine OW.nil ?_
      have hL := hL.sel [1, 2, 3] (by decide) rfl
      obtain rfl := Option.some.inj hm
      exact ⟨_, rfl, ⟨v56, S57, f47, rfl, f49, rfl, hL⟩⟩
    · refine CW.exit ?_
      refine XJ.hit ?_
      obtain rfl := Option.some.inj hm
      exact ⟨_, rfl, ⟨v27, S28, f47, f48, f49, f50, hL⟩⟩

theorem M.impl_FinishOrder_ok (w0 : World) (a0 : Int) (a1 : Race) {v1 : Value} (h2 : rdL (· < w0.heap.size) w0 v1 a1.Finishes) {r : (List Int) × Int} (hm : M.impl_FinishOrder a0 a1 = some r) :
    Calls Try.prog 44 #[(.int .i64 a0), (.agg #[v1])] w0 fun e w' => ∃ (rv0 : Value) (rS0 : Nat → Prop), e = .returned (.tuple #[rv0, (.int .i64 r.2)]) ∧ Fresh w0 w' [Ent.own 2 rS0 rv0 r.1] := by
  unfold M.impl_FinishOrder at hm
  refine calls_CW (args := [(.int .i64 a0), (.agg #[v1])]) Try.func44 rfl rfl rfl ?_
  have hL := Hp.start w0
  refine CW.seq ?_
  refine CW.regionL ?_
  refine OW.cons (S_box (cs := #[v1]) hL rfl rfl rfl ?_)
  intro wd3 b4 hL
  refine OW.cons (OP.val (v := (.slice none 0 0)) rfl (x_assign) ?_)
  refine OW.cons (OP.val (v := (.int .i64 0)) rfl (x_assign) ?_)
  refine OW.nil ?_
  refine CW.seq ?_
  refine CW.seq ?_
  refine CW.regionL ?_
  refine OW.cons (OP.val (v := (.int .i64 a0)) rfl (x_move) ?_)
  refine OW.cons (OP.val (v := (.agg #[v1])) rfl (x_loadN (cs := [v1]) Try.underlying29 Try_T29 rfl rfl (hL.cellsB 0 rfl (o := 0) (l := [v1]) (by intro j u hj; exact (by simpa using hj)))) ?_)
  obtain ⟨x5, hx6, hm⟩ := bndE hm
  refine OW.cons (OP.call rfl (x_call (vs := [(.int .i64 a0), (.agg #[v1])]) Try_C16 ⟨rfl, rfl, trivial⟩) (M.impl_IsRace_ok _ a0 a1 (hL.rdS 1 rfl h2) hx6) ?_)
  rintro e7 wd8 ⟨rfl, hF9⟩
  refine ⟨_, rfl, ?_⟩
  have hL := hL.pushAll hF9
  simp only [List.cons_append, List.nil_append, List.set_cons_zero, List.set_cons_succ] at hL
  refine OW.cons (OP.val (v := (.bool (!x5))) rfl (x_not rfl) ?_)
  refine OW.nil ?_
  refine CW.condM (t := !x5) rfl hm (fun hb10 hm => ?_) (fun hb10 hm => ?_)
  · refine CW.seq ?_
    refine CW.regionL ?_
    refine OW.cons (OP.val (v := (.slice none 0 0)) rfl (x_assign) ?_)
    refine OW.cons (OP.val (v := (.int .i64 1)) rfl (x_assign) ?_)
    refine OW.nil ?_
    refine CW.ret ?_
    have hL := hL.pushNil Int 2
    obtain rfl := Option.some.inj hm
    exact RR2 rfl rfl rfl ⟨(.slice none 0 0), None_, rfl, hL.fresh 2 rfl [0] (by decide) (by decide) rfl⟩
  · refine CW.skip ?_
    refine CW.seq ?_
    refine CW.regionL ?_
    refine OW.cons (OP.val (v := (.pointer (some ⟨b4, 0, none⟩))) rfl (x_fieldAddr (fsz := 1) 0 0 0 Try.underlying29 rfl Try_T27 rfl rfl rfl) ?_)
    refine OW.cons (OP.val (v := v1) rfl (x_load1 Try.underlying27 rfl rfl (hL.cellB 0 rfl rfl)) ?_)
    refine OW.cons (OP.val (v := (.int .i64 (a1.Finishes.length : Int))) rfl (x_lenR Try.underlying27 rfl (hL.rdS 1 rfl h2)) ?_)
    refine OW.cons (OP.val (v := (.func (.func 79) #[] #[(.pointer (some ⟨b4, 0, none⟩))])) rfl (x_makeFunc (vs := [(.pointer (some ⟨b4, 0, none⟩))]) ⟨rfl, trivial⟩) ?_)
    obtain ⟨x11, hx12, hm⟩ := bndE hm
    refine OW.cons (OP.call rfl (x_call (vs := [(.int .i64 (a1.Finishes.length : Int)), (.func (.func 79) #[] #[(.pointer (some ⟨b4, 0, none⟩))])]) Try_C78 ⟨rfl, rfl, trivial⟩) (M.impl_sortedIndices_ok _ (a1.Finishes.length : Int) (fun y0 y1 => M.impl_FinishOrder_1 y0 y1 a1) ⟨Try_C79, fun yw hag yvs yv hR => by obtain ⟨y0, y1, yr, rfl, hyf, rfl⟩ := hR; exact M.impl_FinishOrder_1_ok yw y0 y1 a1 (hag.rdL (hL.rdS 1 rfl h2)) (hag.bx (hL.bxB 0 rfl)) hyf⟩ hx12) ?_)
    rintro e15 wd16 ⟨v14, S13, rfl, hF17⟩
    refine ⟨_, rfl, ?_⟩
    have hL := hL.pushAll hF17
    simp only [List.cons_append, List.nil_append, List.set_cons_zero, List.set_cons_succ] at hL
    refine OW.cons (OP.val (v := v14) rfl (x_assign) ?_)
    refine OW.cons (OP.val (v := (.int .i64 0)) rfl (x_assign) ?_)
    refine OW.nil ?_
    refine CW.ret ?_
    obtain rfl := Option.some.inj hm
    exact RR2 rfl rfl rfl ⟨v14, S13, rfl, hL.fresh 2 rfl [0] (by decide) (by decide) rfl⟩

theorem M.laws_FnExactFinishOrder_ok (w0 : World) (a0 : Int) (a1 : Race) {v1 : Value} (h2 : rdL (· < w0.heap.size) w0 v1 a1.Finishes) {r : Bool} (hm : M.laws_FnExactFinishOrder a0 a1 = some r) :
    Calls Try.prog 10 #[(.int .i64 a0), (.agg #[v1])] w0 fun e w' => e = .returned (.bool r) ∧ Fresh w0 w' [] := by
  unfold M.laws_FnExactFinishOrder at hm
  refine calls_CW (args := [(.int .i64 a0), (.agg #[v1])]) Try.func10 rfl rfl rfl ?_
  have hL := Hp.start w0
  refine CW.seq ?_
  refine CW.regionL ?_
  refine OW.cons (S_box (cs := #[v1]) hL rfl rfl rfl ?_)
  intro wd3 b4 hL
  refine OW.cons (OP.val (v := (.bool false)) rfl (x_assign) ?_)
  refine OW.nil ?_
  refine CW.seq ?_
  refine CW.regionL ?_
  refine OW.cons (OP.val (v := (.int .i64 1048576)) rfl (x_assign) ?_)
  refine OW.nil ?_
  refine CW.seq ?_
  refine CW.regionL ?_
  refine OW.cons (OP.val (v := (.agg #[v1])) rfl (x_loadN (cs := [v1]) Try.underlying24 Try_T24 rfl rfl (hL.cellsB 0 rfl (o := 0) (l := [v1]) (by intro j u hj; exact (by simpa using hj)))) ?_)
  refine OW.cons (OP.val (v := (.int .i64 1048576)) rfl (x_move) ?_)
  obtain ⟨x5, hx6, hm⟩ := bndE hm
  refine OW.cons (OP.call rfl (x_call (vs := [(.agg #[v1]), (.int .i64 1048576)]) Try_C13 ⟨rfl, rfl, trivial⟩) (M.laws_szRace_ok _ a1 (hL.rdS 1 rfl h2) 1048576 hx6) ?_)
  rintro e7 wd8 ⟨rfl, hF9⟩
  refine ⟨_, rfl, ?_⟩
  have hL := hL.pushAll hF9
  simp only [List.cons_append, List.nil_append, List.set_cons_zero, List.set_cons_succ] at hL
  refine OW.cons (OP.val (v := (.int .i64 x5)) rfl (x_assign) ?_)
  refine OW.nil ?_
  refine CW.seq ?_
  refine CW.seq ?_
  refine CW.regionL ?_
  refine OW.cons (OP.val (v := (.int .i64 x5)) rfl (x_move) ?_)
  refine OW.cons (OP.val (v := (.bool (decide (x5 < 0)))) rfl (x_lss rfl rfl) ?_)
  refine OW.nil ?_
  refine CW.condM (t := decide (x5 < 0)) rfl hm (fun hb10 hm => ?_) (fun hb10 hm => ?_)
  · refine CW.seq ?_
    refine CW.regionL ?_
    refine OW.cons (OP.val (v := (.bool true)) rfl (x_assign) ?_)
    refine OW.nil ?_
    refine CW.ret ?_
    obtain rfl := Option.some.inj hm
    exact RR1 rfl rfl ⟨rfl, hL.fresh 1 rfl [] (by decide) (by decide) rfl⟩
  · refine CW.skip ?_
    refine CW.seq ?_
    refine CW.regionL ?_
    refine OW.cons (OP.val (v := (.int .i64 a0)) rfl (x_move) ?_)
    refine OW.cons (OP.val (v := (.agg #[v1])) rfl (x_loadN (cs := [v1]) Try.underlying24 Try_T24 rfl rfl (hL.cellsB 0 rfl (o := 0) (l := [v1]) (by intro j u hj; exact (by simpa using hj)))) ?_)
    obtain ⟨x11, hx12, hm⟩ := bndE hm
    refine OW.cons (OP.call rfl (x_call (vs := [(.agg #[v1])]) Try_C15 ⟨rfl, trivial⟩) (M.laws_toRace_ok _ a1 (hL.rdS 1 rfl h2) hx12) ?_)
    rintro e15 wd16 ⟨v14, S13, rfl, hF17⟩
    refine ⟨_, rfl, ?_⟩
    have hL := hL.pushAll hF17
    simp only [List.cons_append, List.nil_append, List.set_cons_zero, List.set_cons_succ] at hL
    obtain ⟨x18, hx19, hm⟩ := bndE hm
    refine OW.cons (OP.call rfl (x_call (vs := [(.int .i64 a0), (.agg #[v14])]) Try_C43 ⟨rfl, rfl, trivial⟩) (M.spec_FinishOrder_ok _ a0 x11 (hL.rdO 0 rfl) hx19) ?_)
    rintro e22 wd23 ⟨v21, S20, rfl, hF24⟩
    refine ⟨_, rfl, ?_⟩
    have hL := hL.pushAll hF24
    simp only [List.cons_append, List.nil_append, List.set_cons_zero, List.set_cons_succ] at hL
    refine OW.cons (OP.val (v := (.tuple #[v21, (.int .i64 x18.2)])) rfl (x_move) ?_)
    refine OW.cons (OP.val (v := v21) rfl (x_extract rfl rfl) ?_)
    refine OW.cons (OP.val (v := (.int .i64 x18.2)) rfl (x_extract rfl rfl) ?_)
    refine OW.cons (OP.val (v := v21) rfl (x_assign) ?_)
    refine OW.cons (OP.val (v := (.int .i64 x18.2)) rfl (x_assign) ?_)
    refine OW.nil ?_
    refine CW.seq ?_
    refine CW.regionL ?_
    refine OW.cons (OP.val (v := (.agg #[v1])) rfl (x_loadN (cs := [v1]) Try.underlying24 Try_T24 rfl rfl (hL.cellsB 2 rfl (o := 0) (l := [v1]) (by intro j u hj; exact (by simpa using hj)))) ?_)
    obtain ⟨x25, hx26, hm⟩ := bndE hm
    refine OW.cons (OP.call rfl (x_call (vs := [(.agg #[v1])]) Try_C15 ⟨rfl, trivial⟩) (M.laws_toRace_ok _ a1 (hL.rdS 3 rfl h2) hx26) ?_)
    rintro e29 wd30 ⟨v28, S27, rfl, hF31⟩
    refine ⟨_, rfl, ?_⟩
    have hL := hL.pushAll hF31
    simp only [List.cons_append, List.nil_append, List.set_cons_zero, List.set_cons_succ] at hL
    refine OW.cons (S_alloc (cs := #[(.slice none 0 0)]) hL Try_T29 rfl rfl ?_)
    intro wd32 b33 hL
    refine OW.cons (S_storeN (l := [v28]) (cs' := #[v28]) hL 0 rfl Try_T29 rfl rfl (List.forall_mem_cons.2 ⟨rdL_one (hL.rdO 1 rfl), (fun _ h => by cases h)⟩) rfl (Nat.le_of_ble_eq_true rfl) rfl ?_)
    intro wd34 hL
    refine OW.nil ?_
    refine CW.seq ?_
    refine CW.regionL ?_
    refine OW.cons (OP.val (v := (.int .i64 a0)) rfl (x_move) ?_)
    refine OW.cons (OP.val (v := (.agg #[v28])) rfl (x_loadN (cs := [v28]) Try.underlying29 Try_T29 rfl rfl (hL.cellsB 0 rfl (o := 0) (l := [v28]) (by intro j u hj; exact (by simpa using hj)))) ?_)
    obtain ⟨x35, hx36, hm⟩ := bndE hm
    refine OW.cons (OP.call rfl (x_call (vs := [(.int .i64 a0), (.agg #[v28])]) Try_C44 ⟨rfl, rfl, trivial⟩) (M.impl_FinishOrder_ok _ a0 x25 (hL.rdO 1 rfl) hx36) ?_)
    rintro e39 wd40 ⟨v38, S37, rfl, hF41⟩
    refine ⟨_, rfl, ?_⟩
    have hL := hL.pushAll hF41
    simp only [List.cons_append, List.nil_append, List.set_cons_zero, List.set_cons_succ] at hL
    refine OW.cons (OP.val (v := (.tuple #[v38, (.int .i64 x35.2)])) rfl (x_move) ?_)
    refine OW.cons (OP.val (v := v38) rfl (x_extract rfl rfl) ?_)
    refine OW.cons (OP.val (v := (.int .i64 x35.2)) rfl (x_extract rfl rfl) ?_)
    refine OW.cons (OP.val (v := v38) rfl (x_assign) ?_)
    refine OW.cons (OP.val (v := (.int .i64 x35.2)) rfl (x_assign) ?_)
    refine OW.nil ?_
    refine CW.seq ?_
    refine CW.seqJ (fun (s_j1 : Bool) (F : Fr) (w : World) => F 0 = (.int .i64 a0) ∧ F 3 = (.pointer (some ⟨b4, 0, none⟩)) ∧ F 6 = v21 ∧ F 7 = (.int .i64 x18.2) ∧ F 8 = (.pointer (some ⟨b33, 0, none⟩)) ∧ F 9 = v38 ∧ F 10 = (.int .i64 x35.2) ∧ F 44 = (.bool s_j1) ∧ Hp w0 [Ent.own 2 S37 v38 x35.1, Ent.blk b33 29 #[v28], Ent.own 88 S27 v28 x25.Finishes, Ent.own 2 S20 v21 x18.1, Ent.blk b4 24 #[v1], Ent.snap w0 w0.heap.size] w) (fun s_j1 => M.laws_FnExactFinishOrder_j1 a0 a1 x18 x25 x35 s_j1 = some r) ?_ ?_
    · refine CW.regionL ?_
      refine OW.cons (OP.val (v := v38) rfl (x_move) ?_)
      refine OW.cons (OP.val (v := v21) rfl (x_move) ?_)
      obtain ⟨x165, hx166, hm⟩ := bndE hm
      refine OW.cons (OP.call rfl (x_call (vs := [v38, v21]) Try_C30 ⟨rfl, rfl, trivial⟩) (M.laws_eqInt64S_ok _ x35.1 (hL.rdO 0 rfl) x18.1 (hL.rdO 3 rfl) hx166) ?_)
      rintro e167 wd168 ⟨rfl, hF169⟩
      refine ⟨_, rfl, ?_⟩
      have hL := hL.pushAll hF169
      simp only [List.cons_append, List.nil_append, List.set_cons_zero, List.set_cons_succ] at hL
      refine OW.cons (OP.val (v := (.bool (!x165))) rfl (x_not rfl) ?_)
      refine OW.cons (OP.val (v := (.bool (!x165))) rfl (x_move) ?_)
      refine ifB_elim hm (fun hb170 hm => ?_) (fun hb170 hm => ?_)
      · refine OW.cons (OP.no' rfl rfl hb170 rfl ?_)
        refine OW.cons (OP.no' rfl rfl hb170 rfl ?_)
        refine OW.cons (OP.no' rfl rfl hb170 rfl ?_)
        refine OW.cons (OP.val (v := (.bool true)) rfl (x_pickT' rfl hb170 rfl) ?_)
        refine OW.nil ?_
        have hL := hL.sel [0, 1, 2, 3, 5, 6] (by decide) rfl
        exact ⟨true, hm, ⟨rfl, rfl, rfl, rfl, rfl, rfl, rfl, rfl, hL⟩⟩
      · refine OW.cons (OP.yes' rfl rfl hb170 (OP.val (v := (.int .i64 x35.2)) rfl (x_move) ?_))
        refine OW.cons (OP.yes' rfl rfl hb170 (OP.val (v := (.int .i64 x18.2)) rfl (x_move) ?_))
        refine OW.cons (OP.yes' rfl rfl hb170 (OP.val (v := (.bool (x35.2 != x18.2))) rfl (x_neq rfl rfl) ?_))
        refine OW.cons (OP.val (v := (.bool (x35.2 != x18.2))) rfl (x_pickF' rfl hb170 rfl) ?_)
        refine OW.nil ?_
        have hL := hL.sel [0, 1, 2, 3, 5, 6] (by decide) rfl
        exact ⟨x35.2 != x18.2, hm, ⟨rfl, rfl, rfl, rfl, rfl, rfl, rfl, rfl, hL⟩⟩
    · intro s_j1 F48 wd49 hJ hm
      unfold M.laws_FnExactFinishOrder_j1 at hm
      obtain ⟨f50, f51, f52, f53, f54, f55, f56, f57, hL⟩ := hJ
      refine CW.condM (t := s_j1) f57 hm (fun hb58 hm => ?_) (fun hb58 hm => ?_)
      · refine CW.seq ?_
        refine CW.regionL ?_
        refine OW.cons (OP.val (v := (.bool false)) rfl (x_assign) ?_)
        refine OW.nil ?_
        refine CW.ret ?_
        obtain rfl := Option.some.inj hm
        exact RR1 rfl rfl ⟨rfl, hL.fresh 5 rfl [] (by decide) (by decide) rfl⟩
      · refine CW.skip ?_
        refine CW.seq ?_
        refine CW.seq ?_
        refine CW.drawH (fun w' => Hp w0 [Ent.own 2 S37 v38 x35.1, Ent.blk b33 29 #[v28], Ent.own 88 S27 v28 x25.Finishes, Ent.own 2 S20 v21 x18.1, Ent.blk b4 24 #[v1], Ent.snap w0 w0.heap.size] w') Try_mixed ?_
        have hL := hL.call (Mod.drew _)
        have hS := (hL.sel [0, 1, 2, 3, 4, 5] (by decide) rfl)
        refine DH.take 0 rfl (by kernel_rfl) (by kernel_rfl) (by kernel_rfl) rfl rfl hS (YH.val (v := (.agg #[v28])) (fun w' hS' => x_loadN (cs := [v28]) Try.underlying29 Try_T29 rfl f54 (hS'.cellsB 1 rfl (o := 0) (l := [v28]) (by intro j u hj; exact (by simpa using hj))))) ?_
        have hS := (hL.sel [0, 1, 2, 3, 4, 5] (by decide) rfl)
        refine DH.take 1 rfl (by kernel_rfl) (by kernel_rfl) (by kernel_rfl) rfl rfl hS (YH.val (v := (.agg #[v1])) (fun w' hS' => x_loadN (cs := [v1]) Try.underlying24 Try_T24 rfl f51 (hS'.cellsB 4 rfl (o := 0) (l := [v1]) (by intro j u hj; exact (by simpa using hj))))) ?_
        obtain ⟨x71, hx72, hm⟩ := bndE hm
        refine DH.only 2 rfl (by kernel_rfl) (OP.call rfl (x_call (vs := [(.agg #[v1])]) Try_C15 ⟨rfl, trivial⟩) (M.laws_toRace_ok _ a1 (hL.rdS 5 rfl h2) hx72) ?_)
        rintro e75 wd76 ⟨v74, S73, rfl, hF77⟩
        refine ⟨_, rfl, ?_⟩
        have hL := hL.pushAll hF77
        simp only [List.cons_append, List.nil_append, List.set_cons_zero, List.set_cons_succ] at hL
        refine ⟨(hL.sel [1, 2, 3, 4, 5, 6] (by decide) rfl), ?_⟩
        obtain ⟨x78, hx79, hm⟩ := bndE hm
        refine DH.only 3 rfl (by kernel_rfl) (OP.call rfl (x_call (vs := [(.agg #[v28]), (.agg #[v74])]) Try_C17 ⟨rfl, rfl, trivial⟩) (M.laws_eqRace_ok _ x25 (hL.rdO 3 rfl) x71 (hL.rdO 0 rfl) hx79) ?_)
        rintro e80 wd81 ⟨rfl, hF82⟩
        refine ⟨_, rfl, ?_⟩
        have hL := hL.pushAll hF82
        simp only [List.cons_append, List.nil_append, List.set_cons_zero, List.set_cons_succ] at hL
        refine ⟨(hL.sel [1, 2, 3, 4, 5, 6] (by decide) rfl), ?_⟩
        have hS := (hL.sel [1, 2, 3, 4, 5, 6] (by decide) rfl)
        refine DH.take 4 rfl (by kernel_rfl) (by kernel_rfl) (by kernel_rfl) rfl rfl hS (YH.val (v := (.bool (!x78))) (fun w' hS' => x_not rfl)) ?_
        refine DH.done (by kernel_rfl) ?_
        refine CW.condM (t := !x78) rfl hm (fun hb83 hm => ?_) (fun hb83 hm => ?_)
        · refine CW.seq ?_
          refine CW.regionL ?_
          refine OW.cons (OP.val (v := (.bool false)) rfl (x_assign) ?_)
          refine OW.nil ?_
          refine CW.ret ?_
          obtain rfl := Option.some.inj hm
          exact RR1 rfl rfl ⟨rfl, hL.fresh 6 rfl [] (by decide) (by decide) rfl⟩
        · refine CW.skip ?_
          refine CW.seq ?_
          refine CW.regionL ?_
          refine OW.cons (OP.val (v := (.int .i64 1)) rfl (x_assign) ?_)
          refine OW.nil ?_
          refine CW.seq ?_
          refine CW.regionL ?_
          refine OW.cons (OP.val (v := (.agg #[v28])) rfl (x_loadN (cs := [v28]) Try.underlying29 Try_T29 rfl f54 (hL.cellsB 2 rfl (o := 0) (l := [v28]) (by intro j u hj; exact (by simpa using hj)))) ?_)
          refine OW.cons (OP.val (v := (.int .i64 1)) rfl (x_move) ?_)
          obtain ⟨x84, hx85, hm⟩ := bndE hm
          refine OW.cons (OP.call rfl (x_call (vs := [(.agg #[v28]), (.int .i64 1)]) Try_C31 ⟨rfl, rfl, trivial⟩) (M.laws_markRace_ok _ (Race.mk x25.Finishes) (hL.get 3 rfl) 1 hx85) ?_)
          rintro e86 wd87 ⟨S89, rfl, hF88⟩
          refine ⟨_, rfl, ?_⟩
          have hL := hL.mut 3 rfl hF88
          simp only [List.cons_append, List.nil_append, List.set_cons_zero, List.set_cons_succ] at hL
          refine OW.cons (OP.val (v := (.int .i64 x84.1)) rfl (x_assign) ?_)
          refine OW.nil ?_
          refine CW.seq ?_
          refine CW.seqJ (fun (s_j2 : Bool) (F : Fr) (w : World) => F 0 = (.int .i64 a0) ∧ F 3 = (.pointer (some ⟨b4, 0, none⟩)) ∧ F 6 = v21 ∧ F 7 = (.int .i64 x18.2) ∧ F 9 = v38 ∧ F 65 = (.bool s_j2) ∧ Hp w0 [Ent.own 2 S37 v38 x35.1, Ent.blk b33 29 #[v28], Ent.own 88 S89 v28 x84.2.Finishes, Ent.own 2 S20 v21 x18.1, Ent.blk b4 24 #[v1], Ent.snap w0 w0.heap.size] w) (fun s_j2 => M.laws_FnExactFinishOrder_j2 a0 a1 x18 x35 s_j2 = some r) ?_ ?_
          · refine CW.regionL ?_
            refine OW.cons (OP.val (v := (.int .i64 x84.1)) rfl (x_move) ?_)
            refine OW.cons (OP.val (v := (.bool (decide (x84.1 < 0)))) rfl (x_lss rfl rfl) ?_)
            refine OW.cons (OP.val (v := (.bool (decide (x84.1 < 0)))) rfl (x_move) ?_)
            refine ifB_elim hm (fun hb158 hm => ?_) (fun hb158 hm => ?_)
            · refine OW.cons (OP.no' rfl rfl hb158 rfl ?_)
              refine OW.cons (OP.no' rfl rfl hb158 rfl ?_)
              refine OW.cons (OP.no' rfl rfl hb158 rfl ?_)
              refine OW.cons (OP.no' rfl rfl hb158 rfl ?_)
              refine OW.cons (OP.val (v := (.bool true)) rfl (x_pickT' rfl hb158 rfl) ?_)
              refine OW.cons (OP.val (v := (.bool true)) rfl (x_move) ?_)
              refine OW.cons (OP.no' rfl rfl rfl rfl ?_)
              refine OW.cons (OP.no' rfl rfl rfl rfl ?_)
              refine OW.cons (OP.no' rfl rfl rfl rfl ?_)
              refine OW.cons (OP.val (v := (.bool true)) rfl (x_pickT' rfl rfl rfl) ?_)
              refine OW.nil ?_
              have hL := hL.sel [1, 2, 3, 4, 5, 6] (by decide) rfl
              exact ⟨true, hm, ⟨f50, f51, f52, f53, f55, rfl, hL⟩⟩
            · refine OW.cons (OP.yes' rfl rfl hb158 (OP.val (v := v38) rfl (x_mv f55) ?_))
              refine OW.cons (OP.yes' rfl rfl hb158 (OP.val (v := v21) rfl (x_mv f52) ?_))
              obtain ⟨x159, hx160, hm⟩ := bndE hm
              refine OW.cons (OP.yes' rfl rfl hb158 (OP.call rfl (x_call (vs := [v38, v21]) Try_C30 ⟨rfl, rfl, trivial⟩) (M.laws_eqInt64S_ok _ x35.1 (hL.rdO 1 rfl) x18.1 (hL.rdO 4 rfl) hx160) ?_))
              rintro e161 wd162 ⟨rfl, hF163⟩
              refine ⟨_, rfl, ?_⟩
              have hL := hL.pushAll hF163
              simp only [List.cons_append, List.nil_append, List.set_cons_zero, List.set_cons_succ] at hL
              refine OW.cons (OP.yes' rfl rfl hb158 (OP.val (v := (.bool (!x159))) rfl (x_not rfl) ?_))
              refine OW.cons (OP.val (v := (.bool (!x159))) rfl (x_pickF' rfl hb158 rfl) ?_)
              refine OW.cons (OP.val (v := (.bool (!x159))) rfl (x_move) ?_)
              refine ifB_elim hm (fun hb164 hm => ?_) (fun hb164 hm => ?_)
              · refine OW.cons (OP.no' rfl rfl hb164 rfl ?_)
                refine OW.cons (OP.no' rfl rfl hb164 rfl ?_)
                refine OW.cons (OP.no' rfl rfl hb164 rfl ?_)
                refine OW.cons (OP.val (v := (.bool true)) rfl (x_pickT' rfl hb164 rfl) ?_)
                refine OW.nil ?_
                have hL := hL.sel [1, 2, 3, 4, 5, 6] (by decide) rfl
                exact ⟨true, hm, ⟨f50, f51, f52, f53, f55, rfl, hL⟩⟩
              · refine OW.cons (OP.yes' rfl rfl hb164 (OP.val (v := (.int .i64 x35.2)) rfl (x_mv f56) ?_))
                refine OW.cons (OP.yes' rfl rfl hb164 (OP.val (v := (.int .i64 x18.2)) rfl (x_mv f53) ?_))
                refine OW.cons (OP.yes' rfl rfl hb164 (OP.val (v := (.bool (x35.2 != x18.2))) rfl (x_neq rfl rfl) ?_))
                refine OW.cons (OP.val (v := (.bool (x35.2 != x18.2))) rfl (x_pickF' rfl hb164 rfl) ?_)
                refine OW.nil ?_
                have hL := hL.sel [1, 2, 3, 4, 5, 6] (by decide) rfl
                exact ⟨x35.2 != x18.2, hm, ⟨f50, f51, f52, f53, f55, rfl, hL⟩⟩
          · intro s_j2 F97 wd98 hJ hm
            unfold M.laws_FnExactFinishOrder_j2 at hm
            obtain ⟨f99, f100, f101, f102, f103, f104, hL⟩ := hJ
            refine CW.condM (t := s_j2) f104 hm (fun hb105 hm => ?_) (fun hb105 hm => ?_)
            · refine CW.seq ?_
              refine CW.regionL ?_
              refine OW.cons (OP.val (v := (.bool false)) rfl (x_assign) ?_)
              refine OW.nil ?_
              refine CW.ret ?_
              obtain rfl := Option.some.inj hm
              exact RR1 rfl rfl ⟨rfl, hL.fresh 5 rfl [] (by decide) (by decide) rfl⟩
            · refine CW.skip ?_
              refine CW.seq ?_
              refine CW.regionL ?_
              refine OW.cons (OP.val (v := (.int .i64 1)) rfl (x_assign) ?_)
              refine OW.nil ?_
              refine CW.seq ?_
              refine CW.regionL ?_
              refine OW.cons (OP.val (v := v38) rfl (x_mv f103) ?_)
              refine OW.cons (OP.val (v := (.int .i64 1)) rfl (x_move) ?_)
              obtain ⟨x106, hx107, hm⟩ := bndE hm
              refine OW.cons (OP.call rfl (x_call (vs := [v38, (.int .i64 1)]) Try_C32 ⟨rfl, rfl, trivial⟩) (M.laws_markInt64S_ok _ x35.1 (hL.get 0 rfl) 1 hx107) ?_)
              rintro e108 wd109 ⟨S111, rfl, hF110⟩
              refine ⟨_, rfl, ?_⟩
              have hL := hL.mut 0 rfl hF110
              simp only [List.cons_append, List.nil_append, List.set_cons_zero, List.set_cons_succ] at hL
              refine OW.cons (OP.val (v := (.int .i64 x106.1)) rfl (x_assign) ?_)
              refine OW.nil ?_
              refine CW.seq ?_
              refine CW.regionL ?_
              refine OW.cons (OP.val (v := (.int .i64 1)) rfl (x_assign) ?_)
              refine OW.nil ?_
              refine CW.seq ?_
              refine CW.regionL ?_
              refine OW.cons (OP.val (v := v38) rfl (x_mv f103) ?_)
              refine OW.cons (OP.val (v := (.int .i64 1)) rfl (x_move) ?_)
              obtain ⟨x112, hx113, hm⟩ := bndE hm
              refine OW.cons (OP.call rfl (x_call (vs := [v38, (.int .i64 1)]) Try_C33 ⟨rfl, rfl, trivial⟩) (M.laws_heldInt64S_ok _ x106.2 (hL.rdO 0 rfl) 1 hx113) ?_)
              rintro e114 wd115 ⟨rfl, hF116⟩
              refine ⟨_, rfl, ?_⟩
              have hL := hL.pushAll hF116
              simp only [List.cons_append, List.nil_append, List.set_cons_zero, List.set_cons_succ] at hL
              refine OW.cons (OP.val (v := (.int .i64 x112)) rfl (x_assign) ?_)
              refine OW.nil ?_
              refine CW.seq ?_
              refine CW.seq ?_
              refine CW.regionL ?_
              refine OW.cons (OP.val (v := (.int .i64 x112)) rfl (x_move) ?_)
              refine OW.cons (OP.val (v := (.bool (decide (x112 < 0)))) rfl (x_lss rfl rfl) ?_)
              refine OW.nil ?_
              refine CW.condM (t := decide (x112 < 0)) rfl hm (fun hb117 hm => ?_) (fun hb117 hm => ?_)
              · refine CW.seq ?_
                refine CW.regionL ?_
                refine OW.cons (OP.val (v := (.bool false)) rfl (x_assign) ?_)
                refine OW.nil ?_
                refine CW.ret ?_
                obtain rfl := Option.some.inj hm
                exact RR1 rfl rfl ⟨rfl, hL.fresh 5 rfl [] (by decide) (by decide) rfl⟩
              · refine CW.skip ?_
                refine CW.seq ?_
                refine CW.seq ?_
                refine CW.regionL ?_
                refine OW.cons (OP.val (v := (.int .i64 x112)) rfl (x_move) ?_)
                refine OW.cons (OP.val (v := (.int .i64 x106.1)) rfl (x_move) ?_)
                refine OW.cons (OP.val (v := (.bool (x112 != x106.1))) rfl (x_neq rfl rfl) ?_)
                refine OW.nil ?_
                refine CW.condM (t := x112 != x106.1) rfl hm (fun hb118 hm => ?_) (fun hb118 hm => ?_)
                · refine CW.seq ?_
                  refine CW.regionL ?_
                  refine OW.cons (OP.val (v := (.bool false)) rfl (x_assign) ?_)
                  refine OW.nil ?_
                  refine CW.ret ?_
                  obtain rfl := Option.some.inj hm
                  exact RR1 rfl rfl ⟨rfl, hL.fresh 5 rfl [] (by decide) (by decide) rfl⟩
                · refine CW.skip ?_
                  refine CW.seq ?_
                  refine CW.regionL ?_
                  refine OW.cons (OP.val (v := (.int .i64 a0)) rfl (x_mv f99) ?_)
                  refine OW.cons (OP.val (v := (.agg #[v1])) rfl (x_loadN (cs := [v1]) Try.underlying24 Try_T24 rfl f100 (hL.cellsB 4 rfl (o := 0) (l := [v1]) (by intro j u hj; exact (by simpa using hj)))) ?_)
                  obtain ⟨x119, hx120, hm⟩ := bndE hm
                  refine OW.cons (OP.call rfl (x_call (vs := [(.agg #[v1])]) Try_C15 ⟨rfl, trivial⟩) (M.laws_toRace_ok _ a1 (hL.rdS 5 rfl h2) hx120) ?_)
                  rintro e123 wd124 ⟨v122, S121, rfl, hF125⟩
                  refine ⟨_, rfl, ?_⟩
                  have hL := hL.pushAll hF125
                  simp only [List.cons_append, List.nil_append, List.set_cons_zero, List.set_cons_succ] at hL
                  obtain ⟨x126, hx127, hm⟩ := bndE hm
                  refine OW.cons (OP.call rfl (x_call (vs := [(.int .i64 a0), (.agg #[v122])]) Try_C44 ⟨rfl, rfl, trivial⟩) (M.impl_FinishOrder_ok _ a0 x119 (hL.rdO 0 rfl) hx127) ?_)
                  rintro e130 wd131 ⟨v129, S128, rfl, hF132⟩
                  refine ⟨_, rfl, ?_⟩
                  have hL := hL.pushAll hF132
                  simp only [List.cons_append, List.nil_append, List.set_cons_zero, List.set_cons_succ] at hL
                  refine OW.cons (OP.val (v := (.tuple #[v129, (.int .i64 x126.2)])) rfl (x_move) ?_)
                  refine OW.cons (OP.val (v := v129) rfl (x_extract rfl rfl) ?_)
                  refine OW.cons (OP.val (v := (.int .i64 x126.2)) rfl (x_extract rfl rfl) ?_)
                  refine OW.cons (OP.val (v := v129) rfl (x_assign) ?_)
                  refine OW.cons (OP.val (v := (.int .i64 x126.2)) rfl (x_assign) ?_)
                  refine OW.nil ?_
                  refine CW.seq ?_
                  refine CW.seqJ (fun (s_j3 : Bool) (F : Fr) (w : World) => F 9 = v38 ∧ F 12 = (.int .i64 x106.1) ∧ F 92 = (.bool s_j3) ∧ Hp w0 [Ent.own 2 S111 v38 x106.2, Ent.blk b33 29 #[v28], Ent.own 88 S89 v28 x84.2.Finishes, Ent.blk b4 24 #[v1], Ent.snap w0 w0.heap.size] w) (fun s_j3 => M.laws_FnExactFinishOrder_j3 x106 s_j3 = some r) ?_ ?_
                  · refine CW.regionL ?_
                    refine OW.cons (OP.val (v := v129) rfl (x_move) ?_)
                    refine OW.cons (OP.val (v := v21) rfl (x_mv f101) ?_)
                    obtain ⟨x152, hx153, hm⟩ := bndE hm
                    refine OW.cons (OP.call rfl (x_call (vs := [v129, v21]) Try_C30 ⟨rfl, rfl, trivial⟩) (M.laws_eqInt64S_ok _ x126.1 (hL.rdO 0 rfl) x18.1 (hL.rdO 5 rfl) hx153) ?_)
                    rintro e154 wd155 ⟨rfl, hF156⟩
                    refine ⟨_, rfl, ?_⟩
                    have hL := hL.pushAll hF156
                    simp only [List.cons_append, List.nil_append, List.set_cons_zero, List.set_cons_succ] at hL
                    refine OW.cons (OP.val (v := (.bool (!x152))) rfl (x_not rfl) ?_)
                    refine OW.cons (OP.val (v := (.bool (!x152))) rfl (x_move) ?_)
                    refine ifB_elim hm (fun hb157 hm => ?_) (fun hb157 hm => ?_)
                    · refine OW.cons (OP.no' rfl rfl hb157 rfl ?_)
                      refine OW.cons (OP.no' rfl rfl hb157 rfl ?_)
                      refine OW.cons (OP.no' rfl rfl hb157 rfl ?_)
                      refine OW.cons (OP.val (v := (.bool true)) rfl (x_pickT' rfl hb157 rfl) ?_)
                      refine OW.nil ?_
                      have hL := hL.sel [2, 3, 4, 6, 7] (by decide) rfl
                      exact ⟨true, hm, ⟨f103, rfl, rfl, hL⟩⟩
                    · refine OW.cons (OP.yes' rfl rfl hb157 (OP.val (v := (.int .i64 x126.2)) rfl (x_move) ?_))
                      refine OW.cons (OP.yes' rfl rfl hb157 (OP.val (v := (.int .i64 x18.2)) rfl (x_mv f102) ?_))
                      refine OW.cons (OP.yes' rfl rfl hb157 (OP.val (v := (.bool (x126.2 != x18.2))) rfl (x_neq rfl rfl) ?_))
                      refine OW.cons (OP.val (v := (.bool (x126.2 != x18.2))) rfl (x_pickF' rfl hb157 rfl) ?_)
                      refine OW.nil ?_
                      have hL := hL.sel [2, 3, 4, 6, 7] (by decide) rfl
                      exact ⟨x126.2 != x18.2, hm, ⟨f103, rfl, rfl, hL⟩⟩
                  · intro s_j3 F139 wd140 hJ hm
                    unfold M.laws_FnExactFinishOrder_j3 at hm
                    obtain ⟨f141, f142, f143, hL⟩ := hJ
                    refine CW.condM (t := s_j3) f143 hm (fun hb144 hm => ?_) (fun hb144 hm => ?_)
                    · refine CW.seq ?_
                      refine CW.regionL ?_
                      refine OW.cons (OP.val (v := (.bool false)) rfl (x_assign) ?_)
                      refine OW.nil ?_
                      refine CW.ret ?_
                      obtain rfl := Option.some.inj hm
                      exact RR1 rfl rfl ⟨rfl, hL.fresh 4 rfl [] (by decide) (by decide) rfl⟩
                    · refine CW.skip ?_
                      refine CW.seq ?_
                      refine CW.regionL ?_
                      refine OW.cons (OP.val (v := (.int .i64 1)) rfl (x_assign) ?_)
                      refine OW.nil ?_
                      refine CW.seq ?_
                      refine CW.regionL ?_
                      refine OW.cons (OP.val (v := v38) rfl (x_mv f141) ?_)
                      refine OW.cons (OP.val (v := (.int .i64 1)) rfl (x_move) ?_)
                      obtain ⟨x145, hx146, hm⟩ := bndE hm
                      refine OW.cons (OP.call rfl (x_call (vs := [v38, (.int .i64 1)]) Try_C33 ⟨rfl, rfl, trivial⟩) (M.laws_heldInt64S_ok _ x106.2 (hL.rdO 0 rfl) 1 hx146) ?_)
                      rintro e147 wd148 ⟨rfl, hF149⟩
                      refine ⟨_, rfl, ?_⟩
                      have hL := hL.pushAll hF149
                      simp only [List.cons_append, List.nil_append, List.set_cons_zero, List.set_cons_succ] at hL
                      refine OW.cons (OP.val (v := (.int .i64 x145)) rfl (x_assign) ?_)
                      refine OW.nil ?_
                      refine CW.seq ?_
                      refine CW.seq ?_
                      refine CW.regionL ?_
                      refine OW.cons (OP.val (v := (.int .i64 x145)) rfl (x_move) ?_)
                      refine OW.cons (OP.val (v := (.bool (decide (x145 < 0)))) rfl (x_lss rfl rfl) ?_)
                      refine OW.nil ?_
                      refine CW.condM (t := decide (x145 < 0)) rfl hm (fun hb150 hm => ?_) (fun hb150 hm => ?_)
                      · refine CW.seq ?_
                        refine CW.regionL ?_
                        refine OW.cons (OP.val (v := (.bool false)) rfl (x_assign) ?_)
                        refine OW.nil ?_
                        refine CW.ret ?_
                        obtain rfl := Option.some.inj hm
                        exact RR1 rfl rfl ⟨rfl, hL.fresh 4 rfl [] (by decide) (by decide) rfl⟩
                      · refine CW.skip ?_
                        refine CW.seq ?_
                        refine CW.seq ?_
                        refine CW.regionL ?_
                        refine OW.cons (OP.val (v := (.int .i64 x145)) rfl (x_move) ?_)
                        refine OW.cons (OP.val (v := (.int .i64 x106.1)) rfl (x_mv f142) ?_)
                        refine OW.cons (OP.val (v := (.bool (x145 != x106.1))) rfl (x_neq rfl rfl) ?_)
                        refine OW.nil ?_
                        refine CW.condM (t := x145 != x106.1) rfl hm (fun hb151 hm => ?_) (fun hb151 hm => ?_)
                        · refine CW.seq ?_
                          refine CW.regionL ?_
                          refine OW.cons (OP.val (v := (.bool false)) rfl (x_assign) ?_)
                          refine OW.nil ?_
                          refine CW.ret ?_
                          obtain rfl := Option.some.inj hm
                          exact RR1 rfl rfl ⟨rfl, hL.fresh 4 rfl [] (by decide) (by decide) rfl⟩
                        · refine CW.skip ?_
                          refine CW.seq ?_
                          refine CW.regionL ?_
                          refine OW.cons (OP.val (v := (.bool true)) rfl (x_assign) ?_)
                          refine OW.nil ?_
                          refine CW.ret ?_
                          obtain rfl := Option.some.inj hm
                          exact RR1 rfl rfl ⟨rfl, hL.fresh 4 rfl [] (by decide) (by decide) rfl⟩

end Go.Proofs.Ytblljgcbffkahaa
