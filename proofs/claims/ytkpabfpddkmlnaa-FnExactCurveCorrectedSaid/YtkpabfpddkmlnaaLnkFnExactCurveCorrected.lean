/- Links: each Go function returns what its model computes and leaves what was there. Printed by my generator. -/
import Derived.Test.YtkpabfpddkmlnaaMod
import Derived.Test.YtkpabfpddkmlnaaProg
import Derived.KernelRfl
namespace Go.Proofs.Ytkpabfpddkmlnaa
set_option maxRecDepth 10000
open Go Go.RowKit Go.ChangeShapes Go.WideShapes
set_option linter.unusedVariables false
set_option linter.unusedSimpArgs false

theorem Try_mixed : Try.prog.follows .mixedOrders = true := by kernel_rfl
theorem Try_T2 : TyI Try.prog 2 1 8 (.int .i64 0) := by unfold TyI; kernel_rfl
theorem Try_T3 : TyI Try.prog 3 1 8 (.int .i64 0) := by unfold TyI; kernel_rfl
theorem Try_T5 : TyI Try.prog 5 1 1 (.int .u8 0) := by unfold TyI; kernel_rfl
theorem Try_T32 : TyI Try.prog 32 1 24 (.slice none 0 0) := by unfold TyI; kernel_rfl
theorem Try_T47 : TyI Try.prog 47 3 24 (.agg #[.int .i64 0, .int .i64 0, .int .i64 0]) := by unfold TyI; kernel_rfl
theorem Try_T63 : TyI Try.prog 63 2 16 (.agg #[.int .i64 0, .int .i64 0]) := by unfold TyI; kernel_rfl
theorem Try_T65 : TyI Try.prog 65 2 16 (.agg #[.int .i64 0, .int .i64 0]) := by unfold TyI; kernel_rfl
theorem Try_T87 : TyI Try.prog 87 3 24 (.agg #[.int .i64 0, .int .i64 0, .int .i64 0]) := by unfold TyI; kernel_rfl
theorem Try_B47 : BuildI Try.prog 47 [(0, 1), (1, 1), (2, 1)] #[.int .i64 0, .int .i64 0, .int .i64 0] := by unfold BuildI; kernel_rfl
theorem Try_B63 : BuildI Try.prog 63 [(0, 1), (1, 1)] #[.int .i64 0, .int .i64 0] := by unfold BuildI; kernel_rfl
theorem Try_B90 : BuildI Try.prog 90 [(0, 1), (1, 1), (2, 1)] #[.slice none 0 0, .int .i64 0, .int .i64 0] := by unfold BuildI; kernel_rfl
theorem Try_C9 : CallOK Try.prog 9 := ⟨_, _, Try.func9, rfl, by kernel_rfl⟩
theorem Try_C10 : CallOK Try.prog 10 := ⟨_, _, Try.func10, rfl, by kernel_rfl⟩
theorem Try_C11 : CallOK Try.prog 11 := ⟨_, _, Try.func11, rfl, by kernel_rfl⟩
theorem Try_C12 : CallOK Try.prog 12 := ⟨_, _, Try.func12, rfl, by kernel_rfl⟩
theorem Try_C13 : CallOK Try.prog 13 := ⟨_, _, Try.func13, rfl, by kernel_rfl⟩
theorem Try_C14 : CallOK Try.prog 14 := ⟨_, _, Try.func14, rfl, by kernel_rfl⟩
theorem Try_C15 : CallOK Try.prog 15 := ⟨_, _, Try.func15, rfl, by kernel_rfl⟩
theorem Try_C16 : CallOK Try.prog 16 := ⟨_, _, Try.func16, rfl, by kernel_rfl⟩
theorem Try_C19 : CallOK Try.prog 19 := ⟨_, _, Try.func19, rfl, by kernel_rfl⟩
theorem Try_C26 : CallOK Try.prog 26 := ⟨_, _, Try.func26, rfl, by kernel_rfl⟩
theorem Try_C35 : CallOK Try.prog 35 := ⟨_, _, Try.func35, rfl, by kernel_rfl⟩
theorem Try_C36 : CallOK Try.prog 36 := ⟨_, _, Try.func36, rfl, by kernel_rfl⟩
theorem Try_C37 : CallOK Try.prog 37 := ⟨_, _, Try.func37, rfl, by kernel_rfl⟩
theorem Try_C38 : CallOK Try.prog 38 := ⟨_, _, Try.func38, rfl, by kernel_rfl⟩
theorem Try_C39 : CallOK Try.prog 39 := ⟨_, _, Try.func39, rfl, by kernel_rfl⟩
theorem Try_C40 : CallOK Try.prog 40 := ⟨_, _, Try.func40, rfl, by kernel_rfl⟩
theorem Try_C41 : CallOK Try.prog 41 := ⟨_, _, Try.func41, rfl, by kernel_rfl⟩
theorem Try_C42 : CallOK Try.prog 42 := ⟨_, _, Try.func42, rfl, by kernel_rfl⟩
theorem Try_C43 : CallOK Try.prog 43 := ⟨_, _, Try.func43, rfl, by kernel_rfl⟩
theorem Try_C44 : CallOK Try.prog 44 := ⟨_, _, Try.func44, rfl, by kernel_rfl⟩
theorem Try_C45 : CallOK Try.prog 45 := ⟨_, _, Try.func45, rfl, by kernel_rfl⟩
theorem Try_C46 : CallOK Try.prog 46 := ⟨_, _, Try.func46, rfl, by kernel_rfl⟩
theorem Try_C47 : CallOK Try.prog 47 := ⟨_, _, Try.func47, rfl, by kernel_rfl⟩
theorem Try_C50 : CallOK Try.prog 50 := ⟨_, _, Try.func50, rfl, by kernel_rfl⟩
theorem Try_C51 : CallOK Try.prog 51 := ⟨_, _, Try.func51, rfl, by kernel_rfl⟩
theorem Try_C52 : CallOK Try.prog 52 := ⟨_, _, Try.func52, rfl, by kernel_rfl⟩
theorem Try_C53 : CallOK Try.prog 53 := ⟨_, _, Try.func53, rfl, by kernel_rfl⟩
theorem Try_C54 : CallOK Try.prog 54 := ⟨_, _, Try.func54, rfl, by kernel_rfl⟩
theorem Try_C57 : CallOK Try.prog 57 := ⟨_, _, Try.func57, rfl, by kernel_rfl⟩
theorem Try_C59 : CallOK Try.prog 59 := ⟨_, _, Try.func59, rfl, by kernel_rfl⟩
theorem Try_C60 : CallOK Try.prog 60 := ⟨_, _, Try.func60, rfl, by kernel_rfl⟩
theorem Try_C61 : CallOK Try.prog 61 := ⟨_, _, Try.func61, rfl, by kernel_rfl⟩
theorem Try_C62 : CallOK Try.prog 62 := ⟨_, _, Try.func62, rfl, by kernel_rfl⟩
theorem Try_C65 : CallOK Try.prog 65 := ⟨_, _, Try.func65, rfl, by kernel_rfl⟩
theorem Try_C66 : CallOK Try.prog 66 := ⟨_, _, Try.func66, rfl, by kernel_rfl⟩
theorem Try_C67 : CallOK Try.prog 67 := ⟨_, _, Try.func67, rfl, by kernel_rfl⟩
theorem Try_C68 : CallOK Try.prog 68 := ⟨_, _, Try.func68, rfl, by kernel_rfl⟩
theorem Try_C69 : CallOK Try.prog 69 := ⟨_, _, Try.func69, rfl, by kernel_rfl⟩
theorem Try_C70 : CallOK Try.prog 70 := ⟨_, _, Try.func70, rfl, by kernel_rfl⟩
theorem Try_C71 : CallOK Try.prog 71 := ⟨_, _, Try.func71, rfl, by kernel_rfl⟩
theorem Try_C72 : CallOK Try.prog 72 := ⟨_, _, Try.func72, rfl, by kernel_rfl⟩
theorem Try_C75 : CallOK Try.prog 75 := ⟨_, _, Try.func75, rfl, by kernel_rfl⟩
theorem Try_C77 : CallOK Try.prog 77 := ⟨_, _, Try.func77, rfl, by kernel_rfl⟩
theorem Try_C79 : CallOK Try.prog 79 := ⟨_, _, Try.func79, rfl, by kernel_rfl⟩
theorem Try_C80 : CallOK Try.prog 80 := ⟨_, _, Try.func80, rfl, by kernel_rfl⟩
theorem Try_C81 : CallOK Try.prog 81 := ⟨_, _, Try.func81, rfl, by kernel_rfl⟩

theorem M.laws_szCurvePointS_ok (w0 : World) (a0 : List CurvePoint) {v1 : Value} (h2 : rdL (· < w0.heap.size) w0 v1 a0) (a1 : Int) {r : Int} (hm : M.laws_szCurvePointS a0 a1 = some r) :
    Calls Try.prog 9 #[v1, (.int .i64 a1)] w0 fun e w' => e = .returned (.int .i64 r) ∧ Fresh w0 w' [] := by
  unfold M.laws_szCurvePointS at hm
  refine calls_CW (args := [v1, (.int .i64 a1)]) Try.func9 rfl rfl rfl ?_
  have hL := Hp.start w0
  refine CW.seq ?_
  refine CW.regionL ?_
  refine OW.cons (OP.val (v := (.int .i64 0)) rfl (x_assign) ?_)
  refine OW.nil ?_
  refine CW.seq ?_
  refine CW.regionL ?_
  refine OW.cons (OP.val (v := (.int .i64 a1)) rfl (x_move) ?_)
  refine OW.cons (OP.val (v := v1) rfl (x_move) ?_)
  refine OW.cons (OP.val (v := (.int .i64 (a0.length : Int))) rfl (x_lenR Try.underlying22 rfl (hL.rdS 0 rfl h2)) ?_)
  refine OW.cons (OP.val (v := (.int .i64 (w64 (a1 - (a0.length : Int))))) rfl (x_sub rfl rfl) ?_)
  refine OW.cons (OP.val (v := (.int .i64 (w64 (a1 - (a0.length : Int))))) rfl (x_assign) ?_)
  refine OW.nil ?_
  refine CW.seq ?_
  refine CW.seq ?_
  refine CW.regionL ?_
  refine OW.cons (OP.val (v := (.int .i64 (w64 (a1 - (a0.length : Int))))) rfl (x_move) ?_)
  refine OW.cons (OP.val (v := (.bool (decide ((w64 (a1 - (a0.length : Int))) < 0)))) rfl (x_lss rfl rfl) ?_)
  refine OW.nil ?_
  refine CW.condM (t := decide ((w64 (a1 - (a0.length : Int))) < 0)) rfl hm (fun hb3 hm => ?_) (fun hb3 hm => ?_)
  · refine CW.seq ?_
    refine CW.regionL ?_
    refine OW.cons (OP.val (v := (.int .i64 (-1))) rfl (x_assign) ?_)
    refine OW.nil ?_
    refine CW.ret ?_
    obtain rfl := Option.some.inj hm
    exact RR1 rfl rfl ⟨rfl, hL.fresh 0 rfl [] (by decide) (by decide) rfl⟩
  · refine CW.skip ?_
    refine CW.seq ?_
    refine CW.regionL ?_
    refine OW.cons (OP.val (v := (.int .i64 (w64 (a1 - (a0.length : Int))))) rfl (x_move) ?_)
    refine OW.cons (OP.val (v := (.int .i64 (w64 (a1 - (a0.length : Int))))) rfl (x_assign) ?_)
    refine OW.nil ?_
    refine CW.ret ?_
    obtain rfl := Option.some.inj hm
    exact RR1 rfl rfl ⟨rfl, hL.fresh 0 rfl [] (by decide) (by decide) rfl⟩

theorem M.laws_toCurvePoint_ok (w0 : World) (a0 : CurvePoint) {r : CurvePoint} (hm : M.laws_toCurvePoint a0 = some r) :
    Calls Try.prog 39 #[(.agg #[(.int .i64 a0.Wind), (.int .i64 a0.Pace)])] w0 fun e w' => e = .returned (.agg #[(.int .i64 r.Wind), (.int .i64 r.Pace)]) ∧ Fresh w0 w' [] := by
  unfold M.laws_toCurvePoint at hm
  refine calls_CW (args := [(.agg #[(.int .i64 a0.Wind), (.int .i64 a0.Pace)])]) Try.func39 rfl rfl rfl ?_
  have hL := Hp.start w0
  refine CW.seq ?_
  refine CW.regionL ?_
  refine OW.cons (S_box (cs := #[(.int .i64 a0.Wind), (.int .i64 a0.Pace)]) hL rfl rfl rfl ?_)
  intro wd1 b2 hL
  refine OW.cons (S_alloc (cs := #[(.int .i64 0), (.int .i64 0)]) hL Try_T63 rfl rfl ?_)
  intro wd3 b4 hL
  refine OW.nil ?_
  refine CW.seq ?_
  refine CW.regionL ?_
  refine OW.cons (S_alloc (cs := #[(.int .i64 0), (.int .i64 0)]) hL Try_T63 rfl rfl ?_)
  intro wd5 b6 hL
  refine OW.nil ?_
  refine CW.seq ?_
  refine CW.regionL ?_
  refine OW.cons (OP.val (v := (.pointer (some ⟨b2, 0, none⟩))) rfl (x_fieldAddr (fsz := 1) 0 0 0 Try.underlying65 rfl Try_T2 rfl rfl rfl) ?_)
  refine OW.cons (OP.val (v := (.int .i64 a0.Wind)) rfl (x_load1 Try.underlying2 rfl rfl (hL.cellB 2 rfl rfl)) ?_)
  refine OW.cons (OP.val (v := (.pointer (some ⟨b6, 0, none⟩))) rfl (x_fieldAddr (fsz := 1) 0 0 0 Try.underlying63 rfl Try_T2 rfl rfl rfl) ?_)
  refine OW.cons (S_store (cs' := #[(.int .i64 a0.Wind), (.int .i64 0)]) hL 0 rfl Try_T2 rfl rfl rfl rfl rfl ?_)
  intro wd7 hL
  refine OW.nil ?_
  refine CW.seq ?_
  refine CW.regionL ?_
  refine OW.cons (OP.val (v := (.pointer (some ⟨b2, 1, none⟩))) rfl (x_fieldAddr (fsz := 1) 0 1 1 Try.underlying65 rfl Try_T2 rfl rfl rfl) ?_)
  refine OW.cons (OP.val (v := (.int .i64 a0.Pace)) rfl (x_load1 Try.underlying2 rfl rfl (hL.cellB 2 rfl rfl)) ?_)
  refine OW.cons (OP.val (v := (.pointer (some ⟨b6, 1, none⟩))) rfl (x_fieldAddr (fsz := 1) 0 1 1 Try.underlying63 rfl Try_T2 rfl rfl rfl) ?_)
  refine OW.cons (S_store (cs' := #[(.int .i64 a0.Wind), (.int .i64 a0.Pace)]) hL 0 rfl Try_T2 rfl rfl rfl rfl rfl ?_)
  intro wd8 hL
  refine OW.nil ?_
  refine CW.seq ?_
  refine CW.regionL ?_
  refine OW.cons (OP.val (v := (.agg #[(.int .i64 a0.Wind), (.int .i64 a0.Pace)])) rfl (x_loadN (cs := [(.int .i64 a0.Wind), (.int .i64 a0.Pace)]) Try.underlying63 Try_T63 rfl rfl (hL.cellsB 0 rfl (o := 0) (l := [(.int .i64 a0.Wind), (.int .i64 a0.Pace)]) (by intro j u hj; exact (by simpa using hj)))) ?_)
  refine OW.cons (S_storeN (l := [(.int .i64 a0.Wind), (.int .i64 a0.Pace)]) (cs' := #[(.int .i64 a0.Wind), (.int .i64 a0.Pace)]) hL 1 rfl Try_T63 rfl rfl (by simp [Value.oneCell']) rfl (by decide) rfl ?_)
  intro wd9 hL
  refine OW.nil ?_
  refine CW.ret ?_
  obtain rfl := Option.some.inj hm
  exact RRc rfl rfl (run_loadBlk Try.underlying63 Try_T63 (hL.get 1 rfl) rfl) ⟨rfl, hL.fresh 3 rfl [] (by decide) (by decide) rfl⟩

theorem M.laws_toCurvePointS_ok (w0 : World) (a0 : List CurvePoint) {v1 : Value} (h2 : rdL (· < w0.heap.size) w0 v1 a0) {r : (List CurvePoint)} (hm : M.laws_toCurvePointS a0 = some r) :
    Calls Try.prog 11 #[v1] w0 fun e w' => ∃ (rv0 : Value) (rS0 : Nat → Prop), e = .returned rv0 ∧ Fresh w0 w' [Ent.own 63 rS0 rv0 r] := by
  unfold M.laws_toCurvePointS at hm
  refine calls_CW (args := [v1]) Try.func11 rfl rfl rfl ?_
  have hL := Hp.start w0
  refine CW.seq ?_
  refine CW.regionL ?_
  refine OW.cons (OP.val (v := (.slice none 0 0)) rfl (x_assign) ?_)
  refine OW.nil ?_
  refine CW.seq ?_
  refine CW.regionL ?_
  refine OW.cons (OP.val (v := v1) rfl (x_move) ?_)
  refine OW.cons (OP.val (v := (.int .i64 (a0.length : Int))) rfl (x_lenR Try.underlying22 rfl (hL.rdS 0 rfl h2)) ?_)
  obtain ⟨hc3, hm⟩ := chkE hm
  refine OW.cons (S_make (α := CurvePoint) (CurvePoint.mk 0 0) hL Try.underlying26 Try_T63 rfl rfl rfl hc3 (by decide) rfl ?_)
  intro wd4 v5 S6 hL
  refine OW.cons (OP.val (v := v5) rfl (x_assign) ?_)
  refine OW.nil ?_
  refine CW.seq ?_
  refine CW.seq ?_
  refine CW.regionL ?_
  refine OW.cons (OP.val (v := (.int .i64 0)) rfl (x_assign) ?_)
  refine OW.nil ?_
  obtain ⟨o49, ho50, hm⟩ := bndE hm
  refine CW.loopB (fun (s_l1 : (List CurvePoint) × Int) (F : Fr) (w : World) => ∃ (S46 : Nat → Prop), F 0 = v1 ∧ F 3 = v5 ∧ F 4 = (.int .i64 s_l1.2) ∧ Hp w0 [Ent.own 63 S46 v5 s_l1.1, Ent.snap w0 w0.heap.size] w) (fun o => outc o (fun x => some x) (fun s => M.laws_toCurvePointS_a1 s) = some r) ho50 hm ⟨S6, rfl, rfl, rfl, hL⟩ ?_ ?_
  · intro s_l1 F51 wd52 hJ hm
    have hm : M.laws_toCurvePointS_a1 s_l1 = some r := hm
    unfold M.laws_toCurvePointS_a1 at hm
    obtain ⟨S46, f53, f54, f55, hL⟩ := hJ
    refine CW.seq ?_
    refine CW.regionL ?_
    refine OW.cons (OP.val (v := v5) rfl (x_mv f54) ?_)
    refine OW.cons (OP.val (v := v5) rfl (x_assign) ?_)
    refine OW.nil ?_
    refine CW.ret ?_
    obtain rfl := Option.some.inj hm
    exact RR1 rfl rfl ⟨v5, S46, rfl, hL.fresh 1 rfl [0] (by decide) (by decide) rfl⟩
  · intro s_l1 F56 wd57 t47 hJ hm hr48
    unfold M.laws_toCurvePointS_l1 at hm
    obtain ⟨S46, f58, f59, f60, hL⟩ := hJ
    refine CW.seq ?_
    refine CW.seq ?_
    refine CW.regionL ?_
    refine OW.cons (OP.val (v := (.int .i64 s_l1.2)) rfl (x_mv f60) ?_)
    refine OW.cons (OP.val (v := v1) rfl (x_mv f58) ?_)
    refine OW.cons (OP.val (v := (.int .i64 (a0.length : Int))) rfl (x_lenR Try.underlying22 rfl (hL.rdS 1 rfl h2)) ?_)
    refine OW.cons (OP.val (v := (.bool (decide (s_l1.2 < (a0.length : Int))))) rfl (x_lss rfl rfl) ?_)
    refine OW.nil ?_
    refine CW.condM (t := decide (s_l1.2 < (a0.length : Int))) rfl hm (fun hb61 hm => ?_) (fun hb61 hm => ?_)
    · refine CW.skip ?_
      refine CW.seq ?_
      refine CW.block ?_
      refine CW.regionL ?_
      refine OW.cons (OP.val (v := v5) rfl (x_mv f59) ?_)
      refine OW.cons (OP.val (v := (.int .i64 s_l1.2)) rfl (x_mv f60) ?_)
      refine OW.cons (OP.val (v := v1) rfl (x_mv f58) ?_)
      refine OW.cons (OP.val (v := (.int .i64 s_l1.2)) rfl (x_mv f60) ?_)
      obtain ⟨x62, ha63, hm⟩ := bndE hm
      obtain ⟨hz64, ha63⟩ := idxE ha63
      obtain ⟨b65, q66, hix67⟩ := rdL_ix (hL.rdS 1 rfl h2) hz64 ha63
      refine OW.cons (OP.val (v := (.pointer (some ⟨b65, q66, none⟩))) rfl (x_ix Try.underlying22 Try_T65 rfl rfl hix67) ?_)
      refine OW.cons (OP.val (v := (.agg #[(.int .i64 x62.Wind), (.int .i64 x62.Pace)])) rfl (x_loadN (cs := [(.int .i64 x62.Wind), (.int .i64 x62.Pace)]) Try.underlying65 Try_T65 rfl rfl (rdF_cells (hL.rdS 1 rfl h2) hix67 ha63)) ?_)
      obtain ⟨x68, hx69, hm⟩ := bndE hm
      refine OW.cons (OP.call rfl (x_call (vs := [(.agg #[(.int .i64 x62.Wind), (.int .i64 x62.Pace)])]) Try_C39 ⟨rfl, trivial⟩) (M.laws_toCurvePoint_ok _ x62 hx69) ?_)
      rintro e70 wd71 ⟨rfl, hF72⟩
      refine ⟨_, rfl, ?_⟩
      have hL := hL.pushAll hF72
      simp only [List.cons_append, List.nil_append, List.set_cons_zero, List.set_cons_succ] at hL
      obtain ⟨x73, ha74, hm⟩ := bndE hm
      obtain ⟨hz75, ha74⟩ := idxE ha74
      obtain ⟨b76, q77, hix78⟩ := rdL_ix (hL.rdO 0 rfl) hz75 ha74
      refine OW.cons (OP.val (v := (.pointer (some ⟨b76, q77, none⟩))) rfl (x_ix Try.underlying26 Try_T63 rfl rfl hix78) ?_)
      refine OW.cons (S_storeXN (l := [(.int .i64 x68.Wind), (.int .i64 x68.Pace)]) x68 hL 0 rfl Try_T63 hix78 ha74 rfl rfl rfl ?_)
      intro wd79 hL
      refine OW.nil ?_
      refine CW.regionL ?_
      refine OW.cons (OP.val (v := (.int .i64 s_l1.2)) rfl (x_mv f60) ?_)
      refine OW.cons (OP.val (v := (.int .i64 (w64 (s_l1.2 + 1)))) rfl (x_add rfl rfl) ?_)
      refine OW.cons (OP.val (v := (.int .i64 (w64 (s_l1.2 + 1)))) rfl (x_assign) ?_)
      refine OW.nil ?_
      obtain rfl := Option.some.inj hm
      exact ⟨_, rfl, ⟨S46, f58, f59, rfl, hL⟩⟩
    · refine CW.exit ?_
      refine XJ.hit ?_
      obtain rfl := Option.some.inj hm
      exact ⟨_, rfl, ⟨S46, f58, f59, f60, hL⟩⟩

theorem M.spec_l01In_ok (w0 : World) (a0 : Int) (a1 : Int) (a2 : Int) {r : Bool} (hm : M.spec_l01In a0 a1 a2 = some r) :
    Calls Try.prog 52 #[(.int .i64 a0), (.int .i64 a1), (.int .i64 a2)] w0 fun e w' => e = .returned (.bool r) ∧ Fresh w0 w' [] := by
  unfold M.spec_l01In at hm
  refine calls_CW (args := [(.int .i64 a0), (.int .i64 a1), (.int .i64 a2)]) Try.func52 rfl rfl rfl ?_
  have hL := Hp.start w0
  refine CW.seq ?_
  refine CW.regionL ?_
  refine OW.cons (OP.val (v := (.bool false)) rfl (x_assign) ?_)
  refine OW.nil ?_
  refine CW.seqJ (fun (s_j1 : Bool) (F : Fr) (w : World) => F 6 = (.bool s_j1) ∧ Hp w0 [Ent.snap w0 w0.heap.size] w) (fun s_j1 => M.spec_l01In_j1 s_j1 = some r) ?_ ?_
  · refine CW.regionL ?_
    refine OW.cons (OP.val (v := (.int .i64 a0)) rfl (x_move) ?_)
    refine OW.cons (OP.val (v := (.int .i64 a1)) rfl (x_move) ?_)
    refine OW.cons (OP.val (v := (.bool (decide (a1 ≤ a0)))) rfl (x_geq rfl rfl) ?_)
    refine OW.cons (OP.val (v := (.bool (decide (a1 ≤ a0)))) rfl (x_move) ?_)
    refine ifB_elim hm (fun hb5 hm => ?_) (fun hb5 hm => ?_)
    · refine OW.cons (OP.yes' rfl rfl hb5 (OP.val (v := (.int .i64 a0)) rfl (x_move) ?_))
      refine OW.cons (OP.yes' rfl rfl hb5 (OP.val (v := (.int .i64 a2)) rfl (x_move) ?_))
      refine OW.cons (OP.yes' rfl rfl hb5 (OP.val (v := (.bool (decide (a0 ≤ a2)))) rfl (x_leq rfl rfl) ?_))
      refine OW.cons (OP.val (v := (.bool (decide (a0 ≤ a2)))) rfl (x_pickT' rfl hb5 rfl) ?_)
      refine OW.cons (OP.val (v := (.bool (decide (a0 ≤ a2)))) rfl (x_assign) ?_)
      refine OW.nil ?_
      exact ⟨decide (a0 ≤ a2), hm, ⟨rfl, hL⟩⟩
    · refine OW.cons (OP.no' rfl rfl hb5 rfl ?_)
      refine OW.cons (OP.no' rfl rfl hb5 rfl ?_)
      refine OW.cons (OP.no' rfl rfl hb5 rfl ?_)
      refine OW.cons (OP.val (v := (.bool false)) rfl (x_pickF' rfl hb5 rfl) ?_)
      refine OW.cons (OP.val (v := (.bool false)) rfl (x_assign) ?_)
      refine OW.nil ?_
      exact ⟨false, hm, ⟨rfl, hL⟩⟩
  · intro s_j1 F2 wd3 hJ hm
    unfold M.spec_l01In_j1 at hm
    obtain ⟨f4, hL⟩ := hJ
    refine CW.ret ?_
    obtain rfl := Option.some.inj hm
    exact RR1 rfl f4 ⟨rfl, hL.fresh 0 rfl [] (by decide) (by decide) rfl⟩

theorem M.spec_IsCurve_ok (w0 : World) (a0 : List CurvePoint) {v1 : Value} (h2 : rdL (· < w0.heap.size) w0 v1 a0) {r : Bool} (hm : M.spec_IsCurve a0 = some r) :
    Calls Try.prog 35 #[v1] w0 fun e w' => e = .returned (.bool r) ∧ Fresh w0 w' [] := by
  unfold M.spec_IsCurve at hm
  refine calls_CW (args := [v1]) Try.func35 rfl rfl rfl ?_
  have hL := Hp.start w0
  refine CW.seq ?_
  refine CW.regionL ?_
  refine OW.cons (OP.val (v := (.bool false)) rfl (x_assign) ?_)
  refine OW.nil ?_
  refine CW.seq ?_
  refine CW.seqJ (fun (s_j1 : Bool) (F : Fr) (w : World) => F 0 = v1 ∧ F 11 = (.bool s_j1) ∧ Hp w0 [Ent.snap w0 w0.heap.size] w) (fun s_j1 => M.spec_IsCurve_j1 a0 s_j1 = some r) ?_ ?_
  · refine CW.regionL ?_
    refine OW.cons (OP.val (v := v1) rfl (x_move) ?_)
    refine OW.cons (OP.val (v := (.int .i64 (a0.length : Int))) rfl (x_lenR Try.underlying26 rfl (hL.rdS 0 rfl h2)) ?_)
    refine OW.cons (OP.val (v := (.bool (decide ((a0.length : Int) < 2)))) rfl (x_lss rfl rfl) ?_)
    refine OW.cons (OP.val (v := (.bool (decide ((a0.length : Int) < 2)))) rfl (x_move) ?_)
    refine ifB_elim hm (fun hb372 hm => ?_) (fun hb372 hm => ?_)
    · refine OW.cons (OP.no' rfl rfl hb372 rfl ?_)
      refine OW.cons (OP.no' rfl rfl hb372 rfl ?_)
      refine OW.cons (OP.no' rfl rfl hb372 rfl ?_)
      refine OW.cons (OP.val (v := (.bool true)) rfl (x_pickT' rfl hb372 rfl) ?_)
      refine OW.nil ?_
      exact ⟨true, hm, ⟨rfl, rfl, hL⟩⟩
    · refine OW.cons (OP.yes' rfl rfl hb372 (OP.val (v := v1) rfl (x_move) ?_))
      refine OW.cons (OP.yes' rfl rfl hb372 (OP.val (v := (.int .i64 (a0.length : Int))) rfl (x_lenR Try.underlying26 rfl (hL.rdS 0 rfl h2)) ?_))
      refine OW.cons (OP.yes' rfl rfl hb372 (OP.val (v := (.bool (decide (12 < (a0.length : Int))))) rfl (x_gtr rfl rfl) ?_))
      refine OW.cons (OP.val (v := (.bool (decide (12 < (a0.length : Int))))) rfl (x_pickF' rfl hb372 rfl) ?_)
      refine OW.nil ?_
      exact ⟨decide (12 < (a0.length : Int)), hm, ⟨rfl, rfl, hL⟩⟩
  · intro s_j1 F4 wd5 hJ hm
    unfold M.spec_IsCurve_j1 at hm
    obtain ⟨f6, f7, hL⟩ := hJ
    refine CW.condM (t := s_j1) f7 hm (fun hb8 hm => ?_) (fun hb8 hm => ?_)
    · refine CW.seq ?_
      refine CW.regionL ?_
      refine OW.cons (OP.val (v := (.bool false)) rfl (x_assign) ?_)
      refine OW.nil ?_
      refine CW.ret ?_
      obtain rfl := Option.some.inj hm
      exact RR1 rfl rfl ⟨rfl, hL.fresh 0 rfl [] (by decide) (by decide) rfl⟩
    · refine CW.skip ?_
      refine CW.seq ?_
      refine CW.seq ?_
      refine CW.regionL ?_
      refine OW.cons (OP.val (v := (.int .i64 0)) rfl (x_assign) ?_)
      refine OW.nil ?_
      obtain ⟨o245, ho246, hm⟩ := bndE hm
      refine CW.loopB (fun (s_l1 : Int) (F : Fr) (w : World) => F 0 = v1 ∧ F 3 = (.int .i64 s_l1) ∧ Hp w0 [Ent.snap w0 w0.heap.size] w) (fun o => outc o (fun x => some x) (fun s => M.spec_IsCurve_a1 s) = some r) ho246 hm ⟨f6, rfl, hL⟩ ?_ ?_
      · intro s_l1 F247 wd248 hJ hm
        have hm : M.spec_IsCurve_a1 s_l1 = some r := hm
        unfold M.spec_IsCurve_a1 at hm
        obtain ⟨f249, f250, hL⟩ := hJ
        refine CW.seq ?_
        refine CW.regionL ?_
        refine OW.cons (OP.val (v := (.bool true)) rfl (x_assign) ?_)
        refine OW.nil ?_
        refine CW.ret ?_
        obtain rfl := Option.some.inj hm
        exact RR1 rfl rfl ⟨rfl, hL.fresh 0 rfl [] (by decide) (by decide) rfl⟩
      · intro s_l1 F251 wd252 t243 hJ hm hr244
        unfold M.spec_IsCurve_l1 at hm
        obtain ⟨f253, f254, hL⟩ := hJ
        refine CW.seq ?_
        refine CW.seq ?_
        refine CW.regionL ?_
        refine OW.cons (OP.val (v := (.int .i64 s_l1)) rfl (x_mv f254) ?_)
        refine OW.cons (OP.val (v := v1) rfl (x_mv f253) ?_)
        refine OW.cons (OP.val (v := (.int .i64 (a0.length : Int))) rfl (x_lenR Try.underlying26 rfl (hL.rdS 0 rfl h2)) ?_)
        refine OW.cons (OP.val (v := (.bool (decide (s_l1 < (a0.length : Int))))) rfl (x_lss rfl rfl) ?_)
        refine OW.nil ?_
        refine CW.condM (t := decide (s_l1 < (a0.length : Int))) rfl hm (fun hb255 hm => ?_) (fun hb255 hm => ?_)
        · refine CW.skip ?_
          refine CW.seq ?_
          refine CW.block ?_
          refine CW.seq ?_
          refine CW.seqJ (fun (s_j2 : Bool) (F : Fr) (w : World) => F 0 = v1 ∧ F 3 = (.int .i64 s_l1) ∧ F 33 = (.bool s_j2) ∧ Hp w0 [Ent.snap w0 w0.heap.size] w) (fun s_j2 => M.spec_IsCurve_j2 a0 s_l1 s_j2 = some t243) ?_ ?_
          · refine CW.regionL ?_
            refine OW.cons (OP.val (v := v1) rfl (x_mv f253) ?_)
            refine OW.cons (OP.val (v := (.int .i64 s_l1)) rfl (x_mv f254) ?_)
            obtain ⟨x349, ha350, hm⟩ := bndE hm
            obtain ⟨hz351, ha350⟩ := idxE ha350
            obtain ⟨b352, q353, hix354⟩ := rdL_ix (hL.rdS 0 rfl h2) hz351 ha350
            refine OW.cons (OP.val (v := (.pointer (some ⟨b352, q353, none⟩))) rfl (x_ix Try.underlying26 Try_T63 rfl rfl hix354) ?_)
            refine OW.cons (OP.val (v := (.pointer (some ⟨b352, q353, none⟩))) rfl (x_fieldAddr (fsz := 1) q353 0 q353 Try.underlying63 rfl Try_T2 rfl rfl rfl) ?_)
            refine OW.cons (OP.val (v := (.int .i64 x349.Wind)) rfl (x_load1 Try.underlying2 rfl rfl (rdF_cells (hL.rdS 0 rfl h2) hix354 ha350 0 _ rfl)) ?_)
            obtain ⟨x355, hx356, hm⟩ := bndE hm
            refine OW.cons (OP.call rfl (x_call (vs := [(.int .i64 x349.Wind), (.int .i64 0), (.int .i64 1000)]) Try_C52 ⟨rfl, rfl, rfl, trivial⟩) (M.spec_l01In_ok _ x349.Wind 0 1000 hx356) ?_)
            rintro e357 wd358 ⟨rfl, hF359⟩
            refine ⟨_, rfl, ?_⟩
            have hL := hL.pushAll hF359
            simp only [List.cons_append, List.nil_append, List.set_cons_zero, List.set_cons_succ] at hL
            refine OW.cons (OP.val (v := (.bool (!x355))) rfl (x_not rfl) ?_)
            refine OW.cons (OP.val (v := (.bool (!x355))) rfl (x_move) ?_)
            refine ifB_elim hm (fun hb360 hm => ?_) (fun hb360 hm => ?_)
            · refine OW.cons (OP.no' rfl rfl hb360 rfl ?_)
              refine OW.cons (OP.no' rfl rfl hb360 rfl ?_)
              refine OW.cons (OP.no' rfl rfl hb360 rfl ?_)
              refine OW.cons (OP.no' rfl rfl hb360 rfl ?_)
              refine OW.cons (OP.no' rfl rfl hb360 rfl ?_)
              refine OW.cons (OP.no' rfl rfl hb360 rfl ?_)
              refine OW.cons (OP.no' rfl rfl hb360 rfl ?_)
              refine OW.cons (OP.val (v := (.bool true)) rfl (x_pickT' rfl hb360 rfl) ?_)
              refine OW.nil ?_
              exact ⟨true, hm, ⟨f253, f254, rfl, hL⟩⟩
            · refine OW.cons (OP.yes' rfl rfl hb360 (OP.val (v := v1) rfl (x_mv f253) ?_))
              refine OW.cons (OP.yes' rfl rfl hb360 (OP.val (v := (.int .i64 s_l1)) rfl (x_mv f254) ?_))
              obtain ⟨x361, ha362, hm⟩ := bndE hm
              obtain ⟨hz363, ha362⟩ := idxE ha362
              obtain ⟨b364, q365, hix366⟩ := rdL_ix (hL.rdS 0 rfl h2) hz363 ha362
              refine OW.cons (OP.yes' rfl rfl hb360 (OP.val (v := (.pointer (some ⟨b364, q365, none⟩))) rfl (x_ix Try.underlying26 Try_T63 rfl rfl hix366) ?_))
              refine OW.cons (OP.yes' rfl rfl hb360 (OP.val (v := (.pointer (some ⟨b364, q365 + 1, none⟩))) rfl (x_fieldAddr (fsz := 1) q365 1 (q365 + 1) Try.underlying63 rfl Try_T2 rfl rfl rfl) ?_))
              refine OW.cons (OP.yes' rfl rfl hb360 (OP.val (v := (.int .i64 x361.Pace)) rfl (x_load1 Try.underlying2 rfl rfl (rdF_cells (hL.rdS 0 rfl h2) hix366 ha362 1 _ rfl)) ?_))
              obtain ⟨x367, hx368, hm⟩ := bndE hm
              refine OW.cons (OP.yes' rfl rfl hb360 (OP.call rfl (x_call (vs := [(.int .i64 x361.Pace), (.int .i64 1), (.int .i64 1000000)]) Try_C52 ⟨rfl, rfl, rfl, trivial⟩) (M.spec_l01In_ok _ x361.Pace 1 1000000 hx368) ?_))
              rintro e369 wd370 ⟨rfl, hF371⟩
              refine ⟨_, rfl, ?_⟩
              have hL := hL.pushAll hF371
              simp only [List.cons_append, List.nil_append, List.set_cons_zero, List.set_cons_succ] at hL
              refine OW.cons (OP.yes' rfl rfl hb360 (OP.val (v := (.bool (!x367))) rfl (x_not rfl) ?_))
              refine OW.cons (OP.val (v := (.bool (!x367))) rfl (x_pickF' rfl hb360 rfl) ?_)
              refine OW.nil ?_
              exact ⟨!x367, hm, ⟨f253, f254, rfl, hL⟩⟩
          · intro s_j2 F279 wd280 hJ hm
            unfold M.spec_IsCurve_j2 at hm
            obtain ⟨f281, f282, f283, hL⟩ := hJ
            refine CW.condM (t := s_j2) f283 hm (fun hb284 hm => ?_) (fun hb284 hm => ?_)
            · refine CW.seq ?_
              refine CW.regionL ?_
              refine OW.cons (OP.val (v := (.bool false)) rfl (x_assign) ?_)
              refine OW.nil ?_
              refine CW.ret ?_
              obtain rfl := Option.some.inj hm
              have hm := hr244 _ rfl
              obtain rfl := Option.some.inj hm
              exact RR1 rfl rfl ⟨rfl, hL.fresh 0 rfl [] (by decide) (by decide) rfl⟩
            · refine CW.skip ?_
              refine CW.seqJ (fun (s_j3 : Bool) (F : Fr) (w : World) => F 0 = v1 ∧ F 3 = (.int .i64 s_l1) ∧ F 63 = (.bool s_j3) ∧ Hp w0 [Ent.snap w0 w0.heap.size] w) (fun s_j3 => M.spec_IsCurve_j3 s_l1 s_j3 = some t243) ?_ ?_
              · refine CW.draw Try_mixed ?_
                have hL := hL.call (Mod.drew _)
                refine DW.pre (fuel := 0) (fin := (((((((((((((((((((((((((((((((Array.replicate 30 false).setIfInBounds 0 true).setIfInBounds 1 true).setIfInBounds 2 true).setIfInBounds 3 true).setIfInBounds 4 true).setIfInBounds 5 true).setIfInBounds 6 true).setIfInBounds 7 true).setIfInBounds 8 true).setIfInBounds 9 true).setIfInBounds 10 true).setIfInBounds 11 true).setIfInBounds 12 true).setIfInBounds 13 true).setIfInBounds 14 true).setIfInBounds 15 true).setIfInBounds 16 true).setIfInBounds 17 true).setIfInBounds 18 true).setIfInBounds 19 true).setIfInBounds 20 true).setIfInBounds 21 true).setIfInBounds 22 true).setIfInBounds 23 true).setIfInBounds 24 true).setIfInBounds 25 true).setIfInBounds 26 true).setIfInBounds 27 true).setIfInBounds 28 true).setIfInBounds 29 true)) (C := fun w' => Mod None_ _ w') [0, 1, 2, 3, 4, 5, 6, 7, 8, 9, 10, 11, 12, 13, 14, 15, 16, 17, 18, 19, 20, 21, 22, 23, 24, 25, 26, 27, 28, 29] (Mod.refl _ _) (by kernel_rfl) (by kernel_rfl) ?_
                refine QW.cons rfl (QP.val (v := (.int .i64 s_l1)) rfl (fun w' hm' => x_mv f282) ?_)
                refine QW.cons rfl (QP.val (v := (.bool (decide (0 < s_l1)))) rfl (fun w' hm' => x_gtr rfl rfl) ?_)
                refine QW.cons rfl (QP.val (v := (.bool (decide (0 < s_l1)))) rfl (fun w' hm' => x_move) ?_)
                refine ifB_elim hm (fun hb320 hm => ?_) (fun hb320 hm => ?_)
                · refine QW.cons rfl (QP.yes' rfl rfl hb320 (QP.val (v := v1) rfl (fun w' hm' => x_mv f281) ?_))
                  refine QW.cons rfl (QP.yes' rfl rfl hb320 (QP.val (v := (.int .i64 s_l1)) rfl (fun w' hm' => x_mv f282) ?_))
                  obtain ⟨x321, ha322, hm⟩ := bndE hm
                  obtain ⟨hz323, ha322⟩ := idxE ha322
                  obtain ⟨b324, q325, hix326⟩ := rdL_ix (hL.rdS 0 rfl h2) hz323 ha322
                  refine QW.cons rfl (QP.yes' rfl rfl hb320 (QP.val (v := (.pointer (some ⟨b324, q325, none⟩))) rfl (fun w' hm' => x_ix Try.underlying26 Try_T63 rfl rfl hix326) ?_))
                  refine QW.cons rfl (QP.yes' rfl rfl hb320 (QP.val (v := (.pointer (some ⟨b324, q325, none⟩))) rfl (fun w' hm' => x_fieldAddr (fsz := 1) q325 0 q325 Try.underlying63 rfl Try_T2 rfl rfl rfl) ?_))
                  refine QW.cons rfl (QP.yes' rfl rfl hb320 (QP.val (v := (.int .i64 x321.Wind)) rfl (fun w' hm' => x_load1 Try.underlying2 rfl rfl (rdF_cells ((hL.call hm').rdS 0 rfl h2) hix326 ha322 0 _ rfl)) ?_))
                  refine QW.cons rfl (QP.yes' rfl rfl hb320 (QP.val (v := v1) rfl (fun w' hm' => x_mv f281) ?_))
                  refine QW.cons rfl (QP.yes' rfl rfl hb320 (QP.val (v := (.int .i64 s_l1)) rfl (fun w' hm' => x_mv f282) ?_))
                  refine QW.cons rfl (QP.yes' rfl rfl hb320 (QP.val (v := (.int .i64 (w64 (s_l1 - 1)))) rfl (fun w' hm' => x_sub rfl rfl) ?_))
                  obtain ⟨x327, ha328, hm⟩ := bndE hm
                  obtain ⟨hz329, ha328⟩ := idxE ha328
                  obtain ⟨b330, q331, hix332⟩ := rdL_ix (hL.rdS 0 rfl h2) hz329 ha328
                  refine QW.cons rfl (QP.yes' rfl rfl hb320 (QP.val (v := (.pointer (some ⟨b330, q331, none⟩))) rfl (fun w' hm' => x_ix Try.underlying26 Try_T63 rfl rfl hix332) ?_))
                  refine QW.cons rfl (QP.yes' rfl rfl hb320 (QP.val (v := (.pointer (some ⟨b330, q331, none⟩))) rfl (fun w' hm' => x_fieldAddr (fsz := 1) q331 0 q331 Try.underlying63 rfl Try_T2 rfl rfl rfl) ?_))
                  refine QW.cons rfl (QP.yes' rfl rfl hb320 (QP.val (v := (.int .i64 x327.Wind)) rfl (fun w' hm' => x_load1 Try.underlying2 rfl rfl (rdF_cells ((hL.call hm').rdS 0 rfl h2) hix332 ha328 0 _ rfl)) ?_))
                  refine QW.cons rfl (QP.yes' rfl rfl hb320 (QP.val (v := (.bool (decide (x321.Wind ≤ x327.Wind)))) rfl (fun w' hm' => x_leq rfl rfl) ?_))
                  refine QW.cons rfl (QP.yes' rfl rfl hb320 (QP.val (v := (.bool (decide (x321.Wind ≤ x327.Wind)))) rfl (fun w' hm' => x_move) ?_))
                  refine ifB_elim hm (fun hb333 hm => ?_) (fun hb333 hm => ?_)
                  · refine QW.cons rfl (QP.no' rfl rfl hb333 rfl ?_)
                    refine QW.cons rfl (QP.no' rfl rfl hb333 rfl ?_)
                    refine QW.cons rfl (QP.no' rfl rfl hb333 rfl ?_)
                    refine QW.cons rfl (QP.no' rfl rfl hb333 rfl ?_)
                    refine QW.cons rfl (QP.no' rfl rfl hb333 rfl ?_)
                    refine QW.cons rfl (QP.no' rfl rfl hb333 rfl ?_)
                    refine QW.cons rfl (QP.no' rfl rfl hb333 rfl ?_)
                    refine QW.cons rfl (QP.no' rfl rfl hb333 rfl ?_)
                    refine QW.cons rfl (QP.no' rfl rfl hb333 rfl ?_)
                    refine QW.cons rfl (QP.no' rfl rfl hb333 rfl ?_)
                    refine QW.cons rfl (QP.no' rfl rfl hb333 rfl ?_)
                    refine QW.cons rfl (QP.no' rfl rfl hb333 rfl ?_)
                    refine QW.cons rfl (QP.yes' rfl rfl hb320 (QP.val (v := (.bool true)) rfl (fun w' hm' => x_pickT' rfl hb333 rfl) ?_))
                    refine QW.cons rfl (QP.val (v := (.bool true)) rfl (fun w' hm' => x_pickT' rfl hb320 rfl) ?_)
                    refine QW.nil ?_
                    intro wd334 hmod
                    have hL := hL.call hmod
                    refine DW.done (by kernel_rfl) ?_
                    exact ⟨true, hm, ⟨f281, f282, rfl, hL⟩⟩
                  · refine QW.cons rfl (QP.yes' rfl rfl hb333 (QP.val (v := v1) rfl (fun w' hm' => x_mv f281) ?_))
                    refine QW.cons rfl (QP.yes' rfl rfl hb333 (QP.val (v := (.int .i64 s_l1)) rfl (fun w' hm' => x_mv f282) ?_))
                    obtain ⟨x335, ha336, hm⟩ := bndE hm
                    obtain ⟨hz337, ha336⟩ := idxE ha336
                    obtain ⟨b338, q339, hix340⟩ := rdL_ix (hL.rdS 0 rfl h2) hz337 ha336
                    refine QW.cons rfl (QP.yes' rfl rfl hb333 (QP.val (v := (.pointer (some ⟨b338, q339, none⟩))) rfl (fun w' hm' => x_ix Try.underlying26 Try_T63 rfl rfl hix340) ?_))
                    refine QW.cons rfl (QP.yes' rfl rfl hb333 (QP.val (v := (.pointer (some ⟨b338, q339 + 1, none⟩))) rfl (fun w' hm' => x_fieldAddr (fsz := 1) q339 1 (q339 + 1) Try.underlying63 rfl Try_T2 rfl rfl rfl) ?_))
                    refine QW.cons rfl (QP.yes' rfl rfl hb333 (QP.val (v := (.int .i64 x335.Pace)) rfl (fun w' hm' => x_load1 Try.underlying2 rfl rfl (rdF_cells ((hL.call hm').rdS 0 rfl h2) hix340 ha336 1 _ rfl)) ?_))
                    refine QW.cons rfl (QP.yes' rfl rfl hb333 (QP.val (v := v1) rfl (fun w' hm' => x_mv f281) ?_))
                    refine QW.cons rfl (QP.yes' rfl rfl hb333 (QP.val (v := (.int .i64 s_l1)) rfl (fun w' hm' => x_mv f282) ?_))
                    refine QW.cons rfl (QP.yes' rfl rfl hb333 (QP.val (v := (.int .i64 (w64 (s_l1 - 1)))) rfl (fun w' hm' => x_sub rfl rfl) ?_))
                    obtain ⟨x341, ha342, hm⟩ := bndE hm
                    obtain ⟨hz343, ha342⟩ := idxE ha342
                    obtain ⟨b344, q345, hix346⟩ := rdL_ix (hL.rdS 0 rfl h2) hz343 ha342
                    refine QW.cons rfl (QP.yes' rfl rfl hb333 (QP.val (v := (.pointer (some ⟨b344, q345, none⟩))) rfl (fun w' hm' => x_ix Try.underlying26 Try_T63 rfl rfl hix346) ?_))
                    refine QW.cons rfl (QP.yes' rfl rfl hb333 (QP.val (v := (.pointer (some ⟨b344, q345 + 1, none⟩))) rfl (fun w' hm' => x_fieldAddr (fsz := 1) q345 1 (q345 + 1) Try.underlying63 rfl Try_T2 rfl rfl rfl) ?_))
                    refine QW.cons rfl (QP.yes' rfl rfl hb333 (QP.val (v := (.int .i64 x341.Pace)) rfl (fun w' hm' => x_load1 Try.underlying2 rfl rfl (rdF_cells ((hL.call hm').rdS 0 rfl h2) hix346 ha342 1 _ rfl)) ?_))
                    refine QW.cons rfl (QP.yes' rfl rfl hb333 (QP.val (v := (.bool (decide (x341.Pace ≤ x335.Pace)))) rfl (fun w' hm' => x_geq rfl rfl) ?_))
                    refine QW.cons rfl (QP.yes' rfl rfl hb320 (QP.val (v := (.bool (decide (x341.Pace ≤ x335.Pace)))) rfl (fun w' hm' => x_pickF' rfl hb333 rfl) ?_))
                    refine QW.cons rfl (QP.val (v := (.bool (decide (x341.Pace ≤ x335.Pace)))) rfl (fun w' hm' => x_pickT' rfl hb320 rfl) ?_)
                    refine QW.nil ?_
                    intro wd347 hmod
                    have hL := hL.call hmod
                    refine DW.done (by kernel_rfl) ?_
                    exact ⟨decide (x341.Pace ≤ x335.Pace), hm, ⟨f281, f282, rfl, hL⟩⟩
                · refine QW.cons rfl (QP.no' rfl rfl hb320 rfl ?_)
                  refine QW.cons rfl (QP.no' rfl rfl hb320 rfl ?_)
                  refine QW.cons rfl (QP.no' rfl rfl hb320 rfl ?_)
                  refine QW.cons rfl (QP.no' rfl rfl hb320 rfl ?_)
                  refine QW.cons rfl (QP.no' rfl rfl hb320 rfl ?_)
                  refine QW.cons rfl (QP.no' rfl rfl hb320 rfl ?_)
                  refine QW.cons rfl (QP.no' rfl rfl hb320 rfl ?_)
                  refine QW.cons rfl (QP.no' rfl rfl hb320 rfl ?_)
                  refine QW.cons rfl (QP.no' rfl rfl hb320 rfl ?_)
                  refine QW.cons rfl (QP.no' rfl rfl hb320 rfl ?_)
                  refine QW.cons rfl (QP.no' rfl rfl hb320 rfl ?_)
                  refine QW.cons rfl (QP.no' rfl rfl hb320 rfl ?_)
                  refine QW.cons rfl (QP.no' rfl rfl hb320 rfl ?_)
                  refine QW.cons rfl (QP.noU rfl rfl rfl ?_)
                  refine QW.cons rfl (QP.noU rfl rfl rfl ?_)
                  refine QW.cons rfl (QP.noU rfl rfl rfl ?_)
                  refine QW.cons rfl (QP.noU rfl rfl rfl ?_)
                  refine QW.cons rfl (QP.noU rfl rfl rfl ?_)
                  refine QW.cons rfl (QP.noU rfl rfl rfl ?_)
                  refine QW.cons rfl (QP.noU rfl rfl rfl ?_)
                  refine QW.cons rfl (QP.noU rfl rfl rfl ?_)
                  refine QW.cons rfl (QP.noU rfl rfl rfl ?_)
                  refine QW.cons rfl (QP.noU rfl rfl rfl ?_)
                  refine QW.cons rfl (QP.noU rfl rfl rfl ?_)
                  refine QW.cons rfl (QP.noU rfl rfl rfl ?_)
                  refine QW.cons rfl (QP.no' rfl rfl hb320 rfl ?_)
                  refine QW.cons rfl (QP.val (v := (.bool false)) rfl (fun w' hm' => x_pickF' rfl hb320 rfl) ?_)
                  refine QW.nil ?_
                  intro wd348 hmod
                  have hL := hL.call hmod
                  refine DW.done (by kernel_rfl) ?_
                  exact ⟨false, hm, ⟨f281, f282, rfl, hL⟩⟩
              · intro s_j3 F314 wd315 hJ hm
                unfold M.spec_IsCurve_j3 at hm
                obtain ⟨f316, f317, f318, hL⟩ := hJ
                refine CW.condM (t := s_j3) f318 hm (fun hb319 hm => ?_) (fun hb319 hm => ?_)
                · refine CW.seq ?_
                  refine CW.regionL ?_
                  refine OW.cons (OP.val (v := (.bool false)) rfl (x_assign) ?_)
                  refine OW.nil ?_
                  refine CW.ret ?_
                  obtain rfl := Option.some.inj hm
                  have hm := hr244 _ rfl
                  obtain rfl := Option.some.inj hm
                  exact RR1 rfl rfl ⟨rfl, hL.fresh 0 rfl [] (by decide) (by decide) rfl⟩
                · refine CW.skip ?_
                  refine CW.regionL ?_
                  refine OW.cons (OP.val (v := (.int .i64 s_l1)) rfl (x_mv f317) ?_)
                  refine OW.cons (OP.val (v := (.int .i64 (w64 (s_l1 + 1)))) rfl (x_add rfl rfl) ?_)
                  refine OW.cons (OP.val (v := (.int .i64 (w64 (s_l1 + 1)))) rfl (x_assign) ?_)
                  refine OW.nil ?_
                  obtain rfl := Option.some.inj hm
                  exact ⟨_, rfl, ⟨f316, rfl, hL⟩⟩
        · refine CW.exit ?_
          refine XJ.hit ?_
          obtain rfl := Option.some.inj hm
          exact ⟨_, rfl, ⟨f253, f254, hL⟩⟩

theorem M.spec_l22Time_ok (w0 : World) (a0 : Int) {r : Bool} (hm : M.spec_l22Time a0 = some r) :
    Calls Try.prog 36 #[(.int .i64 a0)] w0 fun e w' => e = .returned (.bool r) ∧ Fresh w0 w' [] := by
  unfold M.spec_l22Time at hm
  refine calls_CW (args := [(.int .i64 a0)]) Try.func36 rfl rfl rfl ?_
  have hL := Hp.start w0
  refine CW.seq ?_
  refine CW.regionL ?_
  refine OW.cons (OP.val (v := (.bool false)) rfl (x_assign) ?_)
  refine OW.nil ?_
  refine CW.seq ?_
  refine CW.regionL ?_
  refine OW.cons (OP.val (v := (.int .i64 a0)) rfl (x_move) ?_)
  obtain ⟨x1, hx2, hm⟩ := bndE hm
  refine OW.cons (OP.call rfl (x_call (vs := [(.int .i64 a0), (.int .i64 1), (.int .i64 1000000000)]) Try_C52 ⟨rfl, rfl, rfl, trivial⟩) (M.spec_l01In_ok _ a0 1 1000000000 hx2) ?_)
  rintro e3 wd4 ⟨rfl, hF5⟩
  refine ⟨_, rfl, ?_⟩
  have hL := hL.pushAll hF5
  simp only [List.cons_append, List.nil_append, List.set_cons_zero, List.set_cons_succ] at hL
  refine OW.cons (OP.val (v := (.bool x1)) rfl (x_assign) ?_)
  refine OW.nil ?_
  refine CW.ret ?_
  obtain rfl := Option.some.inj hm
  exact RR1 rfl rfl ⟨rfl, hL.fresh 0 rfl [] (by decide) (by decide) rfl⟩

theorem M.spec_l23Distance_ok (w0 : World) (a0 : Int) {r : Bool} (hm : M.spec_l23Distance a0 = some r) :
    Calls Try.prog 37 #[(.int .i64 a0)] w0 fun e w' => e = .returned (.bool r) ∧ Fresh w0 w' [] := by
  unfold M.spec_l23Distance at hm
  refine calls_CW (args := [(.int .i64 a0)]) Try.func37 rfl rfl rfl ?_
  have hL := Hp.start w0
  refine CW.seq ?_
  refine CW.regionL ?_
  refine OW.cons (OP.val (v := (.bool false)) rfl (x_assign) ?_)
  refine OW.nil ?_
  refine CW.seq ?_
  refine CW.regionL ?_
  refine OW.cons (OP.val (v := (.int .i64 a0)) rfl (x_move) ?_)
  obtain ⟨x1, hx2, hm⟩ := bndE hm
  refine OW.cons (OP.call rfl (x_call (vs := [(.int .i64 a0), (.int .i64 1), (.int .i64 10000000)]) Try_C52 ⟨rfl, rfl, rfl, trivial⟩) (M.spec_l01In_ok _ a0 1 10000000 hx2) ?_)
  rintro e3 wd4 ⟨rfl, hF5⟩
  refine ⟨_, rfl, ?_⟩
  have hL := hL.pushAll hF5
  simp only [List.cons_append, List.nil_append, List.set_cons_zero, List.set_cons_succ] at hL
  refine OW.cons (OP.val (v := (.bool x1)) rfl (x_assign) ?_)
  refine OW.nil ?_
  refine CW.ret ?_
  obtain rfl := Option.some.inj hm
  exact RR1 rfl rfl ⟨rfl, hL.fresh 0 rfl [] (by decide) (by decide) rfl⟩

theorem M.spec_l01Floor_ok (w0 : World) (a0 : Int) (a1 : Int) {r : Int} (hm : M.spec_l01Floor a0 a1 = some r) :
    Calls Try.prog 80 #[(.int .i64 a0), (.int .i64 a1)] w0 fun e w' => e = .returned (.int .i64 r) ∧ Fresh w0 w' [] := by
  unfold M.spec_l01Floor at hm
  refine calls_CW (args := [(.int .i64 a0), (.int .i64 a1)]) Try.func80 rfl rfl rfl ?_
  have hL := Hp.start w0
  refine CW.seq ?_
  refine CW.regionL ?_
  refine OW.cons (OP.val (v := (.int .i64 0)) rfl (x_assign) ?_)
  refine OW.nil ?_
  refine CW.seq ?_
  refine CW.regionL ?_
  refine OW.cons (OP.val (v := (.int .i64 a0)) rfl (x_move) ?_)
  refine OW.cons (OP.val (v := (.int .i64 a1)) rfl (x_move) ?_)
  obtain ⟨hc1, hm⟩ := chkE hm
  refine OW.cons (OP.val (v := (.int .i64 (w64 (a0.tdiv a1)))) rfl (x_quo rfl rfl hc1) ?_)
  refine OW.cons (OP.val (v := (.int .i64 (w64 (a0.tdiv a1)))) rfl (x_assign) ?_)
  refine OW.nil ?_
  refine CW.seqJ (fun (s_j1 : Int) (F : Fr) (w : World) => F 5 = (.int .i64 s_j1) ∧ Hp w0 [Ent.snap w0 w0.heap.size] w) (fun s_j1 => M.spec_l01Floor_j1 s_j1 = some r) ?_ ?_
  · refine CW.seq ?_
    refine CW.regionL ?_
    refine OW.cons (OP.val (v := (.int .i64 a0)) rfl (x_move) ?_)
    refine OW.cons (OP.val (v := (.int .i64 a1)) rfl (x_move) ?_)
    obtain ⟨hc7, hm⟩ := chkE hm
    refine OW.cons (OP.val (v := (.int .i64 (a0.tmod a1))) rfl (x_rem rfl rfl hc7) ?_)
    refine OW.cons (OP.val (v := (.bool (decide ((a0.tmod a1) < 0)))) rfl (x_lss rfl rfl) ?_)
    refine OW.nil ?_
    refine CW.condM (t := decide ((a0.tmod a1) < 0)) rfl hm (fun hb8 hm => ?_) (fun hb8 hm => ?_)
    · refine CW.regionL ?_
      refine OW.cons (OP.val (v := (.int .i64 (w64 (a0.tdiv a1)))) rfl (x_move) ?_)
      refine OW.cons (OP.val (v := (.int .i64 (w64 ((w64 (a0.tdiv a1)) - 1)))) rfl (x_sub rfl rfl) ?_)
      refine OW.cons (OP.val (v := (.int .i64 (w64 ((w64 (a0.tdiv a1)) - 1)))) rfl (x_assign) ?_)
      refine OW.nil ?_
      exact ⟨w64 ((w64 (a0.tdiv a1)) - 1), hm, ⟨rfl, hL⟩⟩
    · refine CW.skip ?_
      exact ⟨w64 (a0.tdiv a1), hm, ⟨rfl, hL⟩⟩
  · intro s_j1 F4 wd5 hJ hm
    unfold M.spec_l01Floor_j1 at hm
    obtain ⟨f6, hL⟩ := hJ
    refine CW.seq ?_
    refine CW.regionL ?_
    refine OW.cons (OP.val (v := (.int .i64 s_j1)) rfl (x_mv f6) ?_)
    refine OW.cons (OP.val (v := (.int .i64 s_j1)) rfl (x_assign) ?_)
    refine OW.nil ?_
    refine CW.ret ?_
    obtain rfl := Option.some.inj hm
    exact RR1 rfl rfl ⟨rfl, hL.fresh 0 rfl [] (by decide) (by decide) rfl⟩

theorem M.spec_l24Pace_ok (w0 : World) (a0 : List CurvePoint) {v1 : Value} (h2 : rdL (· < w0.heap.size) w0 v1 a0) (a1 : Int) {r : Int} (hm : M.spec_l24Pace a0 a1 = some r) :
    Calls Try.prog 72 #[v1, (.int .i64 a1)] w0 fun e w' => e = .returned (.int .i64 r) ∧ Fresh w0 w' [] := by
  unfold M.spec_l24Pace at hm
  refine calls_CW (args := [v1, (.int .i64 a1)]) Try.func72 rfl rfl rfl ?_
  have hL := Hp.start w0
  refine CW.seq ?_
  refine CW.regionL ?_
  refine OW.cons (OP.val (v := (.int .i64 0)) rfl (x_assign) ?_)
  refine OW.nil ?_
  refine CW.seq ?_
  refine CW.seq ?_
  refine CW.regionL ?_
  refine OW.cons (OP.val (v := (.int .i64 a1)) rfl (x_move) ?_)
  refine OW.cons (OP.val (v := v1) rfl (x_move) ?_)
  obtain ⟨x3, ha4, hm⟩ := bndE hm
  obtain ⟨hz5, ha4⟩ := idxE ha4
  obtain ⟨b6, q7, hix8⟩ := rdL_ix (hL.rdS 0 rfl h2) hz5 ha4
  refine OW.cons (OP.val (v := (.pointer (some ⟨b6, q7, none⟩))) rfl (x_ix Try.underlying26 Try_T63 rfl rfl hix8) ?_)
  refine OW.cons (OP.val (v := (.pointer (some ⟨b6, q7, none⟩))) rfl (x_fieldAddr (fsz := 1) q7 0 q7 Try.underlying63 rfl Try_T2 rfl rfl rfl) ?_)
  refine OW.cons (OP.val (v := (.int .i64 x3.Wind)) rfl (x_load1 Try.underlying2 rfl rfl (rdF_cells (hL.rdS 0 rfl h2) hix8 ha4 0 _ rfl)) ?_)
  refine OW.cons (OP.val (v := (.bool (decide (a1 ≤ x3.Wind)))) rfl (x_leq rfl rfl) ?_)
  refine OW.nil ?_
  refine CW.condM (t := decide (a1 ≤ x3.Wind)) rfl hm (fun hb9 hm => ?_) (fun hb9 hm => ?_)
  · refine CW.seq ?_
    refine CW.regionL ?_
    refine OW.cons (OP.val (v := v1) rfl (x_move) ?_)
    obtain ⟨x10, ha11, hm⟩ := bndE hm
    obtain ⟨hz12, ha11⟩ := idxE ha11
    obtain ⟨b13, q14, hix15⟩ := rdL_ix (hL.rdS 0 rfl h2) hz12 ha11
    refine OW.cons (OP.val (v := (.pointer (some ⟨b13, q14, none⟩))) rfl (x_ix Try.underlying26 Try_T63 rfl rfl hix15) ?_)
    refine OW.cons (OP.val (v := (.pointer (some ⟨b13, q14 + 1, none⟩))) rfl (x_fieldAddr (fsz := 1) q14 1 (q14 + 1) Try.underlying63 rfl Try_T2 rfl rfl rfl) ?_)
    refine OW.cons (OP.val (v := (.int .i64 x10.Pace)) rfl (x_load1 Try.underlying2 rfl rfl (rdF_cells (hL.rdS 0 rfl h2) hix15 ha11 1 _ rfl)) ?_)
    refine OW.cons (OP.val (v := (.int .i64 x10.Pace)) rfl (x_assign) ?_)
    refine OW.nil ?_
    refine CW.ret ?_
    obtain rfl := Option.some.inj hm
    exact RR1 rfl rfl ⟨rfl, hL.fresh 0 rfl [] (by decide) (by decide) rfl⟩
  · refine CW.skip ?_
    refine CW.seq ?_
    refine CW.seq ?_
    refine CW.regionL ?_
    refine OW.cons (OP.val (v := (.int .i64 1)) rfl (x_assign) ?_)
    refine OW.nil ?_
    obtain ⟨o124, ho125, hm⟩ := bndE hm
    refine CW.loopB (fun (s_l1 : Int) (F : Fr) (w : World) => F 0 = v1 ∧ F 1 = (.int .i64 a1) ∧ F 5 = (.int .i64 s_l1) ∧ Hp w0 [Ent.snap w0 w0.heap.size] w) (fun o => outc o (fun x => some x) (fun s => M.spec_l24Pace_a1 a0 s) = some r) ho125 hm ⟨rfl, rfl, rfl, hL⟩ ?_ ?_
    · intro s_l1 F126 wd127 hJ hm
      have hm : M.spec_l24Pace_a1 a0 s_l1 = some r := hm
      unfold M.spec_l24Pace_a1 at hm
      obtain ⟨f128, f129, f130, hL⟩ := hJ
      refine CW.seq ?_
      refine CW.regionL ?_
      refine OW.cons (OP.val (v := v1) rfl (x_mv f128) ?_)
      refine OW.cons (OP.val (v := v1) rfl (x_mv f128) ?_)
      refine OW.cons (OP.val (v := (.int .i64 (a0.length : Int))) rfl (x_lenR Try.underlying26 rfl (hL.rdS 0 rfl h2)) ?_)
      refine OW.cons (OP.val (v := (.int .i64 (w64 ((a0.length : Int) - 1)))) rfl (x_sub rfl rfl) ?_)
      obtain ⟨x131, ha132, hm⟩ := bndE hm
      obtain ⟨hz133, ha132⟩ := idxE ha132
      obtain ⟨b134, q135, hix136⟩ := rdL_ix (hL.rdS 0 rfl h2) hz133 ha132
      refine OW.cons (OP.val (v := (.pointer (some ⟨b134, q135, none⟩))) rfl (x_ix Try.underlying26 Try_T63 rfl rfl hix136) ?_)
      refine OW.cons (OP.val (v := (.pointer (some ⟨b134, q135 + 1, none⟩))) rfl (x_fieldAddr (fsz := 1) q135 1 (q135 + 1) Try.underlying63 rfl Try_T2 rfl rfl rfl) ?_)
      refine OW.cons (OP.val (v := (.int .i64 x131.Pace)) rfl (x_load1 Try.underlying2 rfl rfl (rdF_cells (hL.rdS 0 rfl h2) hix136 ha132 1 _ rfl)) ?_)
      refine OW.cons (OP.val (v := (.int .i64 x131.Pace)) rfl (x_assign) ?_)
      refine OW.nil ?_
      refine CW.ret ?_
      obtain rfl := Option.some.inj hm
      exact RR1 rfl rfl ⟨rfl, hL.fresh 0 rfl [] (by decide) (by decide) rfl⟩
    · intro s_l1 F137 wd138 t122 hJ hm hr123
      unfold M.spec_l24Pace_l1 at hm
      obtain ⟨f139, f140, f141, hL⟩ := hJ
      refine CW.seq ?_
      refine CW.seq ?_
      refine CW.regionL ?_
      refine OW.cons (OP.val (v := (.int .i64 s_l1)) rfl (x_mv f141) ?_)
      refine OW.cons (OP.val (v := v1) rfl (x_mv f139) ?_)
      refine OW.cons (OP.val (v := (.int .i64 (a0.length : Int))) rfl (x_lenR Try.underlying26 rfl (hL.rdS 0 rfl h2)) ?_)
      refine OW.cons (OP.val (v := (.bool (decide (s_l1 < (a0.length : Int))))) rfl (x_lss rfl rfl) ?_)
      refine OW.nil ?_
      refine CW.condM (t := decide (s_l1 < (a0.length : Int))) rfl hm (fun hb142 hm => ?_) (fun hb142 hm => ?_)
      · refine CW.skip ?_
        refine CW.seq ?_
        refine CW.block ?_
        refine CW.seq ?_
        refine CW.drawH (fun w' => Hp w0 [Ent.snap w0 w0.heap.size] w') Try_mixed ?_
        have hL := hL.call (Mod.drew _)
        have hS := (hL.sel [0] (by decide) rfl)
        refine DH.take 0 rfl (by kernel_rfl) (by kernel_rfl) (by kernel_rfl) rfl rfl hS (YH.val (v := v1) (fun w' hS' => x_mv f139)) ?_
        have hS := (hL.sel [0] (by decide) rfl)
        refine DH.take 1 rfl (by kernel_rfl) (by kernel_rfl) (by kernel_rfl) rfl rfl hS (YH.val (v := (.int .i64 s_l1)) (fun w' hS' => x_mv f141)) ?_
        have hS := (hL.sel [0] (by decide) rfl)
        refine DH.take 2 rfl (by kernel_rfl) (by kernel_rfl) (by kernel_rfl) rfl rfl hS (YH.val (v := (.int .i64 (w64 (s_l1 - 1)))) (fun w' hS' => x_sub rfl rfl)) ?_
        have hS := (hL.sel [0] (by decide) rfl)
        obtain ⟨x161, ha162, hm⟩ := bndE hm
        obtain ⟨hz163, ha162⟩ := idxE ha162
        obtain ⟨b164, q165, hix166⟩ := rdL_ix (hS.rdS 0 rfl h2) hz163 ha162
        refine DH.take 3 rfl (by kernel_rfl) (by kernel_rfl) (by kernel_rfl) rfl rfl hS (YH.val (v := (.pointer (some ⟨b164, q165, none⟩))) (fun w' hS' => x_ix Try.underlying26 Try_T63 rfl rfl hix166)) ?_
        have hS := (hL.sel [0] (by decide) rfl)
        refine DH.take 4 rfl (by kernel_rfl) (by kernel_rfl) (by kernel_rfl) rfl rfl hS (YH.val (v := (.agg #[(.int .i64 x161.Wind), (.int .i64 x161.Pace)])) (fun w' hS' => x_loadN (cs := [(.int .i64 x161.Wind), (.int .i64 x161.Pace)]) Try.underlying63 Try_T63 rfl rfl (rdF_cells (hS'.rdS 0 rfl h2) hix166 ha162))) ?_
        have hS := (hL.sel [0] (by decide) rfl)
        refine DH.take 5 rfl (by kernel_rfl) (by kernel_rfl) (by kernel_rfl) rfl rfl hS (YH.val (v := v1) (fun w' hS' => x_mv f139)) ?_
        have hS := (hL.sel [0] (by decide) rfl)
        refine DH.take 6 rfl (by kernel_rfl) (by kernel_rfl) (by kernel_rfl) rfl rfl hS (YH.val (v := (.int .i64 s_l1)) (fun w' hS' => x_mv f141)) ?_
        have hS := (hL.sel [0] (by decide) rfl)
        obtain ⟨x167, ha168, hm⟩ := bndE hm
        obtain ⟨hz169, ha168⟩ := idxE ha168
        obtain ⟨b170, q171, hix172⟩ := rdL_ix (hS.rdS 0 rfl h2) hz169 ha168
        refine DH.take 7 rfl (by kernel_rfl) (by kernel_rfl) (by kernel_rfl) rfl rfl hS (YH.val (v := (.pointer (some ⟨b170, q171, none⟩))) (fun w' hS' => x_ix Try.underlying26 Try_T63 rfl rfl hix172)) ?_
        have hS := (hL.sel [0] (by decide) rfl)
        refine DH.take 8 rfl (by kernel_rfl) (by kernel_rfl) (by kernel_rfl) rfl rfl hS (YH.val (v := (.agg #[(.int .i64 x167.Wind), (.int .i64 x167.Pace)])) (fun w' hS' => x_loadN (cs := [(.int .i64 x167.Wind), (.int .i64 x167.Pace)]) Try.underlying63 Try_T63 rfl rfl (rdF_cells (hS'.rdS 0 rfl h2) hix172 ha168))) ?_
        refine DH.all (rs := [9, 10]) (by kernel_rfl) (by simp) ?_
        intro i173 hi174
        simp only [List.mem_cons, List.not_mem_nil, or_false] at hi174
        rcases hi174 with rfl | rfl
        · refine ⟨_, rfl, ?_⟩
          refine S_alloc (cs := #[(.int .i64 0), (.int .i64 0)]) hL Try_T63 rfl rfl ?_
          intro wd175 b176 hL
          refine ⟨(hL.sel [1] (by decide) rfl), ?_⟩
          refine DH.only 10 rfl (by kernel_rfl) (S_alloc (cs := #[(.int .i64 0), (.int .i64 0)]) hL Try_T63 rfl rfl ?_)
          intro wd177 b178 hL
          refine ⟨(hL.sel [2] (by decide) rfl), ?_⟩
          refine DH.only 11 rfl (by kernel_rfl) (S_storeN (l := [(.int .i64 x161.Wind), (.int .i64 x161.Pace)]) (cs' := #[(.int .i64 x161.Wind), (.int .i64 x161.Pace)]) hL 1 rfl Try_T63 rfl rfl (by simp [Value.oneCell']) rfl (by decide) rfl ?_)
          intro wd179 hL
          refine ⟨(hL.sel [2] (by decide) rfl), ?_⟩
          refine DH.only 12 rfl (by kernel_rfl) (S_storeN (l := [(.int .i64 x167.Wind), (.int .i64 x167.Pace)]) (cs' := #[(.int .i64 x167.Wind), (.int .i64 x167.Pace)]) hL 0 rfl Try_T63 rfl rfl (by simp [Value.oneCell']) rfl (by decide) rfl ?_)
          intro wd180 hL
          refine ⟨(hL.sel [2] (by decide) rfl), ?_⟩
          refine DH.done (by kernel_rfl) ?_
          refine CW.seq ?_
          refine CW.regionL ?_
          refine OW.cons (OP.val (v := (.int .i64 a1)) rfl (x_mv f140) ?_)
          refine OW.cons (OP.val (v := (.pointer (some ⟨b178, 0, none⟩))) rfl (x_fieldAddr (fsz := 1) 0 0 0 Try.underlying63 rfl Try_T2 rfl rfl rfl) ?_)
          refine OW.cons (OP.val (v := (.int .i64 x167.Wind)) rfl (x_load1 Try.underlying2 rfl rfl (hL.cellB 0 rfl rfl)) ?_)
          refine OW.cons (OP.val (v := (.bool (decide (a1 ≤ x167.Wind)))) rfl (x_leq rfl rfl) ?_)
          refine OW.nil ?_
          refine CW.condM (t := decide (a1 ≤ x167.Wind)) rfl hm (fun hb181 hm => ?_) (fun hb181 hm => ?_)
          · refine CW.seq ?_
            refine CW.draw Try_mixed ?_
            have hL := hL.call (Mod.drew _)
            refine DW.pre (fuel := 0) (fin := (((((((((((((((((((((Array.replicate 20 false).setIfInBounds 0 true).setIfInBounds 1 true).setIfInBounds 2 true).setIfInBounds 3 true).setIfInBounds 4 true).setIfInBounds 5 true).setIfInBounds 6 true).setIfInBounds 7 true).setIfInBounds 8 true).setIfInBounds 9 true).setIfInBounds 10 true).setIfInBounds 11 true).setIfInBounds 12 true).setIfInBounds 13 true).setIfInBounds 14 true).setIfInBounds 15 true).setIfInBounds 16 true).setIfInBounds 17 true).setIfInBounds 18 true).setIfInBounds 19 true)) (C := fun w' => Mod None_ _ w') [0, 1, 2, 3, 4, 5, 6, 7, 8, 9, 10, 11, 12, 13, 14, 15, 16, 17, 18, 19] (Mod.refl _ _) (by kernel_rfl) (by kernel_rfl) ?_
            refine QW.cons rfl (QP.val (v := (.pointer (some ⟨b176, 1, none⟩))) rfl (fun w' hm' => x_fieldAddr (fsz := 1) 0 1 1 Try.underlying63 rfl Try_T2 rfl rfl rfl) ?_)
            refine QW.cons rfl (QP.val (v := (.int .i64 x161.Pace)) rfl (fun w' hm' => x_load1 Try.underlying2 rfl rfl ((hL.call hm').cellB 1 rfl rfl)) ?_)
            refine QW.cons rfl (QP.val (v := (.pointer (some ⟨b178, 1, none⟩))) rfl (fun w' hm' => x_fieldAddr (fsz := 1) 0 1 1 Try.underlying63 rfl Try_T2 rfl rfl rfl) ?_)
            refine QW.cons rfl (QP.val (v := (.int .i64 x167.Pace)) rfl (fun w' hm' => x_load1 Try.underlying2 rfl rfl ((hL.call hm').cellB 0 rfl rfl)) ?_)
            refine QW.cons rfl (QP.val (v := (.pointer (some ⟨b176, 1, none⟩))) rfl (fun w' hm' => x_fieldAddr (fsz := 1) 0 1 1 Try.underlying63 rfl Try_T2 rfl rfl rfl) ?_)
            refine QW.cons rfl (QP.val (v := (.int .i64 x161.Pace)) rfl (fun w' hm' => x_load1 Try.underlying2 rfl rfl ((hL.call hm').cellB 1 rfl rfl)) ?_)
            refine QW.cons rfl (QP.val (v := (.int .i64 (w64 (x167.Pace - x161.Pace)))) rfl (fun w' hm' => x_sub rfl rfl) ?_)
            refine QW.cons rfl (QP.val (v := (.int .i64 a1)) rfl (fun w' hm' => x_mv f140) ?_)
            refine QW.cons rfl (QP.val (v := (.pointer (some ⟨b176, 0, none⟩))) rfl (fun w' hm' => x_fieldAddr (fsz := 1) 0 0 0 Try.underlying63 rfl Try_T2 rfl rfl rfl) ?_)
            refine QW.cons rfl (QP.val (v := (.int .i64 x161.Wind)) rfl (fun w' hm' => x_load1 Try.underlying2 rfl rfl ((hL.call hm').cellB 1 rfl rfl)) ?_)
            refine QW.cons rfl (QP.val (v := (.int .i64 (w64 (a1 - x161.Wind)))) rfl (fun w' hm' => x_sub rfl rfl) ?_)
            refine QW.cons rfl (QP.val (v := (.int .i64 (w64 ((w64 (x167.Pace - x161.Pace)) * (w64 (a1 - x161.Wind)))))) rfl (fun w' hm' => x_mul rfl rfl) ?_)
            refine QW.cons rfl (QP.val (v := (.pointer (some ⟨b178, 0, none⟩))) rfl (fun w' hm' => x_fieldAddr (fsz := 1) 0 0 0 Try.underlying63 rfl Try_T2 rfl rfl rfl) ?_)
            refine QW.cons rfl (QP.val (v := (.int .i64 x167.Wind)) rfl (fun w' hm' => x_load1 Try.underlying2 rfl rfl ((hL.call hm').cellB 0 rfl rfl)) ?_)
            refine QW.cons rfl (QP.val (v := (.pointer (some ⟨b176, 0, none⟩))) rfl (fun w' hm' => x_fieldAddr (fsz := 1) 0 0 0 Try.underlying63 rfl Try_T2 rfl rfl rfl) ?_)
            refine QW.cons rfl (QP.val (v := (.int .i64 x161.Wind)) rfl (fun w' hm' => x_load1 Try.underlying2 rfl rfl ((hL.call hm').cellB 1 rfl rfl)) ?_)
            refine QW.cons rfl (QP.val (v := (.int .i64 (w64 (x167.Wind - x161.Wind)))) rfl (fun w' hm' => x_sub rfl rfl) ?_)
            obtain ⟨x182, hx183, hm⟩ := bndE hm
            refine QW.cons rfl (QP.call (v := (.int .i64 x182)) rfl (fun w' hm' => x_call (vs := [(.int .i64 (w64 ((w64 (x167.Pace - x161.Pace)) * (w64 (a1 - x161.Wind))))), (.int .i64 (w64 (x167.Wind - x161.Wind)))]) Try_C80 ⟨rfl, rfl, trivial⟩) (fun w' hm' => (M.spec_l01Floor_ok w' (w64 ((w64 (x167.Pace - x161.Pace)) * (w64 (a1 - x161.Wind)))) (w64 (x167.Wind - x161.Wind)) hx183).mono (fun e w'' h => ⟨h.1, hm'.trans h.2.mod⟩)) ?_)
            refine QW.cons rfl (QP.val (v := (.int .i64 (w64 (x161.Pace + x182)))) rfl (fun w' hm' => x_add rfl rfl) ?_)
            refine QW.cons rfl (QP.val (v := (.int .i64 (w64 (x161.Pace + x182)))) rfl (fun w' hm' => x_assign) ?_)
            refine QW.nil ?_
            intro wd184 hmod
            have hL := hL.call hmod
            refine DW.done (by kernel_rfl) ?_
            refine CW.ret ?_
            obtain rfl := Option.some.inj hm
            have hm := hr123 _ rfl
            obtain rfl := Option.some.inj hm
            exact RR1 rfl rfl ⟨rfl, hL.fresh 2 rfl [] (by decide) (by decide) rfl⟩
          · refine CW.skip ?_
            refine CW.regionL ?_
            refine OW.cons (OP.val (v := (.int .i64 s_l1)) rfl (x_mv f141) ?_)
            refine OW.cons (OP.val (v := (.int .i64 (w64 (s_l1 + 1)))) rfl (x_add rfl rfl) ?_)
            refine OW.cons (OP.val (v := (.int .i64 (w64 (s_l1 + 1)))) rfl (x_assign) ?_)
            refine OW.nil ?_
            have hL := hL.sel [2] (by decide) rfl
            obtain rfl := Option.some.inj hm
            exact ⟨_, rfl, ⟨f139, f140, rfl, hL⟩⟩
        · refine ⟨_, rfl, ?_⟩
          refine S_alloc (cs := #[(.int .i64 0), (.int .i64 0)]) hL Try_T63 rfl rfl ?_
          intro wd185 b186 hL
          refine ⟨(hL.sel [1] (by decide) rfl), ?_⟩
          refine DH.only 9 rfl (by kernel_rfl) (S_alloc (cs := #[(.int .i64 0), (.int .i64 0)]) hL Try_T63 rfl rfl ?_)
          intro wd187 b188 hL
          refine ⟨(hL.sel [2] (by decide) rfl), ?_⟩
          refine DH.only 11 rfl (by kernel_rfl) (S_storeN (l := [(.int .i64 x161.Wind), (.int .i64 x161.Pace)]) (cs' := #[(.int .i64 x161.Wind), (.int .i64 x161.Pace)]) hL 0 rfl Try_T63 rfl rfl (by simp [Value.oneCell']) rfl (by decide) rfl ?_)
          intro wd189 hL
          refine ⟨(hL.sel [2] (by decide) rfl), ?_⟩
          refine DH.only 12 rfl (by kernel_rfl) (S_storeN (l := [(.int .i64 x167.Wind), (.int .i64 x167.Pace)]) (cs' := #[(.int .i64 x167.Wind), (.int .i64 x167.Pace)]) hL 1 rfl Try_T63 rfl rfl (by simp [Value.oneCell']) rfl (by decide) rfl ?_)
          intro wd190 hL
          refine ⟨(hL.sel [2] (by decide) rfl), ?_⟩
          refine DH.done (by kernel_rfl) ?_
          refine CW.seq ?_
          refine CW.regionL ?_
          refine OW.cons (OP.val (v := (.int .i64 a1)) rfl (x_mv f140) ?_)
          refine OW.cons (OP.val (v := (.pointer (some ⟨b186, 0, none⟩))) rfl (x_fieldAddr (fsz := 1) 0 0 0 Try.underlying63 rfl Try_T2 rfl rfl rfl) ?_)
          refine OW.cons (OP.val (v := (.int .i64 x167.Wind)) rfl (x_load1 Try.underlying2 rfl rfl (hL.cellB 1 rfl rfl)) ?_)
          refine OW.cons (OP.val (v := (.bool (decide (a1 ≤ x167.Wind)))) rfl (x_leq rfl rfl) ?_)
          refine OW.nil ?_
          refine CW.condM (t := decide (a1 ≤ x167.Wind)) rfl hm (fun hb191 hm => ?_) (fun hb191 hm => ?_)
          · refine CW.seq ?_
            refine CW.draw Try_mixed ?_
            have hL := hL.call (Mod.drew _)
            refine DW.pre (fuel := 0) (fin := (((((((((((((((((((((Array.replicate 20 false).setIfInBounds 0 true).setIfInBounds 1 true).setIfInBounds 2 true).setIfInBounds 3 true).setIfInBounds 4 true).setIfInBounds 5 true).setIfInBounds 6 true).setIfInBounds 7 true).setIfInBounds 8 true).setIfInBounds 9 true).setIfInBounds 10 true).setIfInBounds 11 true).setIfInBounds 12 true).setIfInBounds 13 true).setIfInBounds 14 true).setIfInBounds 15 true).setIfInBounds 16 true).setIfInBounds 17 true).setIfInBounds 18 true).setIfInBounds 19 true)) (C := fun w' => Mod None_ _ w') [0, 1, 2, 3, 4, 5, 6, 7, 8, 9, 10, 11, 12, 13, 14, 15, 16, 17, 18, 19] (Mod.refl _ _) (by kernel_rfl) (by kernel_rfl) ?_
            refine QW.cons rfl (QP.val (v := (.pointer (some ⟨b188, 1, none⟩))) rfl (fun w' hm' => x_fieldAddr (fsz := 1) 0 1 1 Try.underlying63 rfl Try_T2 rfl rfl rfl) ?_)
            refine QW.cons rfl (QP.val (v := (.int .i64 x161.Pace)) rfl (fun w' hm' => x_load1 Try.underlying2 rfl rfl ((hL.call hm').cellB 0 rfl rfl)) ?_)
            refine QW.cons rfl (QP.val (v := (.pointer (some ⟨b186, 1, none⟩))) rfl (fun w' hm' => x_fieldAddr (fsz := 1) 0 1 1 Try.underlying63 rfl Try_T2 rfl rfl rfl) ?_)
            refine QW.cons rfl (QP.val (v := (.int .i64 x167.Pace)) rfl (fun w' hm' => x_load1 Try.underlying2 rfl rfl ((hL.call hm').cellB 1 rfl rfl)) ?_)
            refine QW.cons rfl (QP.val (v := (.pointer (some ⟨b188, 1, none⟩))) rfl (fun w' hm' => x_fieldAddr (fsz := 1) 0 1 1 Try.underlying63 rfl Try_T2 rfl rfl rfl) ?_)
            refine QW.cons rfl (QP.val (v := (.int .i64 x161.Pace)) rfl (fun w' hm' => x_load1 Try.underlying2 rfl rfl ((hL.call hm').cellB 0 rfl rfl)) ?_)
            refine QW.cons rfl (QP.val (v := (.int .i64 (w64 (x167.Pace - x161.Pace)))) rfl (fun w' hm' => x_sub rfl rfl) ?_)
            refine QW.cons rfl (QP.val (v := (.int .i64 a1)) rfl (fun w' hm' => x_mv f140) ?_)
            refine QW.cons rfl (QP.val (v := (.pointer (some ⟨b188, 0, none⟩))) rfl (fun w' hm' => x_fieldAddr (fsz := 1) 0 0 0 Try.underlying63 rfl Try_T2 rfl rfl rfl) ?_)
            refine QW.cons rfl (QP.val (v := (.int .i64 x161.Wind)) rfl (fun w' hm' => x_load1 Try.underlying2 rfl rfl ((hL.call hm').cellB 0 rfl rfl)) ?_)
            refine QW.cons rfl (QP.val (v := (.int .i64 (w64 (a1 - x161.Wind)))) rfl (fun w' hm' => x_sub rfl rfl) ?_)
            refine QW.cons rfl (QP.val (v := (.int .i64 (w64 ((w64 (x167.Pace - x161.Pace)) * (w64 (a1 - x161.Wind)))))) rfl (fun w' hm' => x_mul rfl rfl) ?_)
            refine QW.cons rfl (QP.val (v := (.pointer (some ⟨b186, 0, none⟩))) rfl (fun w' hm' => x_fieldAddr (fsz := 1) 0 0 0 Try.underlying63 rfl Try_T2 rfl rfl rfl) ?_)
            refine QW.cons rfl (QP.val (v := (.int .i64 x167.Wind)) rfl (fun w' hm' => x_load1 Try.underlying2 rfl rfl ((hL.call hm').cellB 1 rfl rfl)) ?_)
            refine QW.cons rfl (QP.val (v := (.pointer (some ⟨b188, 0, none⟩))) rfl (fun w' hm' => x_fieldAddr (fsz := 1) 0 0 0 Try.underlying63 rfl Try_T2 rfl rfl rfl) ?_)
            refine QW.cons rfl (QP.val (v := (.int .i64 x161.Wind)) rfl (fun w' hm' => x_load1 Try.underlying2 rfl rfl ((hL.call hm').cellB 0 rfl rfl)) ?_)
            refine QW.cons rfl (QP.val (v := (.int .i64 (w64 (x167.Wind - x161.Wind)))) rfl (fun w' hm' => x_sub rfl rfl) ?_)
            obtain ⟨x192, hx193, hm⟩ := bndE hm
            refine QW.cons rfl (QP.call (v := (.int .i64 x192)) rfl (fun w' hm' => x_call (vs := [(.int .i64 (w64 ((w64 (x167.Pace - x161.Pace)) * (w64 (a1 - x161.Wind))))), (.int .i64 (w64 (x167.Wind - x161.Wind)))]) Try_C80 ⟨rfl, rfl, trivial⟩) (fun w' hm' => (M.spec_l01Floor_ok w' (w64 ((w64 (x167.Pace - x161.Pace)) * (w64 (a1 - x161.Wind)))) (w64 (x167.Wind - x161.Wind)) hx193).mono (fun e w'' h => ⟨h.1, hm'.trans h.2.mod⟩)) ?_)
            refine QW.cons rfl (QP.val (v := (.int .i64 (w64 (x161.Pace + x192)))) rfl (fun w' hm' => x_add rfl rfl) ?_)
            refine QW.cons rfl (QP.val (v := (.int .i64 (w64 (x161.Pace + x192)))) rfl (fun w' hm' => x_assign) ?_)
            refine QW.nil ?_
            intro wd194 hmod
            have hL := hL.call hmod
            refine DW.done (by kernel_rfl) ?_
            refine CW.ret ?_
            obtain rfl := Option.some.inj hm
            have hm := hr123 _ rfl
            obtain rfl := Option.some.inj hm
            exact RR1 rfl rfl ⟨rfl, hL.fresh 2 rfl [] (by decide) (by decide) rfl⟩
          · refine CW.skip ?_
            refine CW.regionL ?_
            refine OW.cons (OP.val (v := (.int .i64 s_l1)) rfl (x_mv f141) ?_)
            refine OW.cons (OP.val (v := (.int .i64 (w64 (s_l1 + 1)))) rfl (x_add rfl rfl) ?_)
            refine OW.cons (OP.val (v := (.int .i64 (w64 (s_l1 + 1)))) rfl (x_assign) ?_)
            refine OW.nil ?_
            have hL := hL.sel [2] (by decide) rfl
            obtain rfl := Option.some.inj hm
            exact ⟨_, rfl, ⟨f139, f140, rfl, hL⟩⟩
      · refine CW.exit ?_
        refine XJ.hit ?_
        obtain rfl := Option.some.inj hm
        exact ⟨_, rfl, ⟨f139, f140, f141, hL⟩⟩

theorem M.spec_l24Time_ok (w0 : World) (a0 : List CurvePoint) {v1 : Value} (h2 : rdL (· < w0.heap.size) w0 v1 a0) (a1 : Int) (a2 : Int) {r : Int} (hm : M.spec_l24Time a0 a1 a2 = some r) :
    Calls Try.prog 68 #[v1, (.int .i64 a1), (.int .i64 a2)] w0 fun e w' => e = .returned (.int .i64 r) ∧ Fresh w0 w' [] := by
  unfold M.spec_l24Time at hm
  refine calls_CW (args := [v1, (.int .i64 a1), (.int .i64 a2)]) Try.func68 rfl rfl rfl ?_
  have hL := Hp.start w0
  refine CW.seq ?_
  refine CW.regionL ?_
  refine OW.cons (OP.val (v := (.int .i64 0)) rfl (x_assign) ?_)
  refine OW.nil ?_
  refine CW.seq ?_
  refine CW.regionL ?_
  refine OW.cons (OP.val (v := v1) rfl (x_move) ?_)
  refine OW.cons (OP.val (v := (.int .i64 a1)) rfl (x_move) ?_)
  obtain ⟨x3, hx4, hm⟩ := bndE hm
  refine OW.cons (OP.call rfl (x_call (vs := [v1, (.int .i64 a1)]) Try_C72 ⟨rfl, rfl, trivial⟩) (M.spec_l24Pace_ok _ a0 (hL.rdS 0 rfl h2) a1 hx4) ?_)
  rintro e5 wd6 ⟨rfl, hF7⟩
  refine ⟨_, rfl, ?_⟩
  have hL := hL.pushAll hF7
  simp only [List.cons_append, List.nil_append, List.set_cons_zero, List.set_cons_succ] at hL
  refine OW.cons (OP.val (v := (.int .i64 a2)) rfl (x_move) ?_)
  refine OW.cons (OP.val (v := (.int .i64 (w64 (x3 * a2)))) rfl (x_mul rfl rfl) ?_)
  refine OW.cons (OP.val (v := (.int .i64 (w64 ((w64 (x3 * a2)) + 10000)))) rfl (x_add rfl rfl) ?_)
  refine OW.cons (OP.val (v := (.int .i64 (w64 ((w64 ((w64 (x3 * a2)) + 10000)) - 1)))) rfl (x_sub rfl rfl) ?_)
  refine OW.cons (OP.val (v := (.int .i64 (w64 ((w64 ((w64 ((w64 (x3 * a2)) + 10000)) - 1)).tdiv 10000)))) rfl (x_quo rfl rfl (by decide)) ?_)
  refine OW.cons (OP.val (v := (.int .i64 (w64 ((w64 ((w64 ((w64 (x3 * a2)) + 10000)) - 1)).tdiv 10000)))) rfl (x_assign) ?_)
  refine OW.nil ?_
  refine CW.ret ?_
  obtain rfl := Option.some.inj hm
  exact RR1 rfl rfl ⟨rfl, hL.fresh 0 rfl [] (by decide) (by decide) rfl⟩

theorem M.spec_l24Wind_ok (w0 : World) (a0 : List CurvePoint) {v1 : Value} (h2 : rdL (· < w0.heap.size) w0 v1 a0) (a1 : Int) (a2 : Int) {r : Int} (hm : M.spec_l24Wind a0 a1 a2 = some r) :
    Calls Try.prog 38 #[v1, (.int .i64 a1), (.int .i64 a2)] w0 fun e w' => e = .returned (.int .i64 r) ∧ Fresh w0 w' [] := by
  unfold M.spec_l24Wind at hm
  refine calls_CW (args := [v1, (.int .i64 a1), (.int .i64 a2)]) Try.func38 rfl rfl rfl ?_
  have hL := Hp.start w0
  refine CW.seq ?_
  refine CW.regionL ?_
  refine OW.cons (OP.val (v := (.int .i64 0)) rfl (x_assign) ?_)
  refine OW.nil ?_
  refine CW.seq ?_
  refine CW.seq ?_
  refine CW.regionL ?_
  refine OW.cons (OP.val (v := (.int .i64 0)) rfl (x_assign) ?_)
  refine OW.nil ?_
  obtain ⟨o19, ho20, hm⟩ := bndE hm
  refine CW.loopB (fun (s_l1 : Int) (F : Fr) (w : World) => F 0 = v1 ∧ F 1 = (.int .i64 a1) ∧ F 2 = (.int .i64 a2) ∧ F 7 = (.int .i64 s_l1) ∧ Hp w0 [Ent.snap w0 w0.heap.size] w) (fun o => outc o (fun x => some x) (fun s => M.spec_l24Wind_a1 s) = some r) ho20 hm ⟨rfl, rfl, rfl, rfl, hL⟩ ?_ ?_
  · intro s_l1 F21 wd22 hJ hm
    have hm : M.spec_l24Wind_a1 s_l1 = some r := hm
    unfold M.spec_l24Wind_a1 at hm
    obtain ⟨f23, f24, f25, f26, hL⟩ := hJ
    refine CW.seq ?_
    refine CW.regionL ?_
    refine OW.cons (OP.val (v := (.int .i64 (-1))) rfl (x_assign) ?_)
    refine OW.nil ?_
    refine CW.ret ?_
    obtain rfl := Option.some.inj hm
    exact RR1 rfl rfl ⟨rfl, hL.fresh 0 rfl [] (by decide) (by decide) rfl⟩
  · intro s_l1 F27 wd28 t17 hJ hm hr18
    unfold M.spec_l24Wind_l1 at hm
    obtain ⟨f29, f30, f31, f32, hL⟩ := hJ
    refine CW.seq ?_
    refine CW.seq ?_
    refine CW.regionL ?_
    refine OW.cons (OP.val (v := (.int .i64 s_l1)) rfl (x_mv f32) ?_)
    refine OW.cons (OP.val (v := (.bool (decide (s_l1 ≤ 1000)))) rfl (x_leq rfl rfl) ?_)
    refine OW.nil ?_
    refine CW.condM (t := decide (s_l1 ≤ 1000)) rfl hm (fun hb33 hm => ?_) (fun hb33 hm => ?_)
    · refine CW.skip ?_
      refine CW.seq ?_
      refine CW.block ?_
      refine CW.seq ?_
      refine CW.regionL ?_
      refine OW.cons (OP.val (v := v1) rfl (x_mv f29) ?_)
      refine OW.cons (OP.val (v := (.int .i64 s_l1)) rfl (x_mv f32) ?_)
      refine OW.cons (OP.val (v := (.int .i64 a2)) rfl (x_mv f31) ?_)
      obtain ⟨x34, hx35, hm⟩ := bndE hm
      refine OW.cons (OP.call rfl (x_call (vs := [v1, (.int .i64 s_l1), (.int .i64 a2)]) Try_C68 ⟨rfl, rfl, rfl, trivial⟩) (M.spec_l24Time_ok _ a0 (hL.rdS 0 rfl h2) s_l1 a2 hx35) ?_)
      rintro e36 wd37 ⟨rfl, hF38⟩
      refine ⟨_, rfl, ?_⟩
      have hL := hL.pushAll hF38
      simp only [List.cons_append, List.nil_append, List.set_cons_zero, List.set_cons_succ] at hL
      refine OW.cons (OP.val (v := (.int .i64 a1)) rfl (x_mv f30) ?_)
      refine OW.cons (OP.val (v := (.bool (decide (x34 ≤ a1)))) rfl (x_leq rfl rfl) ?_)
      refine OW.nil ?_
      refine CW.condM (t := decide (x34 ≤ a1)) rfl hm (fun hb39 hm => ?_) (fun hb39 hm => ?_)
      · refine CW.seq ?_
        refine CW.regionL ?_
        refine OW.cons (OP.val (v := (.int .i64 s_l1)) rfl (x_mv f32) ?_)
        refine OW.cons (OP.val (v := (.int .i64 s_l1)) rfl (x_assign) ?_)
        refine OW.nil ?_
        refine CW.ret ?_
        obtain rfl := Option.some.inj hm
        have hm := hr18 _ rfl
        obtain rfl := Option.some.inj hm
        exact RR1 rfl rfl ⟨rfl, hL.fresh 0 rfl [] (by decide) (by decide) rfl⟩
      · refine CW.skip ?_
        refine CW.regionL ?_
        refine OW.cons (OP.val (v := (.int .i64 s_l1)) rfl (x_mv f32) ?_)
        refine OW.cons (OP.val (v := (.int .i64 (w64 (s_l1 + 1)))) rfl (x_add rfl rfl) ?_)
        refine OW.cons (OP.val (v := (.int .i64 (w64 (s_l1 + 1)))) rfl (x_assign) ?_)
        refine OW.nil ?_
        obtain rfl := Option.some.inj hm
        exact ⟨_, rfl, ⟨f29, f30, f31, rfl, hL⟩⟩
    · refine CW.exit ?_
      refine XJ.hit ?_
      obtain rfl := Option.some.inj hm
      exact ⟨_, rfl, ⟨f29, f30, f31, f32, hL⟩⟩

theorem M.impl_within_ok (w0 : World) (a0 : Int) (a1 : Int) (a2 : Int) {r : Bool} (hm : M.impl_within a0 a1 a2 = some r) :
    Calls Try.prog 54 #[(.int .i64 a0), (.int .i64 a1), (.int .i64 a2)] w0 fun e w' => e = .returned (.bool r) ∧ Fresh w0 w' [] := by
  unfold M.impl_within at hm
  refine calls_CW (args := [(.int .i64 a0), (.int .i64 a1), (.int .i64 a2)]) Try.func54 rfl rfl rfl ?_
  have hL := Hp.start w0
  refine CW.seq ?_
  refine CW.regionL ?_
  refine OW.cons (OP.val (v := (.bool false)) rfl (x_assign) ?_)
  refine OW.nil ?_
  refine CW.seqJ (fun (s_j1 : Bool) (F : Fr) (w : World) => F 6 = (.bool s_j1) ∧ Hp w0 [Ent.snap w0 w0.heap.size] w) (fun s_j1 => M.impl_within_j1 s_j1 = some r) ?_ ?_
  · refine CW.regionL ?_
    refine OW.cons (OP.val (v := (.int .i64 a0)) rfl (x_move) ?_)
    refine OW.cons (OP.val (v := (.int .i64 a1)) rfl (x_move) ?_)
    refine OW.cons (OP.val (v := (.bool (decide (a1 ≤ a0)))) rfl (x_geq rfl rfl) ?_)
    refine OW.cons (OP.val (v := (.bool (decide (a1 ≤ a0)))) rfl (x_move) ?_)
    refine ifB_elim hm (fun hb5 hm => ?_) (fun hb5 hm => ?_)
    · refine OW.cons (OP.yes' rfl rfl hb5 (OP.val (v := (.int .i64 a0)) rfl (x_move) ?_))
      refine OW.cons (OP.yes' rfl rfl hb5 (OP.val (v := (.int .i64 a2)) rfl (x_move) ?_))
      refine OW.cons (OP.yes' rfl rfl hb5 (OP.val (v := (.bool (decide (a0 ≤ a2)))) rfl (x_leq rfl rfl) ?_))
      refine OW.cons (OP.val (v := (.bool (decide (a0 ≤ a2)))) rfl (x_pickT' rfl hb5 rfl) ?_)
      refine OW.cons (OP.val (v := (.bool (decide (a0 ≤ a2)))) rfl (x_assign) ?_)
      refine OW.nil ?_
      exact ⟨decide (a0 ≤ a2), hm, ⟨rfl, hL⟩⟩
    · refine OW.cons (OP.no' rfl rfl hb5 rfl ?_)
      refine OW.cons (OP.no' rfl rfl hb5 rfl ?_)
      refine OW.cons (OP.no' rfl rfl hb5 rfl ?_)
      refine OW.cons (OP.val (v := (.bool false)) rfl (x_pickF' rfl hb5 rfl) ?_)
      refine OW.cons (OP.val (v := (.bool false)) rfl (x_assign) ?_)
      refine OW.nil ?_
      exact ⟨false, hm, ⟨rfl, hL⟩⟩
  · intro s_j1 F2 wd3 hJ hm
    unfold M.impl_within_j1 at hm
    obtain ⟨f4, hL⟩ := hJ
    refine CW.ret ?_
    obtain rfl := Option.some.inj hm
    exact RR1 rfl f4 ⟨rfl, hL.fresh 0 rfl [] (by decide) (by decide) rfl⟩

theorem M.impl_IsCurve_ok (w0 : World) (a0 : List CurvePoint) {v1 : Value} (h2 : rdL (· < w0.heap.size) w0 v1 a0) {r : Bool} (hm : M.impl_IsCurve a0 = some r) :
    Calls Try.prog 40 #[v1] w0 fun e w' => e = .returned (.bool r) ∧ Fresh w0 w' [] := by
  unfold M.impl_IsCurve at hm
  refine calls_CW (args := [v1]) Try.func40 rfl rfl rfl ?_
  have hL := Hp.start w0
  refine CW.seq ?_
  refine CW.regionL ?_
  refine OW.cons (OP.val (v := (.bool false)) rfl (x_assign) ?_)
  refine OW.nil ?_
  refine CW.seq ?_
  refine CW.seq ?_
  refine CW.regionL ?_
  refine OW.cons (OP.val (v := v1) rfl (x_move) ?_)
  refine OW.cons (OP.val (v := (.int .i64 (a0.length : Int))) rfl (x_lenR Try.underlying26 rfl (hL.rdS 0 rfl h2)) ?_)
  refine OW.cons (OP.val (v := (.int .i64 0)) rfl (x_move) ?_)
  refine OW.nil ?_
  obtain ⟨o141, ho142, hm⟩ := bndE hm
  refine CW.loopB (fun (s_l1 : Int) (F : Fr) (w : World) => F 0 = v1 ∧ F 5 = v1 ∧ F 6 = (.int .i64 (a0.length : Int)) ∧ F 7 = (.int .i64 s_l1) ∧ Hp w0 [Ent.snap w0 w0.heap.size] w) (fun o => outc o (fun x => some x) (fun s => M.impl_IsCurve_a1 a0 s) = some r) ho142 hm ⟨rfl, rfl, rfl, rfl, hL⟩ ?_ ?_
  · intro s_l1 F143 wd144 hJ hm
    have hm : M.impl_IsCurve_a1 a0 s_l1 = some r := hm
    unfold M.impl_IsCurve_a1 at hm
    obtain ⟨f145, f146, f147, f148, hL⟩ := hJ
    refine CW.seqJ (fun (s_j1 : Bool) (F : Fr) (w : World) => F 2 = (.bool s_j1) ∧ Hp w0 [Ent.snap w0 w0.heap.size] w) (fun s_j1 => M.impl_IsCurve_j1 s_j1 = some r) ?_ ?_
    · refine CW.regionL ?_
      refine OW.cons (OP.val (v := v1) rfl (x_mv f145) ?_)
      refine OW.cons (OP.val (v := (.int .i64 (a0.length : Int))) rfl (x_lenR Try.underlying26 rfl (hL.rdS 0 rfl h2)) ?_)
      refine OW.cons (OP.val (v := (.bool (decide (2 ≤ (a0.length : Int))))) rfl (x_geq rfl rfl) ?_)
      refine OW.cons (OP.val (v := (.bool (decide (2 ≤ (a0.length : Int))))) rfl (x_move) ?_)
      refine ifB_elim hm (fun hb153 hm => ?_) (fun hb153 hm => ?_)
      · refine OW.cons (OP.yes' rfl rfl hb153 (OP.val (v := v1) rfl (x_mv f145) ?_))
        refine OW.cons (OP.yes' rfl rfl hb153 (OP.val (v := (.int .i64 (a0.length : Int))) rfl (x_lenR Try.underlying26 rfl (hL.rdS 0 rfl h2)) ?_))
        refine OW.cons (OP.yes' rfl rfl hb153 (OP.val (v := (.bool (decide ((a0.length : Int) ≤ 12)))) rfl (x_leq rfl rfl) ?_))
        refine OW.cons (OP.val (v := (.bool (decide ((a0.length : Int) ≤ 12)))) rfl (x_pickT' rfl hb153 rfl) ?_)
        refine OW.cons (OP.val (v := (.bool (decide ((a0.length : Int) ≤ 12)))) rfl (x_assign) ?_)
        refine OW.nil ?_
        exact ⟨decide ((a0.length : Int) ≤ 12), hm, ⟨rfl, hL⟩⟩
      · refine OW.cons (OP.no' rfl rfl hb153 rfl ?_)
        refine OW.cons (OP.no' rfl rfl hb153 rfl ?_)
        refine OW.cons (OP.no' rfl rfl hb153 rfl ?_)
        refine OW.cons (OP.val (v := (.bool false)) rfl (x_pickF' rfl hb153 rfl) ?_)
        refine OW.cons (OP.val (v := (.bool false)) rfl (x_assign) ?_)
        refine OW.nil ?_
        exact ⟨false, hm, ⟨rfl, hL⟩⟩
    · intro s_j1 F150 wd151 hJ hm
      unfold M.impl_IsCurve_j1 at hm
      obtain ⟨f152, hL⟩ := hJ
      refine CW.ret ?_
      obtain rfl := Option.some.inj hm
      exact RR1 rfl f152 ⟨rfl, hL.fresh 0 rfl [] (by decide) (by decide) rfl⟩
  · intro s_l1 F154 wd155 t139 hJ hm hr140
    unfold M.impl_IsCurve_l1 at hm
    obtain ⟨f156, f157, f158, f159, hL⟩ := hJ
    refine CW.seq ?_
    refine CW.regionL ?_
    refine OW.cons (OP.val (v := (.bool (decide (s_l1 < (a0.length : Int))))) rfl (x_lss f159 f158) ?_)
    refine OW.nil ?_
    refine CW.seq ?_
    refine CW.condM (t := decide (s_l1 < (a0.length : Int))) rfl hm (fun hb160 hm => ?_) (fun hb160 hm => ?_)
    · refine CW.skip ?_
      refine CW.seq ?_
      refine CW.block ?_
      refine CW.seq ?_
      refine CW.regionL ?_
      refine OW.cons (OP.val (v := (.int .i64 s_l1)) rfl (x_mv f159) ?_)
      obtain ⟨x161, ha162, hm⟩ := bndE hm
      obtain ⟨hz163, ha162⟩ := idxE ha162
      obtain ⟨b164, q165, hix166⟩ := rdL_ix (hL.rdS 0 rfl h2) hz163 ha162
      refine OW.cons (OP.val (v := (.pointer (some ⟨b164, q165, none⟩))) rfl (x_ix Try.underlying26 Try_T63 f157 f159 hix166) ?_)
      refine OW.cons (OP.val (v := (.agg #[(.int .i64 x161.Wind), (.int .i64 x161.Pace)])) rfl (x_loadN (cs := [(.int .i64 x161.Wind), (.int .i64 x161.Pace)]) Try.underlying63 Try_T63 rfl rfl (rdF_cells (hL.rdS 0 rfl h2) hix166 ha162)) ?_)
      refine OW.cons (S_alloc (cs := #[(.int .i64 0), (.int .i64 0)]) hL Try_T63 rfl rfl ?_)
      intro wd167 b168 hL
      refine OW.cons (OP.val (v := (.int .i64 s_l1)) rfl (x_assign) ?_)
      refine OW.cons (S_storeN (l := [(.int .i64 x161.Wind), (.int .i64 x161.Pace)]) (cs' := #[(.int .i64 x161.Wind), (.int .i64 x161.Pace)]) hL 0 rfl Try_T63 rfl rfl (by simp [Value.oneCell']) rfl (by decide) rfl ?_)
      intro wd169 hL
      refine OW.nil ?_
      refine CW.seqJ (fun (s_j2 : Bool) (F : Fr) (w : World) => F 0 = v1 ∧ F 5 = v1 ∧ F 6 = (.int .i64 (a0.length : Int)) ∧ F 7 = (.int .i64 s_l1) ∧ F 47 = (.bool s_j2) ∧ Hp w0 [Ent.blk b168 63 #[(.int .i64 x161.Wind), (.int .i64 x161.Pace)], Ent.snap w0 w0.heap.size] w) (fun s_j2 => M.impl_IsCurve_j2 s_l1 s_j2 = some t139) ?_ ?_
      · refine CW.draw Try_mixed ?_
        have hL := hL.call (Mod.drew _)
        refine DW.pre (fuel := 0) (fin := (((((((((((((((((((((((((((((((((((((Array.replicate 36 false).setIfInBounds 0 true).setIfInBounds 1 true).setIfInBounds 2 true).setIfInBounds 3 true).setIfInBounds 4 true).setIfInBounds 5 true).setIfInBounds 6 true).setIfInBounds 7 true).setIfInBounds 8 true).setIfInBounds 9 true).setIfInBounds 10 true).setIfInBounds 11 true).setIfInBounds 12 true).setIfInBounds 13 true).setIfInBounds 14 true).setIfInBounds 15 true).setIfInBounds 16 true).setIfInBounds 17 true).setIfInBounds 18 true).setIfInBounds 19 true).setIfInBounds 20 true).setIfInBounds 21 true).setIfInBounds 22 true).setIfInBounds 23 true).setIfInBounds 24 true).setIfInBounds 25 true).setIfInBounds 26 true).setIfInBounds 27 true).setIfInBounds 28 true).setIfInBounds 29 true).setIfInBounds 30 true).setIfInBounds 31 true).setIfInBounds 32 true).setIfInBounds 33 true).setIfInBounds 34 true).setIfInBounds 35 true)) (C := fun w' => Mod None_ _ w') [0, 1, 2, 3, 4, 5, 6, 7, 8, 9, 10, 11, 12, 13, 14, 15, 16, 17, 18, 19, 20, 21, 22, 23, 24, 25, 26, 27, 28, 29, 30, 31, 32, 33, 34, 35] (Mod.refl _ _) (by kernel_rfl) (by kernel_rfl) ?_
        refine QW.cons rfl (QP.val (v := (.pointer (some ⟨b168, 0, none⟩))) rfl (fun w' hm' => x_fieldAddr (fsz := 1) 0 0 0 Try.underlying63 rfl Try_T2 rfl rfl rfl) ?_)
        refine QW.cons rfl (QP.val (v := (.int .i64 x161.Wind)) rfl (fun w' hm' => x_load1 Try.underlying2 rfl rfl ((hL.call hm').cellB 0 rfl rfl)) ?_)
        obtain ⟨x203, hx204, hm⟩ := bndE hm
        refine QW.cons rfl (QP.call (v := (.bool x203)) rfl (fun w' hm' => x_call (vs := [(.int .i64 x161.Wind), (.int .i64 0), (.int .i64 1000)]) Try_C54 ⟨rfl, rfl, rfl, trivial⟩) (fun w' hm' => (M.impl_within_ok w' x161.Wind 0 1000 hx204).mono (fun e w'' h => ⟨h.1, hm'.trans h.2.mod⟩)) ?_)
        refine QW.cons rfl (QP.val (v := (.bool (!x203))) rfl (fun w' hm' => x_not rfl) ?_)
        refine QW.cons rfl (QP.val (v := (.bool (!x203))) rfl (fun w' hm' => x_move) ?_)
        refine ifB_elim hm (fun hb205 hm => ?_) (fun hb205 hm => ?_)
        · refine QW.cons rfl (QP.no' rfl rfl hb205 rfl ?_)
          refine QW.cons rfl (QP.no' rfl rfl hb205 rfl ?_)
          refine QW.cons rfl (QP.no' rfl rfl hb205 rfl ?_)
          refine QW.cons rfl (QP.no' rfl rfl hb205 rfl ?_)
          refine QW.cons rfl (QP.val (v := (.bool true)) rfl (fun w' hm' => x_pickT' rfl hb205 rfl) ?_)
          refine QW.cons rfl (QP.val (v := (.bool true)) rfl (fun w' hm' => x_move) ?_)
          refine QW.cons rfl (QP.no' rfl rfl rfl rfl ?_)
          refine QW.cons rfl (QP.no' rfl rfl rfl rfl ?_)
          refine QW.cons rfl (QP.no' rfl rfl rfl rfl ?_)
          refine QW.cons rfl (QP.noU rfl rfl rfl ?_)
          refine QW.cons rfl (QP.noU rfl rfl rfl ?_)
          refine QW.cons rfl (QP.noU rfl rfl rfl ?_)
          refine QW.cons rfl (QP.noU rfl rfl rfl ?_)
          refine QW.cons rfl (QP.noU rfl rfl rfl ?_)
          refine QW.cons rfl (QP.noU rfl rfl rfl ?_)
          refine QW.cons rfl (QP.noU rfl rfl rfl ?_)
          refine QW.cons rfl (QP.noU rfl rfl rfl ?_)
          refine QW.cons rfl (QP.noU rfl rfl rfl ?_)
          refine QW.cons rfl (QP.noU rfl rfl rfl ?_)
          refine QW.cons rfl (QP.noU rfl rfl rfl ?_)
          refine QW.cons rfl (QP.noU rfl rfl rfl ?_)
          refine QW.cons rfl (QP.noU rfl rfl rfl ?_)
          refine QW.cons rfl (QP.noU rfl rfl rfl ?_)
          refine QW.cons rfl (QP.noU rfl rfl rfl ?_)
          refine QW.cons rfl (QP.noU rfl rfl rfl ?_)
          refine QW.cons rfl (QP.noU rfl rfl rfl ?_)
          refine QW.cons rfl (QP.noU rfl rfl rfl ?_)
          refine QW.cons rfl (QP.noU rfl rfl rfl ?_)
          refine QW.cons rfl (QP.noU rfl rfl rfl ?_)
          refine QW.cons rfl (QP.no' rfl rfl rfl rfl ?_)
          refine QW.cons rfl (QP.val (v := (.bool true)) rfl (fun w' hm' => x_pickT' rfl rfl rfl) ?_)
          refine QW.nil ?_
          intro wd206 hmod
          have hL := hL.call hmod
          refine DW.done (by kernel_rfl) ?_
          exact ⟨true, hm, ⟨f156, f157, f158, f159, rfl, hL⟩⟩
        · refine QW.cons rfl (QP.yes' rfl rfl hb205 (QP.val (v := (.pointer (some ⟨b168, 1, none⟩))) rfl (fun w' hm' => x_fieldAddr (fsz := 1) 0 1 1 Try.underlying63 rfl Try_T2 rfl rfl rfl) ?_))
          refine QW.cons rfl (QP.yes' rfl rfl hb205 (QP.val (v := (.int .i64 x161.Pace)) rfl (fun w' hm' => x_load1 Try.underlying2 rfl rfl ((hL.call hm').cellB 0 rfl rfl)) ?_))
          obtain ⟨x207, hx208, hm⟩ := bndE hm
          refine QW.cons rfl (QP.yes' rfl rfl hb205 (QP.call (v := (.bool x207)) rfl (fun w' hm' => x_call (vs := [(.int .i64 x161.Pace), (.int .i64 1), (.int .i64 1000000)]) Try_C54 ⟨rfl, rfl, rfl, trivial⟩) (fun w' hm' => (M.impl_within_ok w' x161.Pace 1 1000000 hx208).mono (fun e w'' h => ⟨h.1, hm'.trans h.2.mod⟩)) ?_))
          refine QW.cons rfl (QP.yes' rfl rfl hb205 (QP.val (v := (.bool (!x207))) rfl (fun w' hm' => x_not rfl) ?_))
          refine QW.cons rfl (QP.val (v := (.bool (!x207))) rfl (fun w' hm' => x_pickF' rfl hb205 rfl) ?_)
          refine QW.cons rfl (QP.val (v := (.bool (!x207))) rfl (fun w' hm' => x_move) ?_)
          refine ifB_elim hm (fun hb209 hm => ?_) (fun hb209 hm => ?_)
          · refine QW.cons rfl (QP.no' rfl rfl hb209 rfl ?_)
            refine QW.cons rfl (QP.no' rfl rfl hb209 rfl ?_)
            refine QW.cons rfl (QP.no' rfl rfl hb209 rfl ?_)
            refine QW.cons rfl (QP.noU rfl rfl rfl ?_)
            refine QW.cons rfl (QP.noU rfl rfl rfl ?_)
            refine QW.cons rfl (QP.noU rfl rfl rfl ?_)
            refine QW.cons rfl (QP.noU rfl rfl rfl ?_)
            refine QW.cons rfl (QP.noU rfl rfl rfl ?_)
            refine QW.cons rfl (QP.noU rfl rfl rfl ?_)
            refine QW.cons rfl (QP.noU rfl rfl rfl ?_)
            refine QW.cons rfl (QP.noU rfl rfl rfl ?_)
            refine QW.cons rfl (QP.noU rfl rfl rfl ?_)
            refine QW.cons rfl (QP.noU rfl rfl rfl ?_)
            refine QW.cons rfl (QP.noU rfl rfl rfl ?_)
            refine QW.cons rfl (QP.noU rfl rfl rfl ?_)
            refine QW.cons rfl (QP.noU rfl rfl rfl ?_)
            refine QW.cons rfl (QP.noU rfl rfl rfl ?_)
            refine QW.cons rfl (QP.noU rfl rfl rfl ?_)
            refine QW.cons rfl (QP.noU rfl rfl rfl ?_)
            refine QW.cons rfl (QP.noU rfl rfl rfl ?_)
            refine QW.cons rfl (QP.noU rfl rfl rfl ?_)
            refine QW.cons rfl (QP.noU rfl rfl rfl ?_)
            refine QW.cons rfl (QP.noU rfl rfl rfl ?_)
            refine QW.cons rfl (QP.no' rfl rfl hb209 rfl ?_)
            refine QW.cons rfl (QP.val (v := (.bool true)) rfl (fun w' hm' => x_pickT' rfl hb209 rfl) ?_)
            refine QW.nil ?_
            intro wd210 hmod
            have hL := hL.call hmod
            refine DW.done (by kernel_rfl) ?_
            exact ⟨true, hm, ⟨f156, f157, f158, f159, rfl, hL⟩⟩
          · refine QW.cons rfl (QP.yes' rfl rfl hb209 (QP.val (v := (.int .i64 s_l1)) rfl (fun w' hm' => x_move) ?_))
            refine QW.cons rfl (QP.yes' rfl rfl hb209 (QP.val (v := (.bool (decide (0 < s_l1)))) rfl (fun w' hm' => x_gtr rfl rfl) ?_))
            refine QW.cons rfl (QP.yes' rfl rfl hb209 (QP.val (v := (.bool (decide (0 < s_l1)))) rfl (fun w' hm' => x_move) ?_))
            refine ifB_elim hm (fun hb211 hm => ?_) (fun hb211 hm => ?_)
            · refine QW.cons rfl (QP.yes' rfl rfl hb211 (QP.val (v := v1) rfl (fun w' hm' => x_mv f156) ?_))
              refine QW.cons rfl (QP.yes' rfl rfl hb211 (QP.val (v := (.int .i64 s_l1)) rfl (fun w' hm' => x_move) ?_))
              refine QW.cons rfl (QP.yes' rfl rfl hb211 (QP.val (v := (.int .i64 (w64 (s_l1 - 1)))) rfl (fun w' hm' => x_sub rfl rfl) ?_))
              obtain ⟨x212, ha213, hm⟩ := bndE hm
              obtain ⟨hz214, ha213⟩ := idxE ha213
              obtain ⟨b215, q216, hix217⟩ := rdL_ix (hL.rdS 1 rfl h2) hz214 ha213
              refine QW.cons rfl (QP.yes' rfl rfl hb211 (QP.val (v := (.pointer (some ⟨b215, q216, none⟩))) rfl (fun w' hm' => x_ix Try.underlying26 Try_T63 rfl rfl hix217) ?_))
              refine QW.cons rfl (QP.yes' rfl rfl hb211 (QP.val (v := (.pointer (some ⟨b215, q216, none⟩))) rfl (fun w' hm' => x_fieldAddr (fsz := 1) q216 0 q216 Try.underlying63 rfl Try_T2 rfl rfl rfl) ?_))
              refine QW.cons rfl (QP.yes' rfl rfl hb211 (QP.val (v := (.int .i64 x212.Wind)) rfl (fun w' hm' => x_load1 Try.underlying2 rfl rfl (rdF_cells ((hL.call hm').rdS 1 rfl h2) hix217 ha213 0 _ rfl)) ?_))
              refine QW.cons rfl (QP.yes' rfl rfl hb211 (QP.val (v := (.pointer (some ⟨b168, 0, none⟩))) rfl (fun w' hm' => x_fieldAddr (fsz := 1) 0 0 0 Try.underlying63 rfl Try_T2 rfl rfl rfl) ?_))
              refine QW.cons rfl (QP.yes' rfl rfl hb211 (QP.val (v := (.int .i64 x161.Wind)) rfl (fun w' hm' => x_load1 Try.underlying2 rfl rfl ((hL.call hm').cellB 0 rfl rfl)) ?_))
              refine QW.cons rfl (QP.yes' rfl rfl hb211 (QP.val (v := (.bool (decide (x161.Wind ≤ x212.Wind)))) rfl (fun w' hm' => x_geq rfl rfl) ?_))
              refine QW.cons rfl (QP.yes' rfl rfl hb211 (QP.val (v := (.bool (decide (x161.Wind ≤ x212.Wind)))) rfl (fun w' hm' => x_move) ?_))
              refine ifB_elim hm (fun hb218 hm => ?_) (fun hb218 hm => ?_)
              · refine QW.cons rfl (QP.no' rfl rfl hb218 rfl ?_)
                refine QW.cons rfl (QP.no' rfl rfl hb218 rfl ?_)
                refine QW.cons rfl (QP.no' rfl rfl hb218 rfl ?_)
                refine QW.cons rfl (QP.no' rfl rfl hb218 rfl ?_)
                refine QW.cons rfl (QP.no' rfl rfl hb218 rfl ?_)
                refine QW.cons rfl (QP.no' rfl rfl hb218 rfl ?_)
                refine QW.cons rfl (QP.no' rfl rfl hb218 rfl ?_)
                refine QW.cons rfl (QP.no' rfl rfl hb218 rfl ?_)
                refine QW.cons rfl (QP.no' rfl rfl hb218 rfl ?_)
                refine QW.cons rfl (QP.yes' rfl rfl hb211 (QP.val (v := (.bool true)) rfl (fun w' hm' => x_pickT' rfl hb218 rfl) ?_))
                refine QW.cons rfl (QP.yes' rfl rfl hb209 (QP.val (v := (.bool true)) rfl (fun w' hm' => x_pickT' rfl hb211 rfl) ?_))
                refine QW.cons rfl (QP.val (v := (.bool true)) rfl (fun w' hm' => x_pickF' rfl hb209 rfl) ?_)
                refine QW.nil ?_
                intro wd219 hmod
                have hL := hL.call hmod
                refine DW.done (by kernel_rfl) ?_
                exact ⟨true, hm, ⟨f156, f157, f158, f159, rfl, hL⟩⟩
              · refine QW.cons rfl (QP.yes' rfl rfl hb218 (QP.val (v := v1) rfl (fun w' hm' => x_mv f156) ?_))
                refine QW.cons rfl (QP.yes' rfl rfl hb218 (QP.val (v := (.int .i64 s_l1)) rfl (fun w' hm' => x_move) ?_))
                refine QW.cons rfl (QP.yes' rfl rfl hb218 (QP.val (v := (.int .i64 (w64 (s_l1 - 1)))) rfl (fun w' hm' => x_sub rfl rfl) ?_))
                obtain ⟨x220, ha221, hm⟩ := bndE hm
                obtain ⟨hz222, ha221⟩ := idxE ha221
                obtain ⟨b223, q224, hix225⟩ := rdL_ix (hL.rdS 1 rfl h2) hz222 ha221
                refine QW.cons rfl (QP.yes' rfl rfl hb218 (QP.val (v := (.pointer (some ⟨b223, q224, none⟩))) rfl (fun w' hm' => x_ix Try.underlying26 Try_T63 rfl rfl hix225) ?_))
                refine QW.cons rfl (QP.yes' rfl rfl hb218 (QP.val (v := (.pointer (some ⟨b223, q224 + 1, none⟩))) rfl (fun w' hm' => x_fieldAddr (fsz := 1) q224 1 (q224 + 1) Try.underlying63 rfl Try_T2 rfl rfl rfl) ?_))
                refine QW.cons rfl (QP.yes' rfl rfl hb218 (QP.val (v := (.int .i64 x220.Pace)) rfl (fun w' hm' => x_load1 Try.underlying2 rfl rfl (rdF_cells ((hL.call hm').rdS 1 rfl h2) hix225 ha221 1 _ rfl)) ?_))
                refine QW.cons rfl (QP.yes' rfl rfl hb218 (QP.val (v := (.pointer (some ⟨b168, 1, none⟩))) rfl (fun w' hm' => x_fieldAddr (fsz := 1) 0 1 1 Try.underlying63 rfl Try_T2 rfl rfl rfl) ?_))
                refine QW.cons rfl (QP.yes' rfl rfl hb218 (QP.val (v := (.int .i64 x161.Pace)) rfl (fun w' hm' => x_load1 Try.underlying2 rfl rfl ((hL.call hm').cellB 0 rfl rfl)) ?_))
                refine QW.cons rfl (QP.yes' rfl rfl hb218 (QP.val (v := (.bool (decide (x220.Pace ≤ x161.Pace)))) rfl (fun w' hm' => x_leq rfl rfl) ?_))
                refine QW.cons rfl (QP.yes' rfl rfl hb211 (QP.val (v := (.bool (decide (x220.Pace ≤ x161.Pace)))) rfl (fun w' hm' => x_pickF' rfl hb218 rfl) ?_))
                refine QW.cons rfl (QP.yes' rfl rfl hb209 (QP.val (v := (.bool (decide (x220.Pace ≤ x161.Pace)))) rfl (fun w' hm' => x_pickT' rfl hb211 rfl) ?_))
                refine QW.cons rfl (QP.val (v := (.bool (decide (x220.Pace ≤ x161.Pace)))) rfl (fun w' hm' => x_pickF' rfl hb209 rfl) ?_)
                refine QW.nil ?_
                intro wd226 hmod
                have hL := hL.call hmod
                refine DW.done (by kernel_rfl) ?_
                exact ⟨decide (x220.Pace ≤ x161.Pace), hm, ⟨f156, f157, f158, f159, rfl, hL⟩⟩
            · refine QW.cons rfl (QP.no' rfl rfl hb211 rfl ?_)
              refine QW.cons rfl (QP.no' rfl rfl hb211 rfl ?_)
              refine QW.cons rfl (QP.no' rfl rfl hb211 rfl ?_)
              refine QW.cons rfl (QP.no' rfl rfl hb211 rfl ?_)
              refine QW.cons rfl (QP.no' rfl rfl hb211 rfl ?_)
              refine QW.cons rfl (QP.no' rfl rfl hb211 rfl ?_)
              refine QW.cons rfl (QP.no' rfl rfl hb211 rfl ?_)
              refine QW.cons rfl (QP.no' rfl rfl hb211 rfl ?_)
              refine QW.cons rfl (QP.no' rfl rfl hb211 rfl ?_)
              refine QW.cons rfl (QP.no' rfl rfl hb211 rfl ?_)
              refine QW.cons rfl (QP.noU rfl rfl rfl ?_)
              refine QW.cons rfl (QP.noU rfl rfl rfl ?_)
              refine QW.cons rfl (QP.noU rfl rfl rfl ?_)
              refine QW.cons rfl (QP.noU rfl rfl rfl ?_)
              refine QW.cons rfl (QP.noU rfl rfl rfl ?_)
              refine QW.cons rfl (QP.noU rfl rfl rfl ?_)
              refine QW.cons rfl (QP.noU rfl rfl rfl ?_)
              refine QW.cons rfl (QP.noU rfl rfl rfl ?_)
              refine QW.cons rfl (QP.noU rfl rfl rfl ?_)
              refine QW.cons rfl (QP.no' rfl rfl hb211 rfl ?_)
              refine QW.cons rfl (QP.yes' rfl rfl hb209 (QP.val (v := (.bool false)) rfl (fun w' hm' => x_pickF' rfl hb211 rfl) ?_))
              refine QW.cons rfl (QP.val (v := (.bool false)) rfl (fun w' hm' => x_pickF' rfl hb209 rfl) ?_)
              refine QW.nil ?_
              intro wd227 hmod
              have hL := hL.call hmod
              refine DW.done (by kernel_rfl) ?_
              exact ⟨false, hm, ⟨f156, f157, f158, f159, rfl, hL⟩⟩
      · intro s_j2 F195 wd196 hJ hm
        unfold M.impl_IsCurve_j2 at hm
        obtain ⟨f197, f198, f199, f200, f201, hL⟩ := hJ
        refine CW.condM (t := s_j2) f201 hm (fun hb202 hm => ?_) (fun hb202 hm => ?_)
        · refine CW.seq ?_
          refine CW.regionL ?_
          refine OW.cons (OP.val (v := (.bool false)) rfl (x_assign) ?_)
          refine OW.nil ?_
          refine CW.ret ?_
          obtain rfl := Option.some.inj hm
          have hm := hr140 _ rfl
          obtain rfl := Option.some.inj hm
          exact RR1 rfl rfl ⟨rfl, hL.fresh 1 rfl [] (by decide) (by decide) rfl⟩
        · refine CW.skip ?_
          refine CW.regionL ?_
          refine OW.cons (OP.val (v := (.int .i64 (w64 (s_l1 + 1)))) rfl (x_add f200 rfl) ?_)
          refine OW.cons (OP.val (v := (.int .i64 (w64 (s_l1 + 1)))) rfl (x_move) ?_)
          refine OW.nil ?_
          have hL := hL.sel [1] (by decide) rfl
          obtain rfl := Option.some.inj hm
          exact ⟨_, rfl, ⟨f197, f198, f199, rfl, hL⟩⟩
    · refine CW.exit ?_
      refine XJ.hit ?_
      obtain rfl := Option.some.inj hm
      exact ⟨_, rfl, ⟨f156, f157, f158, f159, hL⟩⟩

theorem M.impl_isElapsed_ok (w0 : World) (a0 : Int) {r : Bool} (hm : M.impl_isElapsed a0 = some r) :
    Calls Try.prog 41 #[(.int .i64 a0)] w0 fun e w' => e = .returned (.bool r) ∧ Fresh w0 w' [] := by
  unfold M.impl_isElapsed at hm
  refine calls_CW (args := [(.int .i64 a0)]) Try.func41 rfl rfl rfl ?_
  have hL := Hp.start w0
  refine CW.seq ?_
  refine CW.regionL ?_
  refine OW.cons (OP.val (v := (.bool false)) rfl (x_assign) ?_)
  refine OW.nil ?_
  refine CW.seq ?_
  refine CW.regionL ?_
  refine OW.cons (OP.val (v := (.int .i64 a0)) rfl (x_move) ?_)
  obtain ⟨x1, hx2, hm⟩ := bndE hm
  refine OW.cons (OP.call rfl (x_call (vs := [(.int .i64 a0), (.int .i64 1), (.int .i64 1000000000)]) Try_C54 ⟨rfl, rfl, rfl, trivial⟩) (M.impl_within_ok _ a0 1 1000000000 hx2) ?_)
  rintro e3 wd4 ⟨rfl, hF5⟩
  refine ⟨_, rfl, ?_⟩
  have hL := hL.pushAll hF5
  simp only [List.cons_append, List.nil_append, List.set_cons_zero, List.set_cons_succ] at hL
  refine OW.cons (OP.val (v := (.bool x1)) rfl (x_assign) ?_)
  refine OW.nil ?_
  refine CW.ret ?_
  obtain rfl := Option.some.inj hm
  exact RR1 rfl rfl ⟨rfl, hL.fresh 0 rfl [] (by decide) (by decide) rfl⟩

theorem M.impl_isDistance_ok (w0 : World) (a0 : Int) {r : Bool} (hm : M.impl_isDistance a0 = some r) :
    Calls Try.prog 42 #[(.int .i64 a0)] w0 fun e w' => e = .returned (.bool r) ∧ Fresh w0 w' [] := by
  unfold M.impl_isDistance at hm
  refine calls_CW (args := [(.int .i64 a0)]) Try.func42 rfl rfl rfl ?_
  have hL := Hp.start w0
  refine CW.seq ?_
  refine CW.regionL ?_
  refine OW.cons (OP.val (v := (.bool false)) rfl (x_assign) ?_)
  refine OW.nil ?_
  refine CW.seq ?_
  refine CW.regionL ?_
  refine OW.cons (OP.val (v := (.int .i64 a0)) rfl (x_move) ?_)
  obtain ⟨x1, hx2, hm⟩ := bndE hm
  refine OW.cons (OP.call rfl (x_call (vs := [(.int .i64 a0), (.int .i64 1), (.int .i64 10000000)]) Try_C54 ⟨rfl, rfl, rfl, trivial⟩) (M.impl_within_ok _ a0 1 10000000 hx2) ?_)
  rintro e3 wd4 ⟨rfl, hF5⟩
  refine ⟨_, rfl, ?_⟩
  have hL := hL.pushAll hF5
  simp only [List.cons_append, List.nil_append, List.set_cons_zero, List.set_cons_succ] at hL
  refine OW.cons (OP.val (v := (.bool x1)) rfl (x_assign) ?_)
  refine OW.nil ?_
  refine CW.ret ?_
  obtain rfl := Option.some.inj hm
  exact RR1 rfl rfl ⟨rfl, hL.fresh 0 rfl [] (by decide) (by decide) rfl⟩

theorem M.impl_floorDiv_ok (w0 : World) (a0 : Int) (a1 : Int) {r : Int} (hm : M.impl_floorDiv a0 a1 = some r) :
    Calls Try.prog 75 #[(.int .i64 a0), (.int .i64 a1)] w0 fun e w' => e = .returned (.int .i64 r) ∧ Fresh w0 w' [] := by
  unfold M.impl_floorDiv at hm
  refine calls_CW (args := [(.int .i64 a0), (.int .i64 a1)]) Try.func75 rfl rfl rfl ?_
  have hL := Hp.start w0
  refine CW.seq ?_
  refine CW.regionL ?_
  refine OW.cons (OP.val (v := (.int .i64 0)) rfl (x_assign) ?_)
  refine OW.nil ?_
  refine CW.seq ?_
  refine CW.regionL ?_
  refine OW.cons (OP.val (v := (.int .i64 a0)) rfl (x_move) ?_)
  refine OW.cons (OP.val (v := (.int .i64 a1)) rfl (x_move) ?_)
  obtain ⟨hc1, hm⟩ := chkE hm
  refine OW.cons (OP.val (v := (.int .i64 (w64 (a0.tdiv a1)))) rfl (x_quo rfl rfl hc1) ?_)
  refine OW.cons (OP.val (v := (.int .i64 (w64 (a0.tdiv a1)))) rfl (x_assign) ?_)
  refine OW.nil ?_
  refine CW.seqJ (fun (s_j1 : Int) (F : Fr) (w : World) => F 5 = (.int .i64 s_j1) ∧ Hp w0 [Ent.snap w0 w0.heap.size] w) (fun s_j1 => M.impl_floorDiv_j1 s_j1 = some r) ?_ ?_
  · refine CW.seq ?_
    refine CW.regionL ?_
    refine OW.cons (OP.val (v := (.int .i64 a0)) rfl (x_move) ?_)
    refine OW.cons (OP.val (v := (.int .i64 a1)) rfl (x_move) ?_)
    obtain ⟨hc7, hm⟩ := chkE hm
    refine OW.cons (OP.val (v := (.int .i64 (a0.tmod a1))) rfl (x_rem rfl rfl hc7) ?_)
    refine OW.cons (OP.val (v := (.bool (decide ((a0.tmod a1) < 0)))) rfl (x_lss rfl rfl) ?_)
    refine OW.nil ?_
    refine CW.condM (t := decide ((a0.tmod a1) < 0)) rfl hm (fun hb8 hm => ?_) (fun hb8 hm => ?_)
    · refine CW.regionL ?_
      refine OW.cons (OP.val (v := (.int .i64 (w64 (a0.tdiv a1)))) rfl (x_move) ?_)
      refine OW.cons (OP.val (v := (.int .i64 (w64 ((w64 (a0.tdiv a1)) - 1)))) rfl (x_sub rfl rfl) ?_)
      refine OW.cons (OP.val (v := (.int .i64 (w64 ((w64 (a0.tdiv a1)) - 1)))) rfl (x_assign) ?_)
      refine OW.nil ?_
      exact ⟨w64 ((w64 (a0.tdiv a1)) - 1), hm, ⟨rfl, hL⟩⟩
    · refine CW.skip ?_
      exact ⟨w64 (a0.tdiv a1), hm, ⟨rfl, hL⟩⟩
  · intro s_j1 F4 wd5 hJ hm
    unfold M.impl_floorDiv_j1 at hm
    obtain ⟨f6, hL⟩ := hJ
    refine CW.seq ?_
    refine CW.regionL ?_
    refine OW.cons (OP.val (v := (.int .i64 s_j1)) rfl (x_mv f6) ?_)
    refine OW.cons (OP.val (v := (.int .i64 s_j1)) rfl (x_assign) ?_)
    refine OW.nil ?_
    refine CW.ret ?_
    obtain rfl := Option.some.inj hm
    exact RR1 rfl rfl ⟨rfl, hL.fresh 0 rfl [] (by decide) (by decide) rfl⟩

theorem M.impl_paceAt_ok (w0 : World) (a0 : List CurvePoint) {v1 : Value} (h2 : rdL (· < w0.heap.size) w0 v1 a0) (a1 : Int) {r : Int} (hm : M.impl_paceAt a0 a1 = some r) :
    Calls Try.prog 57 #[v1, (.int .i64 a1)] w0 fun e w' => e = .returned (.int .i64 r) ∧ Fresh w0 w' [] := by
  unfold M.impl_paceAt at hm
  refine calls_CW (args := [v1, (.int .i64 a1)]) Try.func57 rfl rfl rfl ?_
  have hL := Hp.start w0
  refine CW.seq ?_
  refine CW.regionL ?_
  refine OW.cons (OP.val (v := (.int .i64 0)) rfl (x_assign) ?_)
  refine OW.nil ?_
  refine CW.seq ?_
  refine CW.seq ?_
  refine CW.regionL ?_
  refine OW.cons (OP.val (v := v1) rfl (x_move) ?_)
  refine OW.cons (OP.val (v := (.int .i64 (a0.length : Int))) rfl (x_lenR Try.underlying26 rfl (hL.rdS 0 rfl h2)) ?_)
  refine OW.cons (OP.val (v := (.int .i64 0)) rfl (x_move) ?_)
  refine OW.nil ?_
  obtain ⟨o53, ho54, hm⟩ := bndE hm
  refine CW.loopB (fun (s_l1 : Int) (F : Fr) (w : World) => F 0 = v1 ∧ F 1 = (.int .i64 a1) ∧ F 8 = v1 ∧ F 9 = (.int .i64 (a0.length : Int)) ∧ F 10 = (.int .i64 s_l1) ∧ Hp w0 [Ent.snap w0 w0.heap.size] w) (fun o => outc o (fun x => some x) (fun s => M.impl_paceAt_a1 a0 s) = some r) ho54 hm ⟨rfl, rfl, rfl, rfl, rfl, hL⟩ ?_ ?_
  · intro s_l1 F55 wd56 hJ hm
    have hm : M.impl_paceAt_a1 a0 s_l1 = some r := hm
    unfold M.impl_paceAt_a1 at hm
    obtain ⟨f57, f58, f59, f60, f61, hL⟩ := hJ
    refine CW.seq ?_
    refine CW.regionL ?_
    refine OW.cons (OP.val (v := v1) rfl (x_mv f57) ?_)
    refine OW.cons (OP.val (v := v1) rfl (x_mv f57) ?_)
    refine OW.cons (OP.val (v := (.int .i64 (a0.length : Int))) rfl (x_lenR Try.underlying26 rfl (hL.rdS 0 rfl h2)) ?_)
    refine OW.cons (OP.val (v := (.int .i64 (w64 ((a0.length : Int) - 1)))) rfl (x_sub rfl rfl) ?_)
    obtain ⟨x62, ha63, hm⟩ := bndE hm
    obtain ⟨hz64, ha63⟩ := idxE ha63
    obtain ⟨b65, q66, hix67⟩ := rdL_ix (hL.rdS 0 rfl h2) hz64 ha63
    refine OW.cons (OP.val (v := (.pointer (some ⟨b65, q66, none⟩))) rfl (x_ix Try.underlying26 Try_T63 rfl rfl hix67) ?_)
    refine OW.cons (OP.val (v := (.pointer (some ⟨b65, q66 + 1, none⟩))) rfl (x_fieldAddr (fsz := 1) q66 1 (q66 + 1) Try.underlying63 rfl Try_T2 rfl rfl rfl) ?_)
    refine OW.cons (OP.val (v := (.int .i64 x62.Pace)) rfl (x_load1 Try.underlying2 rfl rfl (rdF_cells (hL.rdS 0 rfl h2) hix67 ha63 1 _ rfl)) ?_)
    refine OW.cons (OP.val (v := (.int .i64 x62.Pace)) rfl (x_assign) ?_)
    refine OW.nil ?_
    refine CW.ret ?_
    obtain rfl := Option.some.inj hm
    exact RR1 rfl rfl ⟨rfl, hL.fresh 0 rfl [] (by decide) (by decide) rfl⟩
  · intro s_l1 F68 wd69 t51 hJ hm hr52
    unfold M.impl_paceAt_l1 at hm
    obtain ⟨f70, f71, f72, f73, f74, hL⟩ := hJ
    refine CW.seq ?_
    refine CW.regionL ?_
    refine OW.cons (OP.val (v := (.bool (decide (s_l1 < (a0.length : Int))))) rfl (x_lss f74 f73) ?_)
    refine OW.nil ?_
    refine CW.seq ?_
    refine CW.condM (t := decide (s_l1 < (a0.length : Int))) rfl hm (fun hb75 hm => ?_) (fun hb75 hm => ?_)
    · refine CW.skip ?_
      refine CW.seq ?_
      refine CW.block ?_
      refine CW.seq ?_
      refine CW.regionL ?_
      refine OW.cons (OP.val (v := (.int .i64 s_l1)) rfl (x_mv f74) ?_)
      obtain ⟨x76, ha77, hm⟩ := bndE hm
      obtain ⟨hz78, ha77⟩ := idxE ha77
      obtain ⟨b79, q80, hix81⟩ := rdL_ix (hL.rdS 0 rfl h2) hz78 ha77
      refine OW.cons (OP.val (v := (.pointer (some ⟨b79, q80, none⟩))) rfl (x_ix Try.underlying26 Try_T63 f72 f74 hix81) ?_)
      refine OW.cons (OP.val (v := (.agg #[(.int .i64 x76.Wind), (.int .i64 x76.Pace)])) rfl (x_loadN (cs := [(.int .i64 x76.Wind), (.int .i64 x76.Pace)]) Try.underlying63 Try_T63 rfl rfl (rdF_cells (hL.rdS 0 rfl h2) hix81 ha77)) ?_)
      refine OW.cons (S_alloc (cs := #[(.int .i64 0), (.int .i64 0)]) hL Try_T63 rfl rfl ?_)
      intro wd82 b83 hL
      refine OW.cons (OP.val (v := (.int .i64 s_l1)) rfl (x_assign) ?_)
      refine OW.cons (S_storeN (l := [(.int .i64 x76.Wind), (.int .i64 x76.Pace)]) (cs' := #[(.int .i64 x76.Wind), (.int .i64 x76.Pace)]) hL 0 rfl Try_T63 rfl rfl (by simp [Value.oneCell']) rfl (by decide) rfl ?_)
      intro wd84 hL
      refine OW.nil ?_
      refine CW.seq ?_
      refine CW.seq ?_
      refine CW.regionL ?_
      refine OW.cons (OP.val (v := (.int .i64 a1)) rfl (x_mv f71) ?_)
      refine OW.cons (OP.val (v := (.pointer (some ⟨b83, 0, none⟩))) rfl (x_fieldAddr (fsz := 1) 0 0 0 Try.underlying63 rfl Try_T2 rfl rfl rfl) ?_)
      refine OW.cons (OP.val (v := (.int .i64 x76.Wind)) rfl (x_load1 Try.underlying2 rfl rfl (hL.cellB 0 rfl rfl)) ?_)
      refine OW.cons (OP.val (v := (.bool (decide (x76.Wind < a1)))) rfl (x_gtr rfl rfl) ?_)
      refine OW.nil ?_
      refine CW.condM (t := decide (x76.Wind < a1)) rfl hm (fun hb85 hm => ?_) (fun hb85 hm => ?_)
      · refine CW.exit ?_
        refine XX.hit ?_
        refine CW.regionL ?_
        refine OW.cons (OP.val (v := (.int .i64 (w64 (s_l1 + 1)))) rfl (x_add f74 rfl) ?_)
        refine OW.cons (OP.val (v := (.int .i64 (w64 (s_l1 + 1)))) rfl (x_move) ?_)
        refine OW.nil ?_
        have hL := hL.sel [1] (by decide) rfl
        obtain rfl := Option.some.inj hm
        exact ⟨_, rfl, ⟨f70, f71, f72, f73, rfl, hL⟩⟩
      · refine CW.skip ?_
        refine CW.seq ?_
        refine CW.seq ?_
        refine CW.regionL ?_
        refine OW.cons (OP.val (v := (.int .i64 s_l1)) rfl (x_move) ?_)
        refine OW.cons (OP.val (v := (.bool (s_l1 == 0))) rfl (x_eql rfl rfl) ?_)
        refine OW.nil ?_
        refine CW.condM (t := s_l1 == 0) rfl hm (fun hb86 hm => ?_) (fun hb86 hm => ?_)
        · refine CW.seq ?_
          refine CW.regionL ?_
          refine OW.cons (OP.val (v := (.pointer (some ⟨b83, 1, none⟩))) rfl (x_fieldAddr (fsz := 1) 0 1 1 Try.underlying63 rfl Try_T2 rfl rfl rfl) ?_)
          refine OW.cons (OP.val (v := (.int .i64 x76.Pace)) rfl (x_load1 Try.underlying2 rfl rfl (hL.cellB 0 rfl rfl)) ?_)
          refine OW.cons (OP.val (v := (.int .i64 x76.Pace)) rfl (x_assign) ?_)
          refine OW.nil ?_
          refine CW.ret ?_
          obtain rfl := Option.some.inj hm
          have hm := hr52 _ rfl
          obtain rfl := Option.some.inj hm
          exact RR1 rfl rfl ⟨rfl, hL.fresh 1 rfl [] (by decide) (by decide) rfl⟩
        · refine CW.skip ?_
          refine CW.seq ?_
          refine CW.regionL ?_
          refine OW.cons (OP.val (v := v1) rfl (x_mv f70) ?_)
          refine OW.cons (OP.val (v := (.int .i64 s_l1)) rfl (x_move) ?_)
          refine OW.cons (OP.val (v := (.int .i64 (w64 (s_l1 - 1)))) rfl (x_sub rfl rfl) ?_)
          obtain ⟨x87, ha88, hm⟩ := bndE hm
          obtain ⟨hz89, ha88⟩ := idxE ha88
          obtain ⟨b90, q91, hix92⟩ := rdL_ix (hL.rdS 1 rfl h2) hz89 ha88
          refine OW.cons (OP.val (v := (.pointer (some ⟨b90, q91, none⟩))) rfl (x_ix Try.underlying26 Try_T63 rfl rfl hix92) ?_)
          refine OW.cons (OP.val (v := (.agg #[(.int .i64 x87.Wind), (.int .i64 x87.Pace)])) rfl (x_loadN (cs := [(.int .i64 x87.Wind), (.int .i64 x87.Pace)]) Try.underlying63 Try_T63 rfl rfl (rdF_cells (hL.rdS 1 rfl h2) hix92 ha88)) ?_)
          refine OW.cons (S_alloc (cs := #[(.int .i64 0), (.int .i64 0)]) hL Try_T63 rfl rfl ?_)
          intro wd93 b94 hL
          refine OW.cons (S_storeN (l := [(.int .i64 x87.Wind), (.int .i64 x87.Pace)]) (cs' := #[(.int .i64 x87.Wind), (.int .i64 x87.Pace)]) hL 0 rfl Try_T63 rfl rfl (by simp [Value.oneCell']) rfl (by decide) rfl ?_)
          intro wd95 hL
          refine OW.nil ?_
          refine CW.seq ?_
          refine CW.draw Try_mixed ?_
          have hL := hL.call (Mod.drew _)
          refine DW.pre (fuel := 0) (fin := (((((((((((((((((((((Array.replicate 20 false).setIfInBounds 0 true).setIfInBounds 1 true).setIfInBounds 2 true).setIfInBounds 3 true).setIfInBounds 4 true).setIfInBounds 5 true).setIfInBounds 6 true).setIfInBounds 7 true).setIfInBounds 8 true).setIfInBounds 9 true).setIfInBounds 10 true).setIfInBounds 11 true).setIfInBounds 12 true).setIfInBounds 13 true).setIfInBounds 14 true).setIfInBounds 15 true).setIfInBounds 16 true).setIfInBounds 17 true).setIfInBounds 18 true).setIfInBounds 19 true)) (C := fun w' => Mod None_ _ w') [0, 1, 2, 3, 4, 5, 6, 7, 8, 9, 10, 11, 12, 13, 14, 15, 16, 17, 18, 19] (Mod.refl _ _) (by kernel_rfl) (by kernel_rfl) ?_
          refine QW.cons rfl (QP.val (v := (.pointer (some ⟨b94, 1, none⟩))) rfl (fun w' hm' => x_fieldAddr (fsz := 1) 0 1 1 Try.underlying63 rfl Try_T2 rfl rfl rfl) ?_)
          refine QW.cons rfl (QP.val (v := (.int .i64 x87.Pace)) rfl (fun w' hm' => x_load1 Try.underlying2 rfl rfl ((hL.call hm').cellB 0 rfl rfl)) ?_)
          refine QW.cons rfl (QP.val (v := (.pointer (some ⟨b83, 1, none⟩))) rfl (fun w' hm' => x_fieldAddr (fsz := 1) 0 1 1 Try.underlying63 rfl Try_T2 rfl rfl rfl) ?_)
          refine QW.cons rfl (QP.val (v := (.int .i64 x76.Pace)) rfl (fun w' hm' => x_load1 Try.underlying2 rfl rfl ((hL.call hm').cellB 1 rfl rfl)) ?_)
          refine QW.cons rfl (QP.val (v := (.pointer (some ⟨b94, 1, none⟩))) rfl (fun w' hm' => x_fieldAddr (fsz := 1) 0 1 1 Try.underlying63 rfl Try_T2 rfl rfl rfl) ?_)
          refine QW.cons rfl (QP.val (v := (.int .i64 x87.Pace)) rfl (fun w' hm' => x_load1 Try.underlying2 rfl rfl ((hL.call hm').cellB 0 rfl rfl)) ?_)
          refine QW.cons rfl (QP.val (v := (.int .i64 (w64 (x76.Pace - x87.Pace)))) rfl (fun w' hm' => x_sub rfl rfl) ?_)
          refine QW.cons rfl (QP.val (v := (.int .i64 a1)) rfl (fun w' hm' => x_mv f71) ?_)
          refine QW.cons rfl (QP.val (v := (.pointer (some ⟨b94, 0, none⟩))) rfl (fun w' hm' => x_fieldAddr (fsz := 1) 0 0 0 Try.underlying63 rfl Try_T2 rfl rfl rfl) ?_)
          refine QW.cons rfl (QP.val (v := (.int .i64 x87.Wind)) rfl (fun w' hm' => x_load1 Try.underlying2 rfl rfl ((hL.call hm').cellB 0 rfl rfl)) ?_)
          refine QW.cons rfl (QP.val (v := (.int .i64 (w64 (a1 - x87.Wind)))) rfl (fun w' hm' => x_sub rfl rfl) ?_)
          refine QW.cons rfl (QP.val (v := (.int .i64 (w64 ((w64 (x76.Pace - x87.Pace)) * (w64 (a1 - x87.Wind)))))) rfl (fun w' hm' => x_mul rfl rfl) ?_)
          refine QW.cons rfl (QP.val (v := (.pointer (some ⟨b83, 0, none⟩))) rfl (fun w' hm' => x_fieldAddr (fsz := 1) 0 0 0 Try.underlying63 rfl Try_T2 rfl rfl rfl) ?_)
          refine QW.cons rfl (QP.val (v := (.int .i64 x76.Wind)) rfl (fun w' hm' => x_load1 Try.underlying2 rfl rfl ((hL.call hm').cellB 1 rfl rfl)) ?_)
          refine QW.cons rfl (QP.val (v := (.pointer (some ⟨b94, 0, none⟩))) rfl (fun w' hm' => x_fieldAddr (fsz := 1) 0 0 0 Try.underlying63 rfl Try_T2 rfl rfl rfl) ?_)
          refine QW.cons rfl (QP.val (v := (.int .i64 x87.Wind)) rfl (fun w' hm' => x_load1 Try.underlying2 rfl rfl ((hL.call hm').cellB 0 rfl rfl)) ?_)
          refine QW.cons rfl (QP.val (v := (.int .i64 (w64 (x76.Wind - x87.Wind)))) rfl (fun w' hm' => x_sub rfl rfl) ?_)
          obtain ⟨x96, hx97, hm⟩ := bndE hm
          refine QW.cons rfl (QP.call (v := (.int .i64 x96)) rfl (fun w' hm' => x_call (vs := [(.int .i64 (w64 ((w64 (x76.Pace - x87.Pace)) * (w64 (a1 - x87.Wind))))), (.int .i64 (w64 (x76.Wind - x87.Wind)))]) Try_C75 ⟨rfl, rfl, trivial⟩) (fun w' hm' => (M.impl_floorDiv_ok w' (w64 ((w64 (x76.Pace - x87.Pace)) * (w64 (a1 - x87.Wind)))) (w64 (x76.Wind - x87.Wind)) hx97).mono (fun e w'' h => ⟨h.1, hm'.trans h.2.mod⟩)) ?_)
          refine QW.cons rfl (QP.val (v := (.int .i64 (w64 (x87.Pace + x96)))) rfl (fun w' hm' => x_add rfl rfl) ?_)
          refine QW.cons rfl (QP.val (v := (.int .i64 (w64 (x87.Pace + x96)))) rfl (fun w' hm' => x_assign) ?_)
          refine QW.nil ?_
          intro wd98 hmod
          have hL := hL.call hmod
          refine DW.done (by kernel_rfl) ?_
          refine CW.ret ?_
          obtain rfl := Option.some.inj hm
          have hm := hr52 _ rfl
          obtain rfl := Option.some.inj hm
          exact RR1 rfl rfl ⟨rfl, hL.fresh 2 rfl [] (by decide) (by decide) rfl⟩
    · refine CW.exit ?_
      refine XJ.hit ?_
      obtain rfl := Option.some.inj hm
      exact ⟨_, rfl, ⟨f70, f71, f72, f73, f74, hL⟩⟩

theorem M.impl_ceilDiv_ok (w0 : World) (a0 : Int) (a1 : Int) {r : Int} (hm : M.impl_ceilDiv a0 a1 = some r) :
    Calls Try.prog 70 #[(.int .i64 a0), (.int .i64 a1)] w0 fun e w' => e = .returned (.int .i64 r) ∧ Fresh w0 w' [] := by
  unfold M.impl_ceilDiv at hm
  refine calls_CW (args := [(.int .i64 a0), (.int .i64 a1)]) Try.func70 rfl rfl rfl ?_
  have hL := Hp.start w0
  refine CW.seq ?_
  refine CW.regionL ?_
  refine OW.cons (OP.val (v := (.int .i64 0)) rfl (x_assign) ?_)
  refine OW.nil ?_
  refine CW.seq ?_
  refine CW.regionL ?_
  refine OW.cons (OP.val (v := (.int .i64 a0)) rfl (x_move) ?_)
  refine OW.cons (OP.val (v := (.int .i64 (w64 (0 - a0)))) rfl (x_neg rfl) ?_)
  refine OW.cons (OP.val (v := (.int .i64 a1)) rfl (x_move) ?_)
  obtain ⟨x1, hx2, hm⟩ := bndE hm
  refine OW.cons (OP.call rfl (x_call (vs := [(.int .i64 (w64 (0 - a0))), (.int .i64 a1)]) Try_C75 ⟨rfl, rfl, trivial⟩) (M.impl_floorDiv_ok _ (w64 (0 - a0)) a1 hx2) ?_)
  rintro e3 wd4 ⟨rfl, hF5⟩
  refine ⟨_, rfl, ?_⟩
  have hL := hL.pushAll hF5
  simp only [List.cons_append, List.nil_append, List.set_cons_zero, List.set_cons_succ] at hL
  refine OW.cons (OP.val (v := (.int .i64 (w64 (0 - x1)))) rfl (x_neg rfl) ?_)
  refine OW.cons (OP.val (v := (.int .i64 (w64 (0 - x1)))) rfl (x_assign) ?_)
  refine OW.nil ?_
  refine CW.ret ?_
  obtain rfl := Option.some.inj hm
  exact RR1 rfl rfl ⟨rfl, hL.fresh 0 rfl [] (by decide) (by decide) rfl⟩

theorem M.impl_curveTime_ok (w0 : World) (a0 : List CurvePoint) {v1 : Value} (h2 : rdL (· < w0.heap.size) w0 v1 a0) (a1 : Int) (a2 : Int) {r : Int} (hm : M.impl_curveTime a0 a1 a2 = some r) :
    Calls Try.prog 51 #[v1, (.int .i64 a1), (.int .i64 a2)] w0 fun e w' => e = .returned (.int .i64 r) ∧ Fresh w0 w' [] := by
  unfold M.impl_curveTime at hm
  refine calls_CW (args := [v1, (.int .i64 a1), (.int .i64 a2)]) Try.func51 rfl rfl rfl ?_
  have hL := Hp.start w0
  refine CW.seq ?_
  refine CW.regionL ?_
  refine OW.cons (OP.val (v := (.int .i64 0)) rfl (x_assign) ?_)
  refine OW.nil ?_
  refine CW.seq ?_
  refine CW.regionL ?_
  refine OW.cons (OP.val (v := v1) rfl (x_move) ?_)
  refine OW.cons (OP.val (v := (.int .i64 a1)) rfl (x_move) ?_)
  obtain ⟨x3, hx4, hm⟩ := bndE hm
  refine OW.cons (OP.call rfl (x_call (vs := [v1, (.int .i64 a1)]) Try_C57 ⟨rfl, rfl, trivial⟩) (M.impl_paceAt_ok _ a0 (hL.rdS 0 rfl h2) a1 hx4) ?_)
  rintro e5 wd6 ⟨rfl, hF7⟩
  refine ⟨_, rfl, ?_⟩
  have hL := hL.pushAll hF7
  simp only [List.cons_append, List.nil_append, List.set_cons_zero, List.set_cons_succ] at hL
  refine OW.cons (OP.val (v := (.int .i64 a2)) rfl (x_move) ?_)
  refine OW.cons (OP.val (v := (.int .i64 (w64 (x3 * a2)))) rfl (x_mul rfl rfl) ?_)
  obtain ⟨x8, hx9, hm⟩ := bndE hm
  refine OW.cons (OP.call rfl (x_call (vs := [(.int .i64 (w64 (x3 * a2))), (.int .i64 10000)]) Try_C70 ⟨rfl, rfl, trivial⟩) (M.impl_ceilDiv_ok _ (w64 (x3 * a2)) 10000 hx9) ?_)
  rintro e10 wd11 ⟨rfl, hF12⟩
  refine ⟨_, rfl, ?_⟩
  have hL := hL.pushAll hF12
  simp only [List.cons_append, List.nil_append, List.set_cons_zero, List.set_cons_succ] at hL
  refine OW.cons (OP.val (v := (.int .i64 x8)) rfl (x_assign) ?_)
  refine OW.nil ?_
  refine CW.ret ?_
  obtain rfl := Option.some.inj hm
  exact RR1 rfl rfl ⟨rfl, hL.fresh 0 rfl [] (by decide) (by decide) rfl⟩

theorem M.impl_impliedWind_ok (w0 : World) (a0 : List CurvePoint) {v1 : Value} (h2 : rdL (· < w0.heap.size) w0 v1 a0) (a1 : Int) (a2 : Int) {r : Int} (hm : M.impl_impliedWind a0 a1 a2 = some r) :
    Calls Try.prog 43 #[v1, (.int .i64 a1), (.int .i64 a2)] w0 fun e w' => e = .returned (.int .i64 r) ∧ Fresh w0 w' [] := by
  unfold M.impl_impliedWind at hm
  refine calls_CW (args := [v1, (.int .i64 a1), (.int .i64 a2)]) Try.func43 rfl rfl rfl ?_
  have hL := Hp.start w0
  refine CW.seq ?_
  refine CW.regionL ?_
  refine OW.cons (OP.val (v := (.int .i64 0)) rfl (x_assign) ?_)
  refine OW.nil ?_
  refine CW.seq ?_
  refine CW.seq ?_
  refine CW.regionL ?_
  refine OW.cons (OP.val (v := (.int .i64 0)) rfl (x_move) ?_)
  refine OW.nil ?_
  obtain ⟨o19, ho20, hm⟩ := bndE hm
  refine CW.loopB (fun (s_l1 : Int) (F : Fr) (w : World) => F 0 = v1 ∧ F 1 = (.int .i64 a1) ∧ F 2 = (.int .i64 a2) ∧ F 8 = (.int .i64 s_l1) ∧ Hp w0 [Ent.snap w0 w0.heap.size] w) (fun o => outc o (fun x => some x) (fun s => M.impl_impliedWind_a1 s) = some r) ho20 hm ⟨rfl, rfl, rfl, rfl, hL⟩ ?_ ?_
  · intro s_l1 F21 wd22 hJ hm
    have hm : M.impl_impliedWind_a1 s_l1 = some r := hm
    unfold M.impl_impliedWind_a1 at hm
    obtain ⟨f23, f24, f25, f26, hL⟩ := hJ
    refine CW.seq ?_
    refine CW.regionL ?_
    refine OW.cons (OP.val (v := (.int .i64 (-1))) rfl (x_assign) ?_)
    refine OW.nil ?_
    refine CW.ret ?_
    obtain rfl := Option.some.inj hm
    exact RR1 rfl rfl ⟨rfl, hL.fresh 0 rfl [] (by decide) (by decide) rfl⟩
  · intro s_l1 F27 wd28 t17 hJ hm hr18
    unfold M.impl_impliedWind_l1 at hm
    obtain ⟨f29, f30, f31, f32, hL⟩ := hJ
    refine CW.seq ?_
    refine CW.regionL ?_
    refine OW.cons (OP.val (v := (.bool (decide (s_l1 < 1001)))) rfl (x_lss f32 rfl) ?_)
    refine OW.nil ?_
    refine CW.seq ?_
    refine CW.condM (t := decide (s_l1 < 1001)) rfl hm (fun hb33 hm => ?_) (fun hb33 hm => ?_)
    · refine CW.skip ?_
      refine CW.seq ?_
      refine CW.block ?_
      refine CW.seq ?_
      refine CW.regionL ?_
      refine OW.cons (OP.val (v := (.int .i64 s_l1)) rfl (x_mv f32) ?_)
      refine OW.cons (OP.val (v := (.int .i64 s_l1)) rfl (x_assign) ?_)
      refine OW.nil ?_
      refine CW.seq ?_
      refine CW.regionL ?_
      refine OW.cons (OP.val (v := v1) rfl (x_mv f29) ?_)
      refine OW.cons (OP.val (v := (.int .i64 s_l1)) rfl (x_move) ?_)
      refine OW.cons (OP.val (v := (.int .i64 a2)) rfl (x_mv f31) ?_)
      obtain ⟨x34, hx35, hm⟩ := bndE hm
      refine OW.cons (OP.call rfl (x_call (vs := [v1, (.int .i64 s_l1), (.int .i64 a2)]) Try_C51 ⟨rfl, rfl, rfl, trivial⟩) (M.impl_curveTime_ok _ a0 (hL.rdS 0 rfl h2) s_l1 a2 hx35) ?_)
      rintro e36 wd37 ⟨rfl, hF38⟩
      refine ⟨_, rfl, ?_⟩
      have hL := hL.pushAll hF38
      simp only [List.cons_append, List.nil_append, List.set_cons_zero, List.set_cons_succ] at hL
      refine OW.cons (OP.val (v := (.int .i64 a1)) rfl (x_mv f30) ?_)
      refine OW.cons (OP.val (v := (.bool (decide (x34 ≤ a1)))) rfl (x_leq rfl rfl) ?_)
      refine OW.nil ?_
      refine CW.condM (t := decide (x34 ≤ a1)) rfl hm (fun hb39 hm => ?_) (fun hb39 hm => ?_)
      · refine CW.seq ?_
        refine CW.regionL ?_
        refine OW.cons (OP.val (v := (.int .i64 s_l1)) rfl (x_move) ?_)
        refine OW.cons (OP.val (v := (.int .i64 s_l1)) rfl (x_assign) ?_)
        refine OW.nil ?_
        refine CW.ret ?_
        obtain rfl := Option.some.inj hm
        have hm := hr18 _ rfl
        obtain rfl := Option.some.inj hm
        exact RR1 rfl rfl ⟨rfl, hL.fresh 0 rfl [] (by decide) (by decide) rfl⟩
      · refine CW.skip ?_
        refine CW.regionL ?_
        refine OW.cons (OP.val (v := (.int .i64 (w64 (s_l1 + 1)))) rfl (x_add f32 rfl) ?_)
        refine OW.cons (OP.val (v := (.int .i64 (w64 (s_l1 + 1)))) rfl (x_move) ?_)
        refine OW.nil ?_
        obtain rfl := Option.some.inj hm
        exact ⟨_, rfl, ⟨f29, f30, f31, rfl, hL⟩⟩
    · refine CW.exit ?_
      refine XJ.hit ?_
      obtain rfl := Option.some.inj hm
      exact ⟨_, rfl, ⟨f29, f30, f31, f32, hL⟩⟩

theorem M.laws_eqCurvePoint_ok (w0 : World) (a0 : CurvePoint) (a1 : CurvePoint) {r : Bool} (hm : M.laws_eqCurvePoint a0 a1 = some r) :
    Calls Try.prog 44 #[(.agg #[(.int .i64 a0.Wind), (.int .i64 a0.Pace)]), (.agg #[(.int .i64 a1.Wind), (.int .i64 a1.Pace)])] w0 fun e w' => e = .returned (.bool r) ∧ Fresh w0 w' [] := by
  unfold M.laws_eqCurvePoint at hm
  refine calls_CW (args := [(.agg #[(.int .i64 a0.Wind), (.int .i64 a0.Pace)]), (.agg #[(.int .i64 a1.Wind), (.int .i64 a1.Pace)])]) Try.func44 rfl rfl rfl ?_
  have hL := Hp.start w0
  refine CW.seq ?_
  refine CW.regionL ?_
  refine OW.cons (S_box (cs := #[(.int .i64 a0.Wind), (.int .i64 a0.Pace)]) hL rfl rfl rfl ?_)
  intro wd1 b2 hL
  refine OW.cons (S_box (cs := #[(.int .i64 a1.Wind), (.int .i64 a1.Pace)]) hL rfl rfl rfl ?_)
  intro wd3 b4 hL
  refine OW.cons (OP.val (v := (.bool false)) rfl (x_assign) ?_)
  refine OW.nil ?_
  refine CW.seq ?_
  refine CW.seq ?_
  refine CW.regionL ?_
  refine OW.cons (OP.val (v := (.pointer (some ⟨b2, 0, none⟩))) rfl (x_fieldAddr (fsz := 1) 0 0 0 Try.underlying63 rfl Try_T2 rfl rfl rfl) ?_)
  refine OW.cons (OP.val (v := (.int .i64 a0.Wind)) rfl (x_load1 Try.underlying2 rfl rfl (hL.cellB 1 rfl rfl)) ?_)
  refine OW.cons (OP.val (v := (.pointer (some ⟨b4, 0, none⟩))) rfl (x_fieldAddr (fsz := 1) 0 0 0 Try.underlying63 rfl Try_T2 rfl rfl rfl) ?_)
  refine OW.cons (OP.val (v := (.int .i64 a1.Wind)) rfl (x_load1 Try.underlying2 rfl rfl (hL.cellB 0 rfl rfl)) ?_)
  refine OW.cons (OP.val (v := (.bool (a0.Wind != a1.Wind))) rfl (x_neq rfl rfl) ?_)
  refine OW.nil ?_
  refine CW.condM (t := a0.Wind != a1.Wind) rfl hm (fun hb5 hm => ?_) (fun hb5 hm => ?_)
  · refine CW.seq ?_
    refine CW.regionL ?_
    refine OW.cons (OP.val (v := (.bool false)) rfl (x_assign) ?_)
    refine OW.nil ?_
    refine CW.ret ?_
    obtain rfl := Option.some.inj hm
    exact RR1 rfl rfl ⟨rfl, hL.fresh 2 rfl [] (by decide) (by decide) rfl⟩
  · refine CW.skip ?_
    refine CW.seq ?_
    refine CW.seq ?_
    refine CW.regionL ?_
    refine OW.cons (OP.val (v := (.pointer (some ⟨b2, 1, none⟩))) rfl (x_fieldAddr (fsz := 1) 0 1 1 Try.underlying63 rfl Try_T2 rfl rfl rfl) ?_)
    refine OW.cons (OP.val (v := (.int .i64 a0.Pace)) rfl (x_load1 Try.underlying2 rfl rfl (hL.cellB 1 rfl rfl)) ?_)
    refine OW.cons (OP.val (v := (.pointer (some ⟨b4, 1, none⟩))) rfl (x_fieldAddr (fsz := 1) 0 1 1 Try.underlying63 rfl Try_T2 rfl rfl rfl) ?_)
    refine OW.cons (OP.val (v := (.int .i64 a1.Pace)) rfl (x_load1 Try.underlying2 rfl rfl (hL.cellB 0 rfl rfl)) ?_)
    refine OW.cons (OP.val (v := (.bool (a0.Pace != a1.Pace))) rfl (x_neq rfl rfl) ?_)
    refine OW.nil ?_
    refine CW.condM (t := a0.Pace != a1.Pace) rfl hm (fun hb6 hm => ?_) (fun hb6 hm => ?_)
    · refine CW.seq ?_
      refine CW.regionL ?_
      refine OW.cons (OP.val (v := (.bool false)) rfl (x_assign) ?_)
      refine OW.nil ?_
      refine CW.ret ?_
      obtain rfl := Option.some.inj hm
      exact RR1 rfl rfl ⟨rfl, hL.fresh 2 rfl [] (by decide) (by decide) rfl⟩
    · refine CW.skip ?_
      refine CW.seq ?_
      refine CW.regionL ?_
      refine OW.cons (OP.val (v := (.bool true)) rfl (x_assign) ?_)
      refine OW.nil ?_
      refine CW.ret ?_
      obtain rfl := Option.some.inj hm
      exact RR1 rfl rfl ⟨rfl, hL.fresh 2 rfl [] (by decide) (by decide) rfl⟩

theorem M.laws_eqCurvePointS_ok (w0 : World) (a0 : List CurvePoint) {v1 : Value} (h2 : rdL (· < w0.heap.size) w0 v1 a0) (a1 : List CurvePoint) {v3 : Value} (h4 : rdL (· < w0.heap.size) w0 v3 a1) {r : Bool} (hm : M.laws_eqCurvePointS a0 a1 = some r) :
    Calls Try.prog 13 #[v1, v3] w0 fun e w' => e = .returned (.bool r) ∧ Fresh w0 w' [] := by
  unfold M.laws_eqCurvePointS at hm
  refine calls_CW (args := [v1, v3]) Try.func13 rfl rfl rfl ?_
  have hL := Hp.start w0
  refine CW.seq ?_
  refine CW.regionL ?_
  refine OW.cons (OP.val (v := (.bool false)) rfl (x_assign) ?_)
  refine OW.nil ?_
  refine CW.seq ?_
  refine CW.seq ?_
  refine CW.regionL ?_
  refine OW.cons (OP.val (v := v1) rfl (x_move) ?_)
  refine OW.cons (OP.val (v := (.int .i64 (a0.length : Int))) rfl (x_lenR Try.underlying26 rfl (hL.rdS 0 rfl h2)) ?_)
  refine OW.cons (OP.val (v := v3) rfl (x_move) ?_)
  refine OW.cons (OP.val (v := (.int .i64 (a1.length : Int))) rfl (x_lenR Try.underlying26 rfl (hL.rdS 0 rfl h4)) ?_)
  refine OW.cons (OP.val (v := (.bool ((a0.length : Int) != (a1.length : Int)))) rfl (x_neq rfl rfl) ?_)
  refine OW.nil ?_
  refine CW.condM (t := (a0.length : Int) != (a1.length : Int)) rfl hm (fun hb5 hm => ?_) (fun hb5 hm => ?_)
  · refine CW.seq ?_
    refine CW.regionL ?_
    refine OW.cons (OP.val (v := (.bool false)) rfl (x_assign) ?_)
    refine OW.nil ?_
    refine CW.ret ?_
    obtain rfl := Option.some.inj hm
    exact RR1 rfl rfl ⟨rfl, hL.fresh 0 rfl [] (by decide) (by decide) rfl⟩
  · refine CW.skip ?_
    refine CW.seq ?_
    refine CW.seq ?_
    refine CW.regionL ?_
    refine OW.cons (OP.val (v := (.int .i64 0)) rfl (x_assign) ?_)
    refine OW.nil ?_
    obtain ⟨o42, ho43, hm⟩ := bndE hm
    refine CW.loopB (fun (s_l1 : Int) (F : Fr) (w : World) => F 0 = v1 ∧ F 1 = v3 ∧ F 5 = (.int .i64 s_l1) ∧ Hp w0 [Ent.snap w0 w0.heap.size] w) (fun o => outc o (fun x => some x) (fun s => M.laws_eqCurvePointS_a1 s) = some r) ho43 hm ⟨rfl, rfl, rfl, hL⟩ ?_ ?_
    · intro s_l1 F44 wd45 hJ hm
      have hm : M.laws_eqCurvePointS_a1 s_l1 = some r := hm
      unfold M.laws_eqCurvePointS_a1 at hm
      obtain ⟨f46, f47, f48, hL⟩ := hJ
      refine CW.seq ?_
      refine CW.regionL ?_
      refine OW.cons (OP.val (v := (.bool true)) rfl (x_assign) ?_)
      refine OW.nil ?_
      refine CW.ret ?_
      obtain rfl := Option.some.inj hm
      exact RR1 rfl rfl ⟨rfl, hL.fresh 0 rfl [] (by decide) (by decide) rfl⟩
    · intro s_l1 F49 wd50 t40 hJ hm hr41
      unfold M.laws_eqCurvePointS_l1 at hm
      obtain ⟨f51, f52, f53, hL⟩ := hJ
      refine CW.seq ?_
      refine CW.seq ?_
      refine CW.regionL ?_
      refine OW.cons (OP.val (v := (.int .i64 s_l1)) rfl (x_mv f53) ?_)
      refine OW.cons (OP.val (v := v1) rfl (x_mv f51) ?_)
      refine OW.cons (OP.val (v := (.int .i64 (a0.length : Int))) rfl (x_lenR Try.underlying26 rfl (hL.rdS 0 rfl h2)) ?_)
      refine OW.cons (OP.val (v := (.bool (decide (s_l1 < (a0.length : Int))))) rfl (x_lss rfl rfl) ?_)
      refine OW.nil ?_
      refine CW.condM (t := decide (s_l1 < (a0.length : Int))) rfl hm (fun hb54 hm => ?_) (fun hb54 hm => ?_)
      · refine CW.skip ?_
        refine CW.seq ?_
        refine CW.block ?_
        refine CW.seq ?_
        refine CW.draw Try_mixed ?_
        have hL := hL.call (Mod.drew _)
        refine DW.pre (fuel := 0) (fin := (((((((((((Array.replicate 10 false).setIfInBounds 0 true).setIfInBounds 1 true).setIfInBounds 2 true).setIfInBounds 3 true).setIfInBounds 4 true).setIfInBounds 5 true).setIfInBounds 6 true).setIfInBounds 7 true).setIfInBounds 8 true).setIfInBounds 9 true)) (C := fun w' => Mod None_ _ w') [0, 1, 2, 3, 4, 5, 6, 7, 8, 9] (Mod.refl _ _) (by kernel_rfl) (by kernel_rfl) ?_
        refine QW.cons rfl (QP.val (v := v1) rfl (fun w' hm' => x_mv f51) ?_)
        refine QW.cons rfl (QP.val (v := (.int .i64 s_l1)) rfl (fun w' hm' => x_mv f53) ?_)
        obtain ⟨x55, ha56, hm⟩ := bndE hm
        obtain ⟨hz57, ha56⟩ := idxE ha56
        obtain ⟨b58, q59, hix60⟩ := rdL_ix (hL.rdS 0 rfl h2) hz57 ha56
        refine QW.cons rfl (QP.val (v := (.pointer (some ⟨b58, q59, none⟩))) rfl (fun w' hm' => x_ix Try.underlying26 Try_T63 rfl rfl hix60) ?_)
        refine QW.cons rfl (QP.val (v := (.agg #[(.int .i64 x55.Wind), (.int .i64 x55.Pace)])) rfl (fun w' hm' => x_loadN (cs := [(.int .i64 x55.Wind), (.int .i64 x55.Pace)]) Try.underlying63 Try_T63 rfl rfl (rdF_cells ((hL.call hm').rdS 0 rfl h2) hix60 ha56)) ?_)
        refine QW.cons rfl (QP.val (v := v3) rfl (fun w' hm' => x_mv f52) ?_)
        refine QW.cons rfl (QP.val (v := (.int .i64 s_l1)) rfl (fun w' hm' => x_mv f53) ?_)
        obtain ⟨x61, ha62, hm⟩ := bndE hm
        obtain ⟨hz63, ha62⟩ := idxE ha62
        obtain ⟨b64, q65, hix66⟩ := rdL_ix (hL.rdS 0 rfl h4) hz63 ha62
        refine QW.cons rfl (QP.val (v := (.pointer (some ⟨b64, q65, none⟩))) rfl (fun w' hm' => x_ix Try.underlying26 Try_T63 rfl rfl hix66) ?_)
        refine QW.cons rfl (QP.val (v := (.agg #[(.int .i64 x61.Wind), (.int .i64 x61.Pace)])) rfl (fun w' hm' => x_loadN (cs := [(.int .i64 x61.Wind), (.int .i64 x61.Pace)]) Try.underlying63 Try_T63 rfl rfl (rdF_cells ((hL.call hm').rdS 0 rfl h4) hix66 ha62)) ?_)
        obtain ⟨x67, hx68, hm⟩ := bndE hm
        refine QW.cons rfl (QP.call (v := (.bool x67)) rfl (fun w' hm' => x_call (vs := [(.agg #[(.int .i64 x55.Wind), (.int .i64 x55.Pace)]), (.agg #[(.int .i64 x61.Wind), (.int .i64 x61.Pace)])]) Try_C44 ⟨rfl, rfl, trivial⟩) (fun w' hm' => (M.laws_eqCurvePoint_ok w' x55 x61 hx68).mono (fun e w'' h => ⟨h.1, hm'.trans h.2.mod⟩)) ?_)
        refine QW.cons rfl (QP.val (v := (.bool (!x67))) rfl (fun w' hm' => x_not rfl) ?_)
        refine QW.nil ?_
        intro wd69 hmod
        have hL := hL.call hmod
        refine DW.done (by kernel_rfl) ?_
        refine CW.condM (t := !x67) rfl hm (fun hb70 hm => ?_) (fun hb70 hm => ?_)
        · refine CW.seq ?_
          refine CW.regionL ?_
          refine OW.cons (OP.val (v := (.bool false)) rfl (x_assign) ?_)
          refine OW.nil ?_
          refine CW.ret ?_
          obtain rfl := Option.some.inj hm
          have hm := hr41 _ rfl
          obtain rfl := Option.some.inj hm
          exact RR1 rfl rfl ⟨rfl, hL.fresh 0 rfl [] (by decide) (by decide) rfl⟩
        · refine CW.skip ?_
          refine CW.regionL ?_
          refine OW.cons (OP.val (v := (.int .i64 s_l1)) rfl (x_mv f53) ?_)
          refine OW.cons (OP.val (v := (.int .i64 (w64 (s_l1 + 1)))) rfl (x_add rfl rfl) ?_)
          refine OW.cons (OP.val (v := (.int .i64 (w64 (s_l1 + 1)))) rfl (x_assign) ?_)
          refine OW.nil ?_
          obtain rfl := Option.some.inj hm
          exact ⟨_, rfl, ⟨f51, f52, rfl, hL⟩⟩
      · refine CW.exit ?_
        refine XJ.hit ?_
        obtain rfl := Option.some.inj hm
        exact ⟨_, rfl, ⟨f51, f52, f53, hL⟩⟩

theorem M.spec_l24Corrected_ok (w0 : World) (a0 : List CurvePoint) {v1 : Value} (h2 : rdL (· < w0.heap.size) w0 v1 a0) (a1 : List CurvePoint) {v3 : Value} (h4 : rdL (· < w0.heap.size) w0 v3 a1) (a2 : Int) (a3 : Int) {r : Int} (hm : M.spec_l24Corrected a0 a1 a2 a3 = some r) :
    Calls Try.prog 45 #[v1, v3, (.int .i64 a2), (.int .i64 a3)] w0 fun e w' => e = .returned (.int .i64 r) ∧ Fresh w0 w' [] := by
  unfold M.spec_l24Corrected at hm
  refine calls_CW (args := [v1, v3, (.int .i64 a2), (.int .i64 a3)]) Try.func45 rfl rfl rfl ?_
  have hL := Hp.start w0
  refine CW.seq ?_
  refine CW.regionL ?_
  refine OW.cons (OP.val (v := (.int .i64 0)) rfl (x_assign) ?_)
  refine OW.nil ?_
  refine CW.seq ?_
  refine CW.regionL ?_
  refine OW.cons (OP.val (v := v1) rfl (x_move) ?_)
  refine OW.cons (OP.val (v := (.int .i64 a2)) rfl (x_move) ?_)
  refine OW.cons (OP.val (v := (.int .i64 a3)) rfl (x_move) ?_)
  obtain ⟨x5, hx6, hm⟩ := bndE hm
  refine OW.cons (OP.call rfl (x_call (vs := [v1, (.int .i64 a2), (.int .i64 a3)]) Try_C38 ⟨rfl, rfl, rfl, trivial⟩) (M.spec_l24Wind_ok _ a0 (hL.rdS 0 rfl h2) a2 a3 hx6) ?_)
  rintro e7 wd8 ⟨rfl, hF9⟩
  refine ⟨_, rfl, ?_⟩
  have hL := hL.pushAll hF9
  simp only [List.cons_append, List.nil_append, List.set_cons_zero, List.set_cons_succ] at hL
  refine OW.cons (OP.val (v := (.int .i64 x5)) rfl (x_assign) ?_)
  refine OW.nil ?_
  refine CW.seq ?_
  refine CW.seq ?_
  refine CW.regionL ?_
  refine OW.cons (OP.val (v := (.int .i64 x5)) rfl (x_move) ?_)
  refine OW.cons (OP.val (v := (.bool (decide (x5 < 0)))) rfl (x_lss rfl rfl) ?_)
  refine OW.nil ?_
  refine CW.condM (t := decide (x5 < 0)) rfl hm (fun hb10 hm => ?_) (fun hb10 hm => ?_)
  · refine CW.seq ?_
    refine CW.regionL ?_
    refine OW.cons (OP.val (v := (.int .i64 a2)) rfl (x_move) ?_)
    refine OW.cons (OP.val (v := (.int .i64 a2)) rfl (x_assign) ?_)
    refine OW.nil ?_
    refine CW.ret ?_
    obtain rfl := Option.some.inj hm
    exact RR1 rfl rfl ⟨rfl, hL.fresh 0 rfl [] (by decide) (by decide) rfl⟩
  · refine CW.skip ?_
    refine CW.seq ?_
    refine CW.regionL ?_
    refine OW.cons (OP.val (v := v3) rfl (x_move) ?_)
    refine OW.cons (OP.val (v := (.int .i64 x5)) rfl (x_move) ?_)
    refine OW.cons (OP.val (v := (.int .i64 a3)) rfl (x_move) ?_)
    obtain ⟨x11, hx12, hm⟩ := bndE hm
    refine OW.cons (OP.call rfl (x_call (vs := [v3, (.int .i64 x5), (.int .i64 a3)]) Try_C68 ⟨rfl, rfl, rfl, trivial⟩) (M.spec_l24Time_ok _ a1 (hL.rdS 0 rfl h4) x5 a3 hx12) ?_)
    rintro e13 wd14 ⟨rfl, hF15⟩
    refine ⟨_, rfl, ?_⟩
    have hL := hL.pushAll hF15
    simp only [List.cons_append, List.nil_append, List.set_cons_zero, List.set_cons_succ] at hL
    refine OW.cons (OP.val (v := (.int .i64 x11)) rfl (x_assign) ?_)
    refine OW.nil ?_
    refine CW.ret ?_
    obtain rfl := Option.some.inj hm
    exact RR1 rfl rfl ⟨rfl, hL.fresh 0 rfl [] (by decide) (by decide) rfl⟩

theorem M.spec_CurveCorrected_ok (w0 : World) (a0 : List CurvePoint) {v1 : Value} (h2 : rdL (· < w0.heap.size) w0 v1 a0) (a1 : List CurvePoint) {v3 : Value} (h4 : rdL (· < w0.heap.size) w0 v3 a1) (a2 : Int) (a3 : Int) {r : Int × Int} (hm : M.spec_CurveCorrected a0 a1 a2 a3 = some r) :
    Calls Try.prog 14 #[v1, v3, (.int .i64 a2), (.int .i64 a3)] w0 fun e w' => e = .returned (.tuple #[(.int .i64 r.1), (.int .i64 r.2)]) ∧ Fresh w0 w' [] := by
  unfold M.spec_CurveCorrected at hm
  refine calls_CW (args := [v1, v3, (.int .i64 a2), (.int .i64 a3)]) Try.func14 rfl rfl rfl ?_
  have hL := Hp.start w0
  refine CW.seq ?_
  refine CW.regionL ?_
  refine OW.cons (OP.val (v := (.int .i64 0)) rfl (x_assign) ?_)
  refine OW.cons (OP.val (v := (.int .i64 0)) rfl (x_assign) ?_)
  refine OW.nil ?_
  refine CW.seq ?_
  refine CW.seqJ (fun (s_j1 : Bool) (F : Fr) (w : World) => F 0 = v1 ∧ F 1 = v3 ∧ F 2 = (.int .i64 a2) ∧ F 3 = (.int .i64 a3) ∧ F 17 = (.bool s_j1) ∧ Hp w0 [Ent.snap w0 w0.heap.size] w) (fun s_j1 => M.spec_CurveCorrected_j1 a0 a1 a2 a3 s_j1 = some r) ?_ ?_
  · refine CW.regionL ?_
    refine OW.cons (OP.val (v := v1) rfl (x_move) ?_)
    obtain ⟨x59, hx60, hm⟩ := bndE hm
    refine OW.cons (OP.call rfl (x_call (vs := [v1]) Try_C35 ⟨rfl, trivial⟩) (M.spec_IsCurve_ok _ a0 (hL.rdS 0 rfl h2) hx60) ?_)
    rintro e61 wd62 ⟨rfl, hF63⟩
    refine ⟨_, rfl, ?_⟩
    have hL := hL.pushAll hF63
    simp only [List.cons_append, List.nil_append, List.set_cons_zero, List.set_cons_succ] at hL
    refine OW.cons (OP.val (v := (.bool (!x59))) rfl (x_not rfl) ?_)
    refine OW.cons (OP.val (v := (.bool (!x59))) rfl (x_move) ?_)
    refine ifB_elim hm (fun hb64 hm => ?_) (fun hb64 hm => ?_)
    · refine OW.cons (OP.no' rfl rfl hb64 rfl ?_)
      refine OW.cons (OP.no' rfl rfl hb64 rfl ?_)
      refine OW.cons (OP.no' rfl rfl hb64 rfl ?_)
      refine OW.cons (OP.val (v := (.bool true)) rfl (x_pickT' rfl hb64 rfl) ?_)
      refine OW.nil ?_
      exact ⟨true, hm, ⟨rfl, rfl, rfl, rfl, rfl, hL⟩⟩
    · refine OW.cons (OP.yes' rfl rfl hb64 (OP.val (v := v3) rfl (x_move) ?_))
      obtain ⟨x65, hx66, hm⟩ := bndE hm
      refine OW.cons (OP.yes' rfl rfl hb64 (OP.call rfl (x_call (vs := [v3]) Try_C35 ⟨rfl, trivial⟩) (M.spec_IsCurve_ok _ a1 (hL.rdS 0 rfl h4) hx66) ?_))
      rintro e67 wd68 ⟨rfl, hF69⟩
      refine ⟨_, rfl, ?_⟩
      have hL := hL.pushAll hF69
      simp only [List.cons_append, List.nil_append, List.set_cons_zero, List.set_cons_succ] at hL
      refine OW.cons (OP.yes' rfl rfl hb64 (OP.val (v := (.bool (!x65))) rfl (x_not rfl) ?_))
      refine OW.cons (OP.val (v := (.bool (!x65))) rfl (x_pickF' rfl hb64 rfl) ?_)
      refine OW.nil ?_
      exact ⟨!x65, hm, ⟨rfl, rfl, rfl, rfl, rfl, hL⟩⟩
  · intro s_j1 F16 wd17 hJ hm
    unfold M.spec_CurveCorrected_j1 at hm
    obtain ⟨f18, f19, f20, f21, f22, hL⟩ := hJ
    refine CW.condM (t := s_j1) f22 hm (fun hb23 hm => ?_) (fun hb23 hm => ?_)
    · refine CW.seq ?_
      refine CW.regionL ?_
      refine OW.cons (OP.val (v := (.int .i64 0)) rfl (x_assign) ?_)
      refine OW.cons (OP.val (v := (.int .i64 1)) rfl (x_assign) ?_)
      refine OW.nil ?_
      refine CW.ret ?_
      obtain rfl := Option.some.inj hm
      exact RR2 rfl rfl rfl ⟨rfl, hL.fresh 0 rfl [] (by decide) (by decide) rfl⟩
    · refine CW.skip ?_
      refine CW.seq ?_
      refine CW.seqJ (fun (s_j2 : Bool) (F : Fr) (w : World) => F 0 = v1 ∧ F 1 = v3 ∧ F 2 = (.int .i64 a2) ∧ F 3 = (.int .i64 a3) ∧ F 25 = (.bool s_j2) ∧ Hp w0 [Ent.snap w0 w0.heap.size] w) (fun s_j2 => M.spec_CurveCorrected_j2 a0 a1 a2 a3 s_j2 = some r) ?_ ?_
      · refine CW.regionL ?_
        refine OW.cons (OP.val (v := (.int .i64 a2)) rfl (x_mv f20) ?_)
        obtain ⟨x48, hx49, hm⟩ := bndE hm
        refine OW.cons (OP.call rfl (x_call (vs := [(.int .i64 a2)]) Try_C36 ⟨rfl, trivial⟩) (M.spec_l22Time_ok _ a2 hx49) ?_)
        rintro e50 wd51 ⟨rfl, hF52⟩
        refine ⟨_, rfl, ?_⟩
        have hL := hL.pushAll hF52
        simp only [List.cons_append, List.nil_append, List.set_cons_zero, List.set_cons_succ] at hL
        refine OW.cons (OP.val (v := (.bool (!x48))) rfl (x_not rfl) ?_)
        refine OW.cons (OP.val (v := (.bool (!x48))) rfl (x_move) ?_)
        refine ifB_elim hm (fun hb53 hm => ?_) (fun hb53 hm => ?_)
        · refine OW.cons (OP.no' rfl rfl hb53 rfl ?_)
          refine OW.cons (OP.no' rfl rfl hb53 rfl ?_)
          refine OW.cons (OP.no' rfl rfl hb53 rfl ?_)
          refine OW.cons (OP.val (v := (.bool true)) rfl (x_pickT' rfl hb53 rfl) ?_)
          refine OW.nil ?_
          exact ⟨true, hm, ⟨f18, f19, f20, f21, rfl, hL⟩⟩
        · refine OW.cons (OP.yes' rfl rfl hb53 (OP.val (v := (.int .i64 a3)) rfl (x_mv f21) ?_))
          obtain ⟨x54, hx55, hm⟩ := bndE hm
          refine OW.cons (OP.yes' rfl rfl hb53 (OP.call rfl (x_call (vs := [(.int .i64 a3)]) Try_C37 ⟨rfl, trivial⟩) (M.spec_l23Distance_ok _ a3 hx55) ?_))
          rintro e56 wd57 ⟨rfl, hF58⟩
          refine ⟨_, rfl, ?_⟩
          have hL := hL.pushAll hF58
          simp only [List.cons_append, List.nil_append, List.set_cons_zero, List.set_cons_succ] at hL
          refine OW.cons (OP.yes' rfl rfl hb53 (OP.val (v := (.bool (!x54))) rfl (x_not rfl) ?_))
          refine OW.cons (OP.val (v := (.bool (!x54))) rfl (x_pickF' rfl hb53 rfl) ?_)
          refine OW.nil ?_
          exact ⟨!x54, hm, ⟨f18, f19, f20, f21, rfl, hL⟩⟩
      · intro s_j2 F35 wd36 hJ hm
        unfold M.spec_CurveCorrected_j2 at hm
        obtain ⟨f37, f38, f39, f40, f41, hL⟩ := hJ
        refine CW.condM (t := s_j2) f41 hm (fun hb42 hm => ?_) (fun hb42 hm => ?_)
        · refine CW.seq ?_
          refine CW.regionL ?_
          refine OW.cons (OP.val (v := (.int .i64 0)) rfl (x_assign) ?_)
          refine OW.cons (OP.val (v := (.int .i64 2)) rfl (x_assign) ?_)
          refine OW.nil ?_
          refine CW.ret ?_
          obtain rfl := Option.some.inj hm
          exact RR2 rfl rfl rfl ⟨rfl, hL.fresh 0 rfl [] (by decide) (by decide) rfl⟩
        · refine CW.skip ?_
          refine CW.seq ?_
          refine CW.regionL ?_
          refine OW.cons (OP.val (v := v1) rfl (x_mv f37) ?_)
          refine OW.cons (OP.val (v := v3) rfl (x_mv f38) ?_)
          refine OW.cons (OP.val (v := (.int .i64 a2)) rfl (x_mv f39) ?_)
          refine OW.cons (OP.val (v := (.int .i64 a3)) rfl (x_mv f40) ?_)
          obtain ⟨x43, hx44, hm⟩ := bndE hm
          refine OW.cons (OP.call rfl (x_call (vs := [v1, v3, (.int .i64 a2), (.int .i64 a3)]) Try_C45 ⟨rfl, rfl, rfl, rfl, trivial⟩) (M.spec_l24Corrected_ok _ a0 (hL.rdS 0 rfl h2) a1 (hL.rdS 0 rfl h4) a2 a3 hx44) ?_)
          rintro e45 wd46 ⟨rfl, hF47⟩
          refine ⟨_, rfl, ?_⟩
          have hL := hL.pushAll hF47
          simp only [List.cons_append, List.nil_append, List.set_cons_zero, List.set_cons_succ] at hL
          refine OW.cons (OP.val (v := (.int .i64 x43)) rfl (x_assign) ?_)
          refine OW.cons (OP.val (v := (.int .i64 0)) rfl (x_assign) ?_)
          refine OW.nil ?_
          refine CW.ret ?_
          obtain rfl := Option.some.inj hm
          exact RR2 rfl rfl rfl ⟨rfl, hL.fresh 0 rfl [] (by decide) (by decide) rfl⟩

theorem M.impl_curveCorrected_ok (w0 : World) (a0 : List CurvePoint) {v1 : Value} (h2 : rdL (· < w0.heap.size) w0 v1 a0) (a1 : List CurvePoint) {v3 : Value} (h4 : rdL (· < w0.heap.size) w0 v3 a1) (a2 : Int) (a3 : Int) {r : Int} (hm : M.impl_curveCorrected a0 a1 a2 a3 = some r) :
    Calls Try.prog 46 #[v1, v3, (.int .i64 a2), (.int .i64 a3)] w0 fun e w' => e = .returned (.int .i64 r) ∧ Fresh w0 w' [] := by
  unfold M.impl_curveCorrected at hm
  refine calls_CW (args := [v1, v3, (.int .i64 a2), (.int .i64 a3)]) Try.func46 rfl rfl rfl ?_
  have hL := Hp.start w0
  refine CW.seq ?_
  refine CW.regionL ?_
  refine OW.cons (OP.val (v := (.int .i64 0)) rfl (x_assign) ?_)
  refine OW.nil ?_
  refine CW.seq ?_
  refine CW.regionL ?_
  refine OW.cons (OP.val (v := v1) rfl (x_move) ?_)
  refine OW.cons (OP.val (v := (.int .i64 a2)) rfl (x_move) ?_)
  refine OW.cons (OP.val (v := (.int .i64 a3)) rfl (x_move) ?_)
  obtain ⟨x5, hx6, hm⟩ := bndE hm
  refine OW.cons (OP.call rfl (x_call (vs := [v1, (.int .i64 a2), (.int .i64 a3)]) Try_C43 ⟨rfl, rfl, rfl, trivial⟩) (M.impl_impliedWind_ok _ a0 (hL.rdS 0 rfl h2) a2 a3 hx6) ?_)
  rintro e7 wd8 ⟨rfl, hF9⟩
  refine ⟨_, rfl, ?_⟩
  have hL := hL.pushAll hF9
  simp only [List.cons_append, List.nil_append, List.set_cons_zero, List.set_cons_succ] at hL
  refine OW.cons (OP.val (v := (.int .i64 x5)) rfl (x_assign) ?_)
  refine OW.nil ?_
  refine CW.seq ?_
  refine CW.seq ?_
  refine CW.regionL ?_
  refine OW.cons (OP.val (v := (.int .i64 x5)) rfl (x_move) ?_)
  refine OW.cons (OP.val (v := (.bool (decide (x5 < 0)))) rfl (x_lss rfl rfl) ?_)
  refine OW.nil ?_
  refine CW.condM (t := decide (x5 < 0)) rfl hm (fun hb10 hm => ?_) (fun hb10 hm => ?_)
  · refine CW.seq ?_
    refine CW.regionL ?_
    refine OW.cons (OP.val (v := (.int .i64 a2)) rfl (x_move) ?_)
    refine OW.cons (OP.val (v := (.int .i64 a2)) rfl (x_assign) ?_)
    refine OW.nil ?_
    refine CW.ret ?_
    obtain rfl := Option.some.inj hm
    exact RR1 rfl rfl ⟨rfl, hL.fresh 0 rfl [] (by decide) (by decide) rfl⟩
  · refine CW.skip ?_
    refine CW.seq ?_
    refine CW.regionL ?_
    refine OW.cons (OP.val (v := v3) rfl (x_move) ?_)
    refine OW.cons (OP.val (v := (.int .i64 x5)) rfl (x_move) ?_)
    refine OW.cons (OP.val (v := (.int .i64 a3)) rfl (x_move) ?_)
    obtain ⟨x11, hx12, hm⟩ := bndE hm
    refine OW.cons (OP.call rfl (x_call (vs := [v3, (.int .i64 x5), (.int .i64 a3)]) Try_C51 ⟨rfl, rfl, rfl, trivial⟩) (M.impl_curveTime_ok _ a1 (hL.rdS 0 rfl h4) x5 a3 hx12) ?_)
    rintro e13 wd14 ⟨rfl, hF15⟩
    refine ⟨_, rfl, ?_⟩
    have hL := hL.pushAll hF15
    simp only [List.cons_append, List.nil_append, List.set_cons_zero, List.set_cons_succ] at hL
    refine OW.cons (OP.val (v := (.int .i64 x11)) rfl (x_assign) ?_)
    refine OW.nil ?_
    refine CW.ret ?_
    obtain rfl := Option.some.inj hm
    exact RR1 rfl rfl ⟨rfl, hL.fresh 0 rfl [] (by decide) (by decide) rfl⟩

theorem M.impl_CurveCorrected_ok (w0 : World) (a0 : List CurvePoint) {v1 : Value} (h2 : rdL (· < w0.heap.size) w0 v1 a0) (a1 : List CurvePoint) {v3 : Value} (h4 : rdL (· < w0.heap.size) w0 v3 a1) (a2 : Int) (a3 : Int) {r : Int × Int} (hm : M.impl_CurveCorrected a0 a1 a2 a3 = some r) :
    Calls Try.prog 15 #[v1, v3, (.int .i64 a2), (.int .i64 a3)] w0 fun e w' => e = .returned (.tuple #[(.int .i64 r.1), (.int .i64 r.2)]) ∧ Fresh w0 w' [] := by
  unfold M.impl_CurveCorrected at hm
  refine calls_CW (args := [v1, v3, (.int .i64 a2), (.int .i64 a3)]) Try.func15 rfl rfl rfl ?_
  have hL := Hp.start w0
  refine CW.seq ?_
  refine CW.regionL ?_
  refine OW.cons (OP.val (v := (.int .i64 0)) rfl (x_assign) ?_)
  refine OW.cons (OP.val (v := (.int .i64 0)) rfl (x_assign) ?_)
  refine OW.nil ?_
  refine CW.seq ?_
  refine CW.seqJ (fun (s_j1 : Bool) (F : Fr) (w : World) => F 0 = v1 ∧ F 1 = v3 ∧ F 2 = (.int .i64 a2) ∧ F 3 = (.int .i64 a3) ∧ F 17 = (.bool s_j1) ∧ Hp w0 [Ent.snap w0 w0.heap.size] w) (fun s_j1 => M.impl_CurveCorrected_j1 a0 a1 a2 a3 s_j1 = some r) ?_ ?_
  · refine CW.regionL ?_
    refine OW.cons (OP.val (v := v1) rfl (x_move) ?_)
    obtain ⟨x59, hx60, hm⟩ := bndE hm
    refine OW.cons (OP.call rfl (x_call (vs := [v1]) Try_C40 ⟨rfl, trivial⟩) (M.impl_IsCurve_ok _ a0 (hL.rdS 0 rfl h2) hx60) ?_)
    rintro e61 wd62 ⟨rfl, hF63⟩
    refine ⟨_, rfl, ?_⟩
    have hL := hL.pushAll hF63
    simp only [List.cons_append, List.nil_append, List.set_cons_zero, List.set_cons_succ] at hL
    refine OW.cons (OP.val (v := (.bool (!x59))) rfl (x_not rfl) ?_)
    refine OW.cons (OP.val (v := (.bool (!x59))) rfl (x_move) ?_)
    refine ifB_elim hm (fun hb64 hm => ?_) (fun hb64 hm => ?_)
    · refine OW.cons (OP.no' rfl rfl hb64 rfl ?_)
      refine OW.cons (OP.no' rfl rfl hb64 rfl ?_)
      refine OW.cons (OP.no' rfl rfl hb64 rfl ?_)
      refine OW.cons (OP.val (v := (.bool true)) rfl (x_pickT' rfl hb64 rfl) ?_)
      refine OW.nil ?_
      exact ⟨true, hm, ⟨rfl, rfl, rfl, rfl, rfl, hL⟩⟩
    · refine OW.cons (OP.yes' rfl rfl hb64 (OP.val (v := v3) rfl (x_move) ?_))
      obtain ⟨x65, hx66, hm⟩ := bndE hm
      refine OW.cons (OP.yes' rfl rfl hb64 (OP.call rfl (x_call (vs := [v3]) Try_C40 ⟨rfl, trivial⟩) (M.impl_IsCurve_ok _ a1 (hL.rdS 0 rfl h4) hx66) ?_))
      rintro e67 wd68 ⟨rfl, hF69⟩
      refine ⟨_, rfl, ?_⟩
      have hL := hL.pushAll hF69
      simp only [List.cons_append, List.nil_append, List.set_cons_zero, List.set_cons_succ] at hL
      refine OW.cons (OP.yes' rfl rfl hb64 (OP.val (v := (.bool (!x65))) rfl (x_not rfl) ?_))
      refine OW.cons (OP.val (v := (.bool (!x65))) rfl (x_pickF' rfl hb64 rfl) ?_)
      refine OW.nil ?_
      exact ⟨!x65, hm, ⟨rfl, rfl, rfl, rfl, rfl, hL⟩⟩
  · intro s_j1 F16 wd17 hJ hm
    unfold M.impl_CurveCorrected_j1 at hm
    obtain ⟨f18, f19, f20, f21, f22, hL⟩ := hJ
    refine CW.condM (t := s_j1) f22 hm (fun hb23 hm => ?_) (fun hb23 hm => ?_)
    · refine CW.seq ?_
      refine CW.regionL ?_
      refine OW.cons (OP.val (v := (.int .i64 0)) rfl (x_assign) ?_)
      refine OW.cons (OP.val (v := (.int .i64 1)) rfl (x_assign) ?_)
      refine OW.nil ?_
      refine CW.ret ?_
      obtain rfl := Option.some.inj hm
      exact RR2 rfl rfl rfl ⟨rfl, hL.fresh 0 rfl [] (by decide) (by decide) rfl⟩
    · refine CW.skip ?_
      refine CW.seq ?_
      refine CW.seqJ (fun (s_j2 : Bool) (F : Fr) (w : World) => F 0 = v1 ∧ F 1 = v3 ∧ F 2 = (.int .i64 a2) ∧ F 3 = (.int .i64 a3) ∧ F 25 = (.bool s_j2) ∧ Hp w0 [Ent.snap w0 w0.heap.size] w) (fun s_j2 => M.impl_CurveCorrected_j2 a0 a1 a2 a3 s_j2 = some r) ?_ ?_
      · refine CW.regionL ?_
        refine OW.cons (OP.val (v := (.int .i64 a2)) rfl (x_mv f20) ?_)
        obtain ⟨x48, hx49, hm⟩ := bndE hm
        refine OW.cons (OP.call rfl (x_call (vs := [(.int .i64 a2)]) Try_C41 ⟨rfl, trivial⟩) (M.impl_isElapsed_ok _ a2 hx49) ?_)
        rintro e50 wd51 ⟨rfl, hF52⟩
        refine ⟨_, rfl, ?_⟩
        have hL := hL.pushAll hF52
        simp only [List.cons_append, List.nil_append, List.set_cons_zero, List.set_cons_succ] at hL
        refine OW.cons (OP.val (v := (.bool (!x48))) rfl (x_not rfl) ?_)
        refine OW.cons (OP.val (v := (.bool (!x48))) rfl (x_move) ?_)
        refine ifB_elim hm (fun hb53 hm => ?_) (fun hb53 hm => ?_)
        · refine OW.cons (OP.no' rfl rfl hb53 rfl ?_)
          refine OW.cons (OP.no' rfl rfl hb53 rfl ?_)
          refine OW.cons (OP.no' rfl rfl hb53 rfl ?_)
          refine OW.cons (OP.val (v := (.bool true)) rfl (x_pickT' rfl hb53 rfl) ?_)
          refine OW.nil ?_
          exact ⟨true, hm, ⟨f18, f19, f20, f21, rfl, hL⟩⟩
        · refine OW.cons (OP.yes' rfl rfl hb53 (OP.val (v := (.int .i64 a3)) rfl (x_mv f21) ?_))
          obtain ⟨x54, hx55, hm⟩ := bndE hm
          refine OW.cons (OP.yes' rfl rfl hb53 (OP.call rfl (x_call (vs := [(.int .i64 a3)]) Try_C42 ⟨rfl, trivial⟩) (M.impl_isDistance_ok _ a3 hx55) ?_))
          rintro e56 wd57 ⟨rfl, hF58⟩
          refine ⟨_, rfl, ?_⟩
          have hL := hL.pushAll hF58
          simp only [List.cons_append, List.nil_append, List.set_cons_zero, List.set_cons_succ] at hL
          refine OW.cons (OP.yes' rfl rfl hb53 (OP.val (v := (.bool (!x54))) rfl (x_not rfl) ?_))
          refine OW.cons (OP.val (v := (.bool (!x54))) rfl (x_pickF' rfl hb53 rfl) ?_)
          refine OW.nil ?_
          exact ⟨!x54, hm, ⟨f18, f19, f20, f21, rfl, hL⟩⟩
      · intro s_j2 F35 wd36 hJ hm
        unfold M.impl_CurveCorrected_j2 at hm
        obtain ⟨f37, f38, f39, f40, f41, hL⟩ := hJ
        refine CW.condM (t := s_j2) f41 hm (fun hb42 hm => ?_) (fun hb42 hm => ?_)
        · refine CW.seq ?_
          refine CW.regionL ?_
          refine OW.cons (OP.val (v := (.int .i64 0)) rfl (x_assign) ?_)
          refine OW.cons (OP.val (v := (.int .i64 2)) rfl (x_assign) ?_)
          refine OW.nil ?_
          refine CW.ret ?_
          obtain rfl := Option.some.inj hm
          exact RR2 rfl rfl rfl ⟨rfl, hL.fresh 0 rfl [] (by decide) (by decide) rfl⟩
        · refine CW.skip ?_
          refine CW.seq ?_
          refine CW.regionL ?_
          refine OW.cons (OP.val (v := v1) rfl (x_mv f37) ?_)
          refine OW.cons (OP.val (v := v3) rfl (x_mv f38) ?_)
          refine OW.cons (OP.val (v := (.int .i64 a2)) rfl (x_mv f39) ?_)
          refine OW.cons (OP.val (v := (.int .i64 a3)) rfl (x_mv f40) ?_)
          obtain ⟨x43, hx44, hm⟩ := bndE hm
          refine OW.cons (OP.call rfl (x_call (vs := [v1, v3, (.int .i64 a2), (.int .i64 a3)]) Try_C46 ⟨rfl, rfl, rfl, rfl, trivial⟩) (M.impl_curveCorrected_ok _ a0 (hL.rdS 0 rfl h2) a1 (hL.rdS 0 rfl h4) a2 a3 hx44) ?_)
          rintro e45 wd46 ⟨rfl, hF47⟩
          refine ⟨_, rfl, ?_⟩
          have hL := hL.pushAll hF47
          simp only [List.cons_append, List.nil_append, List.set_cons_zero, List.set_cons_succ] at hL
          refine OW.cons (OP.val (v := (.int .i64 x43)) rfl (x_assign) ?_)
          refine OW.cons (OP.val (v := (.int .i64 0)) rfl (x_assign) ?_)
          refine OW.nil ?_
          refine CW.ret ?_
          obtain rfl := Option.some.inj hm
          exact RR2 rfl rfl rfl ⟨rfl, hL.fresh 0 rfl [] (by decide) (by decide) rfl⟩

theorem M.laws_FnExactCurveCorrected_ok (w0 : World) (a0 : List CurvePoint) {v1 : Value} (h2 : rdL (· < w0.heap.size) w0 v1 a0) (a1 : List CurvePoint) {v3 : Value} (h4 : rdL (· < w0.heap.size) w0 v3 a1) (a2 : Int) (a3 : Int) {r : Bool} (hm : M.laws_FnExactCurveCorrected a0 a1 a2 a3 = some r) :
    Calls Try.prog 4 #[v1, v3, (.int .i64 a2), (.int .i64 a3)] w0 fun e w' => e = .returned (.bool r) ∧ Fresh w0 w' [] := by
  unfold M.laws_FnExactCurveCorrected at hm
  refine calls_CW (args := [v1, v3, (.int .i64 a2), (.int .i64 a3)]) Try.func4 rfl rfl rfl ?_
  have hL := Hp.start w0
  refine CW.seq ?_
  refine CW.regionL ?_
  refine OW.cons (OP.val (v := (.bool false)) rfl (x_assign) ?_)
  refine OW.nil ?_
  refine CW.seq ?_
  refine CW.regionL ?_
  refine OW.cons (OP.val (v := (.int .i64 1048576)) rfl (x_assign) ?_)
  refine OW.nil ?_
  refine CW.seq ?_
  refine CW.regionL ?_
  refine OW.cons (OP.val (v := v1) rfl (x_move) ?_)
  refine OW.cons (OP.val (v := (.int .i64 1048576)) rfl (x_move) ?_)
  obtain ⟨x5, hx6, hm⟩ := bndE hm
  refine OW.cons (OP.call rfl (x_call (vs := [v1, (.int .i64 1048576)]) Try_C9 ⟨rfl, rfl, trivial⟩) (M.laws_szCurvePointS_ok _ a0 (hL.rdS 0 rfl h2) 1048576 hx6) ?_)
  rintro e7 wd8 ⟨rfl, hF9⟩
  refine ⟨_, rfl, ?_⟩
  have hL := hL.pushAll hF9
  simp only [List.cons_append, List.nil_append, List.set_cons_zero, List.set_cons_succ] at hL
  refine OW.cons (OP.val (v := (.int .i64 x5)) rfl (x_assign) ?_)
  refine OW.nil ?_
  refine CW.seq ?_
  refine CW.seq ?_
  refine CW.regionL ?_
  refine OW.cons (OP.val (v := (.int .i64 x5)) rfl (x_move) ?_)
  refine OW.cons (OP.val (v := (.bool (decide (x5 < 0)))) rfl (x_lss rfl rfl) ?_)
  refine OW.nil ?_
  refine CW.condM (t := decide (x5 < 0)) rfl hm (fun hb10 hm => ?_) (fun hb10 hm => ?_)
  · refine CW.seq ?_
    refine CW.regionL ?_
    refine OW.cons (OP.val (v := (.bool true)) rfl (x_assign) ?_)
    refine OW.nil ?_
    refine CW.ret ?_
    obtain rfl := Option.some.inj hm
    exact RR1 rfl rfl ⟨rfl, hL.fresh 0 rfl [] (by decide) (by decide) rfl⟩
  · refine CW.skip ?_
    refine CW.seq ?_
    refine CW.regionL ?_
    refine OW.cons (OP.val (v := v3) rfl (x_move) ?_)
    refine OW.cons (OP.val (v := (.int .i64 x5)) rfl (x_move) ?_)
    obtain ⟨x11, hx12, hm⟩ := bndE hm
    refine OW.cons (OP.call rfl (x_call (vs := [v3, (.int .i64 x5)]) Try_C9 ⟨rfl, rfl, trivial⟩) (M.laws_szCurvePointS_ok _ a1 (hL.rdS 0 rfl h4) x5 hx12) ?_)
    rintro e13 wd14 ⟨rfl, hF15⟩
    refine ⟨_, rfl, ?_⟩
    have hL := hL.pushAll hF15
    simp only [List.cons_append, List.nil_append, List.set_cons_zero, List.set_cons_succ] at hL
    refine OW.cons (OP.val (v := (.int .i64 x11)) rfl (x_assign) ?_)
    refine OW.nil ?_
    refine CW.seq ?_
    refine CW.seq ?_
    refine CW.regionL ?_
    refine OW.cons (OP.val (v := (.int .i64 x11)) rfl (x_move) ?_)
    refine OW.cons (OP.val (v := (.bool (decide (x11 < 0)))) rfl (x_lss rfl rfl) ?_)
    refine OW.nil ?_
    refine CW.condM (t := decide (x11 < 0)) rfl hm (fun hb16 hm => ?_) (fun hb16 hm => ?_)
    · refine CW.seq ?_
      refine CW.regionL ?_
      refine OW.cons (OP.val (v := (.bool true)) rfl (x_assign) ?_)
      refine OW.nil ?_
      refine CW.ret ?_
      obtain rfl := Option.some.inj hm
      exact RR1 rfl rfl ⟨rfl, hL.fresh 0 rfl [] (by decide) (by decide) rfl⟩
    · refine CW.skip ?_
      refine CW.seq ?_
      refine CW.regionL ?_
      refine OW.cons (OP.val (v := v1) rfl (x_move) ?_)
      obtain ⟨x17, hx18, hm⟩ := bndE hm
      refine OW.cons (OP.call rfl (x_call (vs := [v1]) Try_C11 ⟨rfl, trivial⟩) (M.laws_toCurvePointS_ok _ a0 (hL.rdS 0 rfl h2) hx18) ?_)
      rintro e21 wd22 ⟨v20, S19, rfl, hF23⟩
      refine ⟨_, rfl, ?_⟩
      have hL := hL.pushAll hF23
      simp only [List.cons_append, List.nil_append, List.set_cons_zero, List.set_cons_succ] at hL
      refine OW.cons (OP.val (v := v3) rfl (x_move) ?_)
      obtain ⟨x24, hx25, hm⟩ := bndE hm
      refine OW.cons (OP.call rfl (x_call (vs := [v3]) Try_C11 ⟨rfl, trivial⟩) (M.laws_toCurvePointS_ok _ a1 (hL.rdS 1 rfl h4) hx25) ?_)
      rintro e28 wd29 ⟨v27, S26, rfl, hF30⟩
      refine ⟨_, rfl, ?_⟩
      have hL := hL.pushAll hF30
      simp only [List.cons_append, List.nil_append, List.set_cons_zero, List.set_cons_succ] at hL
      refine OW.cons (OP.val (v := (.int .i64 a2)) rfl (x_move) ?_)
      refine OW.cons (OP.val (v := (.int .i64 a3)) rfl (x_move) ?_)
      obtain ⟨x31, hx32, hm⟩ := bndE hm
      refine OW.cons (OP.call rfl (x_call (vs := [v20, v27, (.int .i64 a2), (.int .i64 a3)]) Try_C14 ⟨rfl, rfl, rfl, rfl, trivial⟩) (M.spec_CurveCorrected_ok _ x17 (hL.rdO 1 rfl) x24 (hL.rdO 0 rfl) a2 a3 hx32) ?_)
      rintro e33 wd34 ⟨rfl, hF35⟩
      refine ⟨_, rfl, ?_⟩
      have hL := hL.pushAll hF35
      simp only [List.cons_append, List.nil_append, List.set_cons_zero, List.set_cons_succ] at hL
      refine OW.cons (OP.val (v := (.tuple #[(.int .i64 x31.1), (.int .i64 x31.2)])) rfl (x_move) ?_)
      refine OW.cons (OP.val (v := (.int .i64 x31.1)) rfl (x_extract rfl rfl) ?_)
      refine OW.cons (OP.val (v := (.int .i64 x31.2)) rfl (x_extract rfl rfl) ?_)
      refine OW.cons (OP.val (v := (.int .i64 x31.1)) rfl (x_assign) ?_)
      refine OW.cons (OP.val (v := (.int .i64 x31.2)) rfl (x_assign) ?_)
      refine OW.nil ?_
      refine CW.seq ?_
      refine CW.regionL ?_
      refine OW.cons (OP.val (v := v1) rfl (x_move) ?_)
      obtain ⟨x36, hx37, hm⟩ := bndE hm
      refine OW.cons (OP.call rfl (x_call (vs := [v1]) Try_C11 ⟨rfl, trivial⟩) (M.laws_toCurvePointS_ok _ a0 (hL.rdS 2 rfl h2) hx37) ?_)
      rintro e40 wd41 ⟨v39, S38, rfl, hF42⟩
      refine ⟨_, rfl, ?_⟩
      have hL := hL.pushAll hF42
      simp only [List.cons_append, List.nil_append, List.set_cons_zero, List.set_cons_succ] at hL
      refine OW.cons (OP.val (v := v39) rfl (x_assign) ?_)
      refine OW.nil ?_
      refine CW.seq ?_
      refine CW.regionL ?_
      refine OW.cons (OP.val (v := v3) rfl (x_move) ?_)
      obtain ⟨x43, hx44, hm⟩ := bndE hm
      refine OW.cons (OP.call rfl (x_call (vs := [v3]) Try_C11 ⟨rfl, trivial⟩) (M.laws_toCurvePointS_ok _ a1 (hL.rdS 3 rfl h4) hx44) ?_)
      rintro e47 wd48 ⟨v46, S45, rfl, hF49⟩
      refine ⟨_, rfl, ?_⟩
      have hL := hL.pushAll hF49
      simp only [List.cons_append, List.nil_append, List.set_cons_zero, List.set_cons_succ] at hL
      refine OW.cons (OP.val (v := v46) rfl (x_assign) ?_)
      refine OW.nil ?_
      refine CW.seq ?_
      refine CW.regionL ?_
      refine OW.cons (OP.val (v := v39) rfl (x_move) ?_)
      refine OW.cons (OP.val (v := v46) rfl (x_move) ?_)
      refine OW.cons (OP.val (v := (.int .i64 a2)) rfl (x_move) ?_)
      refine OW.cons (OP.val (v := (.int .i64 a3)) rfl (x_move) ?_)
      obtain ⟨x50, hx51, hm⟩ := bndE hm
      refine OW.cons (OP.call rfl (x_call (vs := [v39, v46, (.int .i64 a2), (.int .i64 a3)]) Try_C15 ⟨rfl, rfl, rfl, rfl, trivial⟩) (M.impl_CurveCorrected_ok _ x36 (hL.rdO 1 rfl) x43 (hL.rdO 0 rfl) a2 a3 hx51) ?_)
      rintro e52 wd53 ⟨rfl, hF54⟩
      refine ⟨_, rfl, ?_⟩
      have hL := hL.pushAll hF54
      simp only [List.cons_append, List.nil_append, List.set_cons_zero, List.set_cons_succ] at hL
      refine OW.cons (OP.val (v := (.tuple #[(.int .i64 x50.1), (.int .i64 x50.2)])) rfl (x_move) ?_)
      refine OW.cons (OP.val (v := (.int .i64 x50.1)) rfl (x_extract rfl rfl) ?_)
      refine OW.cons (OP.val (v := (.int .i64 x50.2)) rfl (x_extract rfl rfl) ?_)
      refine OW.cons (OP.val (v := (.int .i64 x50.1)) rfl (x_assign) ?_)
      refine OW.cons (OP.val (v := (.int .i64 x50.2)) rfl (x_assign) ?_)
      refine OW.nil ?_
      refine CW.seq ?_
      refine CW.seqJ (fun (s_j1 : Bool) (F : Fr) (w : World) => F 0 = v1 ∧ F 1 = v3 ∧ F 12 = v39 ∧ F 13 = v46 ∧ F 55 = (.bool s_j1) ∧ Hp w0 [Ent.own 63 S45 v46 x43, Ent.own 63 S38 v39 x36, Ent.snap w0 w0.heap.size] w) (fun s_j1 => M.laws_FnExactCurveCorrected_j1 a0 a1 x36 x43 s_j1 = some r) ?_ ?_
      · refine CW.regionL ?_
        refine OW.cons (OP.val (v := (.int .i64 x50.1)) rfl (x_move) ?_)
        refine OW.cons (OP.val (v := (.int .i64 x31.1)) rfl (x_move) ?_)
        refine OW.cons (OP.val (v := (.bool (x50.1 != x31.1))) rfl (x_neq rfl rfl) ?_)
        refine OW.cons (OP.val (v := (.bool (x50.1 != x31.1))) rfl (x_move) ?_)
        refine ifB_elim hm (fun hb90 hm => ?_) (fun hb90 hm => ?_)
        · refine OW.cons (OP.no' rfl rfl hb90 rfl ?_)
          refine OW.cons (OP.no' rfl rfl hb90 rfl ?_)
          refine OW.cons (OP.no' rfl rfl hb90 rfl ?_)
          refine OW.cons (OP.val (v := (.bool true)) rfl (x_pickT' rfl hb90 rfl) ?_)
          refine OW.nil ?_
          have hL := hL.sel [0, 1, 4] (by decide) rfl
          exact ⟨true, hm, ⟨rfl, rfl, rfl, rfl, rfl, hL⟩⟩
        · refine OW.cons (OP.yes' rfl rfl hb90 (OP.val (v := (.int .i64 x50.2)) rfl (x_move) ?_))
          refine OW.cons (OP.yes' rfl rfl hb90 (OP.val (v := (.int .i64 x31.2)) rfl (x_move) ?_))
          refine OW.cons (OP.yes' rfl rfl hb90 (OP.val (v := (.bool (x50.2 != x31.2))) rfl (x_neq rfl rfl) ?_))
          refine OW.cons (OP.val (v := (.bool (x50.2 != x31.2))) rfl (x_pickF' rfl hb90 rfl) ?_)
          refine OW.nil ?_
          have hL := hL.sel [0, 1, 4] (by decide) rfl
          exact ⟨x50.2 != x31.2, hm, ⟨rfl, rfl, rfl, rfl, rfl, hL⟩⟩
      · intro s_j1 F56 wd57 hJ hm
        unfold M.laws_FnExactCurveCorrected_j1 at hm
        obtain ⟨f58, f59, f60, f61, f62, hL⟩ := hJ
        refine CW.condM (t := s_j1) f62 hm (fun hb63 hm => ?_) (fun hb63 hm => ?_)
        · refine CW.seq ?_
          refine CW.regionL ?_
          refine OW.cons (OP.val (v := (.bool false)) rfl (x_assign) ?_)
          refine OW.nil ?_
          refine CW.ret ?_
          obtain rfl := Option.some.inj hm
          exact RR1 rfl rfl ⟨rfl, hL.fresh 2 rfl [] (by decide) (by decide) rfl⟩
        · refine CW.skip ?_
          refine CW.seq ?_
          refine CW.seq ?_
          refine CW.regionL ?_
          refine OW.cons (OP.val (v := v39) rfl (x_mv f60) ?_)
          refine OW.cons (OP.val (v := v1) rfl (x_mv f58) ?_)
          obtain ⟨x64, hx65, hm⟩ := bndE hm
          refine OW.cons (OP.call rfl (x_call (vs := [v1]) Try_C11 ⟨rfl, trivial⟩) (M.laws_toCurvePointS_ok _ a0 (hL.rdS 2 rfl h2) hx65) ?_)
          rintro e68 wd69 ⟨v67, S66, rfl, hF70⟩
          refine ⟨_, rfl, ?_⟩
          have hL := hL.pushAll hF70
          simp only [List.cons_append, List.nil_append, List.set_cons_zero, List.set_cons_succ] at hL
          obtain ⟨x71, hx72, hm⟩ := bndE hm
          refine OW.cons (OP.call rfl (x_call (vs := [v39, v67]) Try_C13 ⟨rfl, rfl, trivial⟩) (M.laws_eqCurvePointS_ok _ x36 (hL.rdO 2 rfl) x64 (hL.rdO 0 rfl) hx72) ?_)
          rintro e73 wd74 ⟨rfl, hF75⟩
          refine ⟨_, rfl, ?_⟩
          have hL := hL.pushAll hF75
          simp only [List.cons_append, List.nil_append, List.set_cons_zero, List.set_cons_succ] at hL
          refine OW.cons (OP.val (v := (.bool (!x71))) rfl (x_not rfl) ?_)
          refine OW.nil ?_
          refine CW.condM (t := !x71) rfl hm (fun hb76 hm => ?_) (fun hb76 hm => ?_)
          · refine CW.seq ?_
            refine CW.regionL ?_
            refine OW.cons (OP.val (v := (.bool false)) rfl (x_assign) ?_)
            refine OW.nil ?_
            refine CW.ret ?_
            obtain rfl := Option.some.inj hm
            exact RR1 rfl rfl ⟨rfl, hL.fresh 3 rfl [] (by decide) (by decide) rfl⟩
          · refine CW.skip ?_
            refine CW.seq ?_
            refine CW.seq ?_
            refine CW.regionL ?_
            refine OW.cons (OP.val (v := v46) rfl (x_mv f61) ?_)
            refine OW.cons (OP.val (v := v3) rfl (x_mv f59) ?_)
            obtain ⟨x77, hx78, hm⟩ := bndE hm
            refine OW.cons (OP.call rfl (x_call (vs := [v3]) Try_C11 ⟨rfl, trivial⟩) (M.laws_toCurvePointS_ok _ a1 (hL.rdS 3 rfl h4) hx78) ?_)
            rintro e81 wd82 ⟨v80, S79, rfl, hF83⟩
            refine ⟨_, rfl, ?_⟩
            have hL := hL.pushAll hF83
            simp only [List.cons_append, List.nil_append, List.set_cons_zero, List.set_cons_succ] at hL
            obtain ⟨x84, hx85, hm⟩ := bndE hm
            refine OW.cons (OP.call rfl (x_call (vs := [v46, v80]) Try_C13 ⟨rfl, rfl, trivial⟩) (M.laws_eqCurvePointS_ok _ x43 (hL.rdO 2 rfl) x77 (hL.rdO 0 rfl) hx85) ?_)
            rintro e86 wd87 ⟨rfl, hF88⟩
            refine ⟨_, rfl, ?_⟩
            have hL := hL.pushAll hF88
            simp only [List.cons_append, List.nil_append, List.set_cons_zero, List.set_cons_succ] at hL
            refine OW.cons (OP.val (v := (.bool (!x84))) rfl (x_not rfl) ?_)
            refine OW.nil ?_
            refine CW.condM (t := !x84) rfl hm (fun hb89 hm => ?_) (fun hb89 hm => ?_)
            · refine CW.seq ?_
              refine CW.regionL ?_
              refine OW.cons (OP.val (v := (.bool false)) rfl (x_assign) ?_)
              refine OW.nil ?_
              refine CW.ret ?_
              obtain rfl := Option.some.inj hm
              exact RR1 rfl rfl ⟨rfl, hL.fresh 4 rfl [] (by decide) (by decide) rfl⟩
            · refine CW.skip ?_
              refine CW.seq ?_
              refine CW.regionL ?_
              refine OW.cons (OP.val (v := (.bool true)) rfl (x_assign) ?_)
              refine OW.nil ?_
              refine CW.ret ?_
              obtain rfl := Option.some.inj hm
              exact RR1 rfl rfl ⟨rfl, hL.fresh 4 rfl [] (by decide) (by decide) rfl⟩

end Go.Proofs.Ytkpabfpddkmlnaa
