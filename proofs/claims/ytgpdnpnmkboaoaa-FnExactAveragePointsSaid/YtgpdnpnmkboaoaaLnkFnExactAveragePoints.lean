/- Links: each Go function returns what its model computes and leaves what was there. Printed by my generator. -/
import Derived.Test.YtgpdnpnmkboaoaaMod2
import Derived.Test.YtgpdnpnmkboaoaaBase6
import Derived.Test.YtgpdnpnmkboaoaaProg
import Derived.KernelRfl
namespace Go.Proofs.Ytgpdnpnmkboaoaa
set_option maxRecDepth 10000
open Go Go.RowKit Go.ChangeShapes Go.WideShapes
set_option linter.unusedVariables false
set_option linter.unusedSimpArgs false

theorem Try_mixed : Try.prog.follows .mixedOrders = true := by kernel_rfl
theorem Try_T2 : TyI Try.prog 2 1 8 (.int .i64 0) := by unfold TyI; kernel_rfl
theorem Try_T4 : TyI Try.prog 4 1 1 (.bool false) := by unfold TyI; kernel_rfl
theorem Try_T22 : TyI Try.prog 22 1 24 (.slice none 0 0) := by unfold TyI; kernel_rfl
theorem Try_T24 : TyI Try.prog 24 3 56 (.agg #[.int .i64 0, .slice none 0 0, .slice none 0 0]) := by unfold TyI; kernel_rfl
theorem Try_T25 : TyI Try.prog 25 1 24 (.slice none 0 0) := by unfold TyI; kernel_rfl
theorem Try_T29 : TyI Try.prog 29 3 56 (.agg #[.int .i64 0, .slice none 0 0, .slice none 0 0]) := by unfold TyI; kernel_rfl
theorem Try_C10 : CallOK Try.prog 10 := ⟨_, _, Try.func10, rfl, by kernel_rfl⟩
theorem Try_C11 : CallOK Try.prog 11 := ⟨_, _, Try.func11, rfl, by kernel_rfl⟩
theorem Try_C12 : CallOK Try.prog 12 := ⟨_, _, Try.func12, rfl, by kernel_rfl⟩
theorem Try_C13 : CallOK Try.prog 13 := ⟨_, _, Try.func13, rfl, by kernel_rfl⟩
theorem Try_C14 : CallOK Try.prog 14 := ⟨_, _, Try.func14, rfl, by kernel_rfl⟩
theorem Try_C15 : CallOK Try.prog 15 := ⟨_, _, Try.func15, rfl, by kernel_rfl⟩
theorem Try_C16 : CallOK Try.prog 16 := ⟨_, _, Try.func16, rfl, by kernel_rfl⟩
theorem Try_C17 : CallOK Try.prog 17 := ⟨_, _, Try.func17, rfl, by kernel_rfl⟩
theorem Try_C18 : CallOK Try.prog 18 := ⟨_, _, Try.func18, rfl, by kernel_rfl⟩
theorem Try_C19 : CallOK Try.prog 19 := ⟨_, _, Try.func19, rfl, by kernel_rfl⟩
theorem Try_C20 : CallOK Try.prog 20 := ⟨_, _, Try.func20, rfl, by kernel_rfl⟩
theorem Try_C21 : CallOK Try.prog 21 := ⟨_, _, Try.func21, rfl, by kernel_rfl⟩
theorem Try_C22 : CallOK Try.prog 22 := ⟨_, _, Try.func22, rfl, by kernel_rfl⟩
theorem Try_C23 : CallOK Try.prog 23 := ⟨_, _, Try.func23, rfl, by kernel_rfl⟩
theorem Try_C24 : CallOK Try.prog 24 := ⟨_, _, Try.func24, rfl, by kernel_rfl⟩
theorem Try_C25 : CallOK Try.prog 25 := ⟨_, _, Try.func25, rfl, by kernel_rfl⟩
theorem Try_C26 : CallOK Try.prog 26 := ⟨_, _, Try.func26, rfl, by kernel_rfl⟩
theorem Try_C27 : CallOK Try.prog 27 := ⟨_, _, Try.func27, rfl, by kernel_rfl⟩
theorem Try_C28 : CallOK Try.prog 28 := ⟨_, _, Try.func28, rfl, by kernel_rfl⟩
theorem Try_C29 : CallOK Try.prog 29 := ⟨_, _, Try.func29, rfl, by kernel_rfl⟩
theorem Try_C30 : CallOK Try.prog 30 := ⟨_, _, Try.func30, rfl, by kernel_rfl⟩
theorem Try_C31 : CallOK Try.prog 31 := ⟨_, _, Try.func31, rfl, by kernel_rfl⟩
theorem Try_C32 : CallOK Try.prog 32 := ⟨_, _, Try.func32, rfl, by kernel_rfl⟩
theorem Try_C33 : CallOK Try.prog 33 := ⟨_, _, Try.func33, rfl, by kernel_rfl⟩
theorem Try_C34 : CallOK Try.prog 34 := ⟨_, _, Try.func34, rfl, by kernel_rfl⟩
theorem Try_C35 : CallOK Try.prog 35 := ⟨_, _, Try.func35, rfl, by kernel_rfl⟩
theorem Try_C36 : CallOK Try.prog 36 := ⟨_, _, Try.func36, rfl, by kernel_rfl⟩
theorem Try_C37 : CallOK Try.prog 37 := ⟨_, _, Try.func37, rfl, by kernel_rfl⟩
theorem Try_C38 : CallOK Try.prog 38 := ⟨_, _, Try.func38, rfl, by kernel_rfl⟩
theorem Try_C39 : CallOK Try.prog 39 := ⟨_, _, Try.func39, rfl, by kernel_rfl⟩
theorem Try_C40 : CallOK Try.prog 40 := ⟨_, _, Try.func40, rfl, by kernel_rfl⟩
theorem Try_C41 : CallOK Try.prog 41 := ⟨_, _, Try.func41, rfl, by kernel_rfl⟩
theorem Try_C42 : CallOK Try.prog 42 := ⟨_, _, Try.func42, rfl, by kernel_rfl⟩
theorem Try_C43 : CallOK Try.prog 43 := ⟨_, _, Try.func43, rfl, by kernel_rfl⟩
theorem Try_C44 : CallOK Try.prog 44 := ⟨_, _, Try.func44, rfl, by kernel_rfl⟩
theorem Try_C45 : CallOK Try.prog 45 := ⟨_, _, Try.func45, rfl, by kernel_rfl⟩
theorem Try_C46 : CallOK Try.prog 46 := ⟨_, _, Try.func46, rfl, by kernel_rfl⟩
theorem Try_C47 : CallOK Try.prog 47 := ⟨_, _, Try.func47, rfl, by kernel_rfl⟩
theorem Try_C48 : CallOK Try.prog 48 := ⟨_, _, Try.func48, rfl, by kernel_rfl⟩
theorem Try_C49 : CallOK Try.prog 49 := ⟨_, _, Try.func49, rfl, by kernel_rfl⟩
theorem Try_C50 : CallOK Try.prog 50 := ⟨_, _, Try.func50, rfl, by kernel_rfl⟩
theorem Try_C51 : CallOK Try.prog 51 := ⟨_, _, Try.func51, rfl, by kernel_rfl⟩
theorem Try_C52 : CallOK Try.prog 52 := ⟨_, _, Try.func52, rfl, by kernel_rfl⟩
theorem Try_C53 : CallOK Try.prog 53 := ⟨_, _, Try.func53, rfl, by kernel_rfl⟩
theorem Try_C54 : CallOK Try.prog 54 := ⟨_, _, Try.func54, rfl, by kernel_rfl⟩
theorem Try_C55 : CallOK Try.prog 55 := ⟨_, _, Try.func55, rfl, by kernel_rfl⟩
theorem Try_C56 : CallOK Try.prog 56 := ⟨_, _, Try.func56, rfl, by kernel_rfl⟩
theorem Try_C57 : CallOK Try.prog 57 := ⟨_, _, Try.func57, rfl, by kernel_rfl⟩
theorem Try_C58 : CallOK Try.prog 58 := ⟨_, _, Try.func58, rfl, by kernel_rfl⟩
theorem Try_C59 : CallOK Try.prog 59 := ⟨_, _, Try.func59, rfl, by kernel_rfl⟩
theorem Try_C60 : CallOK Try.prog 60 := ⟨_, _, Try.func60, rfl, by kernel_rfl⟩
theorem Try_C61 : CallOK Try.prog 61 := ⟨_, _, Try.func61, rfl, by kernel_rfl⟩
theorem Try_C62 : CallOK Try.prog 62 := ⟨_, _, Try.func62, rfl, by kernel_rfl⟩
theorem Try_C63 : CallOK Try.prog 63 := ⟨_, _, Try.func63, rfl, by kernel_rfl⟩
theorem Try_C64 : CallOK Try.prog 64 := ⟨_, _, Try.func64, rfl, by kernel_rfl⟩
theorem Try_C65 : CallOK Try.prog 65 := ⟨_, _, Try.func65, rfl, by kernel_rfl⟩
theorem Try_C66 : CallOK Try.prog 66 := ⟨_, _, Try.func66, rfl, by kernel_rfl⟩
theorem Try_C67 : CallOK Try.prog 67 := ⟨_, _, Try.func67, rfl, by kernel_rfl⟩
theorem Try_C68 : CallOK Try.prog 68 := ⟨_, _, Try.func68, rfl, by kernel_rfl⟩
theorem Try_C69 : CallOK Try.prog 69 := ⟨_, _, Try.func69, rfl, by kernel_rfl⟩
theorem Try_C70 : CallOK Try.prog 70 := ⟨_, _, Try.func70, rfl, by kernel_rfl⟩
theorem Try_C71 : CallOK Try.prog 71 := ⟨_, _, Try.func71, rfl, by kernel_rfl⟩
theorem Try_C77 : CallOK Try.prog 77 := ⟨_, _, Try.func77, rfl, by kernel_rfl⟩
theorem Try_C81 : CallOK Try.prog 81 := ⟨_, _, Try.func81, rfl, by kernel_rfl⟩
theorem Try_C82 : CallOK Try.prog 82 := ⟨_, _, Try.func82, rfl, by kernel_rfl⟩
theorem Try_C89 : CallOK Try.prog 89 := ⟨_, _, Try.func89, rfl, by kernel_rfl⟩

theorem M.laws_szInt64S_ok (w0 : World) (a0 : List Int) {v1 : Value} (h2 : rdL (· < w0.heap.size) w0 v1 a0) (a1 : Int) {r : Int} (hm : M.laws_szInt64S a0 a1 = some r) :
    Calls Try.prog 53 #[v1, (.int .i64 a1)] w0 fun e w' => e = .returned (.int .i64 r) ∧ Fresh w0 w' [] := by
  unfold M.laws_szInt64S at hm
  refine calls_CW (args := [v1, (.int .i64 a1)]) Try.func53 rfl rfl rfl ?_
  have hL := Hp.start w0
  refine CW.seq ?_
  refine CW.regionL ?_
  refine OW.cons (OP.val (v := (.int .i64 0)) rfl (x_assign) ?_)
  refine OW.nil ?_
  refine CW.seq ?_
  refine CW.regionL ?_
  refine OW.cons (OP.val (v := (.int .i64 a1)) rfl (x_move) ?_)
  refine OW.cons (OP.val (v := v1) rfl (x_move) ?_)
  refine OW.cons (OP.val (v := (.int .i64 (a0.length : Int))) rfl (x_lenR Try.underlying25 rfl (hL.rdS 0 rfl h2)) ?_)
  refine OW.cons (OP.val (v := (.int .i64 (w64 (a1 - (a0.length : Int))))) rfl (x_sub rfl rfl) ?_)
  refine OW.cons (OP.val (v := (.int .i64 (w64 (a1 - (a0.length : Int))))) rfl (x_assign) ?_)
  refine OW.nil ?_
  refine CW.seq ?_
  refine CW.seq ?_
  refine CW.regionL ?_
  refine OW.cons (OP.val (v := (.int .i64 (w64 (a1 - (a0.length : Int))))) rfl (x_move) ?_)
  refine OW.cons (OP.val (v := (.bool (decide ((w64 (a1 - (a0.length : Int))) < 0)))) rfl (x_lss rfl rfl) ?_)
  refine OW.nil ?_
  refine CW.condM (t := decide ((w64 (a1 - (a0.length : Int))) < 0)) rfl hm (fun hb3 hm => ?_) (fun hb3 hm => ?_)
  · refine CW.seq ?_
    refine CW.regionL ?_
    refine OW.cons (OP.val (v := (.int .i64 (-1))) rfl (x_assign) ?_)
    refine OW.nil ?_
    refine CW.ret ?_
    obtain rfl := Option.some.inj hm
    exact RR1 rfl rfl ⟨rfl, hL.fresh 0 rfl [] (by decide) (by decide) rfl⟩
  · refine CW.skip ?_
    refine CW.seq ?_
    refine CW.regionL ?_
    refine OW.cons (OP.val (v := (.int .i64 (w64 (a1 - (a0.length : Int))))) rfl (x_move) ?_)
    refine OW.cons (OP.val (v := (.int .i64 (w64 (a1 - (a0.length : Int))))) rfl (x_assign) ?_)
    refine OW.nil ?_
    refine CW.ret ?_
    obtain rfl := Option.some.inj hm
    exact RR1 rfl rfl ⟨rfl, hL.fresh 0 rfl [] (by decide) (by decide) rfl⟩

theorem M.laws_szInt64SS_ok (w0 : World) (a0 : List (List Int)) {v1 : Value} (h2 : rdL (· < w0.heap.size) w0 v1 a0) (a1 : Int) {r : Int} (hm : M.laws_szInt64SS a0 a1 = some r) :
    Calls Try.prog 32 #[v1, (.int .i64 a1)] w0 fun e w' => e = .returned (.int .i64 r) ∧ Fresh w0 w' [] := by
  unfold M.laws_szInt64SS at hm
  refine calls_CW (args := [v1, (.int .i64 a1)]) Try.func32 rfl rfl rfl ?_
  have hL := Hp.start w0
  refine CW.seq ?_
  refine CW.regionL ?_
  refine OW.cons (OP.val (v := (.int .i64 0)) rfl (x_assign) ?_)
  refine OW.nil ?_
  refine CW.seq ?_
  refine CW.regionL ?_
  refine OW.cons (OP.val (v := (.int .i64 a1)) rfl (x_move) ?_)
  refine OW.cons (OP.val (v := v1) rfl (x_move) ?_)
  refine OW.cons (OP.val (v := (.int .i64 (a0.length : Int))) rfl (x_lenR Try.underlying22 rfl (hL.rdS 0 rfl h2)) ?_)
  refine OW.cons (OP.val (v := (.int .i64 (w64 (a1 - (a0.length : Int))))) rfl (x_sub rfl rfl) ?_)
  refine OW.cons (OP.val (v := (.int .i64 (w64 (a1 - (a0.length : Int))))) rfl (x_assign) ?_)
  refine OW.nil ?_
  refine CW.seq ?_
  refine CW.seq ?_
  refine CW.regionL ?_
  refine OW.cons (OP.val (v := (.int .i64 (w64 (a1 - (a0.length : Int))))) rfl (x_move) ?_)
  refine OW.cons (OP.val (v := (.bool (decide ((w64 (a1 - (a0.length : Int))) < 0)))) rfl (x_lss rfl rfl) ?_)
  refine OW.nil ?_
  refine CW.condM (t := decide ((w64 (a1 - (a0.length : Int))) < 0)) rfl hm (fun hb3 hm => ?_) (fun hb3 hm => ?_)
  · refine CW.seq ?_
    refine CW.regionL ?_
    refine OW.cons (OP.val (v := (.int .i64 (-1))) rfl (x_assign) ?_)
    refine OW.nil ?_
    refine CW.ret ?_
    obtain rfl := Option.some.inj hm
    exact RR1 rfl rfl ⟨rfl, hL.fresh 0 rfl [] (by decide) (by decide) rfl⟩
  · refine CW.skip ?_
    refine CW.seq ?_
    refine CW.seq ?_
    refine CW.regionL ?_
    refine OW.cons (OP.val (v := (.int .i64 0)) rfl (x_assign) ?_)
    refine OW.nil ?_
    obtain ⟨o42, ho43, hm⟩ := bndE hm
    refine CW.loopB (fun (s_l1 : Int × Int) (F : Fr) (w : World) => F 0 = v1 ∧ F 1 = (.int .i64 s_l1.1) ∧ F 5 = (.int .i64 s_l1.2) ∧ Hp w0 [Ent.snap w0 w0.heap.size] w) (fun o => outc o (fun x => some x) (fun s => M.laws_szInt64SS_a1 s) = some r) ho43 hm ⟨rfl, rfl, rfl, hL⟩ ?_ ?_
    · intro s_l1 F44 wd45 hJ hm
      have hm := outcE hm
      have hm : M.laws_szInt64SS_a1 s_l1 = some r := hm
      unfold M.laws_szInt64SS_a1 at hm
      obtain ⟨f46, f47, f48, hL⟩ := hJ
      refine CW.seq ?_
      refine CW.regionL ?_
      refine OW.cons (OP.val (v := (.int .i64 s_l1.1)) rfl (x_mv f47) ?_)
      refine OW.cons (OP.val (v := (.int .i64 s_l1.1)) rfl (x_assign) ?_)
      refine OW.nil ?_
      refine CW.ret ?_
      obtain rfl := Option.some.inj hm
      exact RR1 rfl rfl ⟨rfl, hL.fresh 0 rfl [] (by decide) (by decide) rfl⟩
    · intro s_l1 F49 wd50 t40 hJ hm hr41
      unfold M.laws_szInt64SS_l1 at hm
      obtain ⟨f51, f52, f53, hL⟩ := hJ
      refine CW.seq ?_
      refine CW.seq ?_
      refine CW.regionL ?_
      refine OW.cons (OP.val (v := (.int .i64 s_l1.2)) rfl (x_mv f53) ?_)
      refine OW.cons (OP.val (v := v1) rfl (x_mv f51) ?_)
      refine OW.cons (OP.val (v := (.int .i64 (a0.length : Int))) rfl (x_lenR Try.underlying22 rfl (hL.rdS 0 rfl h2)) ?_)
      refine OW.cons (OP.val (v := (.bool (decide (s_l1.2 < (a0.length : Int))))) rfl (x_lss rfl rfl) ?_)
      refine OW.nil ?_
      refine CW.condM (t := decide (s_l1.2 < (a0.length : Int))) rfl hm (fun hb54 hm => ?_) (fun hb54 hm => ?_)
      · refine CW.skip ?_
        refine CW.seq ?_
        refine CW.block ?_
        refine CW.seq ?_
        refine CW.regionL ?_
        refine OW.cons (OP.val (v := v1) rfl (x_mv f51) ?_)
        refine OW.cons (OP.val (v := (.int .i64 s_l1.2)) rfl (x_mv f53) ?_)
        obtain ⟨x55, ha56, hm⟩ := bndE hm
        obtain ⟨hz57, ha65⟩ := idxE ha56
        obtain ⟨b58, q59, v60, hix61, hs62, hc63, hr64⟩ := rdN_at h2 hz57 ha65
        refine OW.cons (OP.val (v := (.pointer (some ⟨b58, q59, none⟩))) rfl (x_ix Try.underlying22 Try_T25 rfl rfl hix61) ?_)
        refine OW.cons (OP.val (v := v60) rfl (x_load1 Try.underlying25 rfl rfl (hL.cellS 0 rfl hs62 hc63)) ?_)
        refine OW.cons (OP.val (v := (.int .i64 s_l1.1)) rfl (x_mv f52) ?_)
        obtain ⟨x66, hx67, hm⟩ := bndE hm
        refine OW.cons (OP.call rfl (x_call (vs := [v60, (.int .i64 s_l1.1)]) Try_C53 ⟨rfl, rfl, trivial⟩) (M.laws_szInt64S_ok _ x55 (hL.rdS 0 rfl hr64) s_l1.1 hx67) ?_)
        rintro e68 wd69 ⟨rfl, hF70⟩
        refine ⟨_, rfl, ?_⟩
        have hL := hL.pushAll hF70
        simp only [List.cons_append, List.nil_append, List.set_cons_zero, List.set_cons_succ] at hL
        refine OW.cons (OP.val (v := (.int .i64 x66)) rfl (x_assign) ?_)
        refine OW.nil ?_
        refine CW.seq ?_
        refine CW.regionL ?_
        refine OW.cons (OP.val (v := (.int .i64 x66)) rfl (x_move) ?_)
        refine OW.cons (OP.val (v := (.bool (decide (x66 < 0)))) rfl (x_lss rfl rfl) ?_)
        refine OW.nil ?_
        refine CW.condM (t := decide (x66 < 0)) rfl hm (fun hb71 hm => ?_) (fun hb71 hm => ?_)
        · refine CW.seq ?_
          refine CW.regionL ?_
          refine OW.cons (OP.val (v := (.int .i64 (-1))) rfl (x_assign) ?_)
          refine OW.nil ?_
          refine CW.ret ?_
          obtain rfl := Option.some.inj hm
          have hm := hr41 _ rfl
          obtain rfl := Option.some.inj hm
          exact RR1 rfl rfl ⟨rfl, hL.fresh 0 rfl [] (by decide) (by decide) rfl⟩
        · refine CW.skip ?_
          refine CW.regionL ?_
          refine OW.cons (OP.val (v := (.int .i64 s_l1.2)) rfl (x_mv f53) ?_)
          refine OW.cons (OP.val (v := (.int .i64 (w64 (s_l1.2 + 1)))) rfl (x_add rfl rfl) ?_)
          refine OW.cons (OP.val (v := (.int .i64 (w64 (s_l1.2 + 1)))) rfl (x_assign) ?_)
          refine OW.nil ?_
          obtain rfl := Option.some.inj hm
          exact ⟨_, rfl, ⟨f51, rfl, rfl, hL⟩⟩
      · refine CW.exit ?_
        refine XJ.hit ?_
        obtain rfl := Option.some.inj hm
        exact ⟨_, rfl, ⟨f51, f52, f53, hL⟩⟩

theorem M.laws_szTable_ok (w0 : World) (a0 : Table) {v1 : Value} {v3 : Value} (h2 : rdL (· < w0.heap.size) w0 v1 a0.Points) (h4 : rdL (· < w0.heap.size) w0 v3 a0.Codes) (a1 : Int) {r : Int} (hm : M.laws_szTable a0 a1 = some r) :
    Calls Try.prog 10 #[(.agg #[(.int .i64 a0.Boats), v1, v3]), (.int .i64 a1)] w0 fun e w' => e = .returned (.int .i64 r) ∧ Fresh w0 w' [] := by
  unfold M.laws_szTable at hm
  refine calls_CW (args := [(.agg #[(.int .i64 a0.Boats), v1, v3]), (.int .i64 a1)]) Try.func10 rfl rfl rfl ?_
  have hL := Hp.start w0
  refine CW.seq ?_
  refine CW.regionL ?_
  refine OW.cons (S_box (cs := #[(.int .i64 a0.Boats), v1, v3]) hL rfl rfl rfl ?_)
  intro wd5 b6 hL
  refine OW.cons (OP.val (v := (.int .i64 0)) rfl (x_assign) ?_)
  refine OW.nil ?_
  refine CW.seq ?_
  refine CW.regionL ?_
  refine OW.cons (OP.val (v := (.pointer (some ⟨b6, 1, none⟩))) rfl (x_fieldAddr (fsz := 1) 0 1 1 Try.underlying24 rfl Try_T22 rfl rfl rfl) ?_)
  refine OW.cons (OP.val (v := v1) rfl (x_load1 Try.underlying22 rfl rfl (hL.cellB 0 rfl rfl)) ?_)
  refine OW.cons (OP.val (v := (.int .i64 a1)) rfl (x_move) ?_)
  obtain ⟨x7, hx8, hm⟩ := bndE hm
  refine OW.cons (OP.call rfl (x_call (vs := [v1, (.int .i64 a1)]) Try_C32 ⟨rfl, rfl, trivial⟩) (M.laws_szInt64SS_ok _ a0.Points (hL.rdS 1 rfl h2) a1 hx8) ?_)
  rintro e9 wd10 ⟨rfl, hF11⟩
  refine ⟨_, rfl, ?_⟩
  have hL := hL.pushAll hF11
  simp only [List.cons_append, List.nil_append, List.set_cons_zero, List.set_cons_succ] at hL
  refine OW.cons (OP.val (v := (.int .i64 x7)) rfl (x_assign) ?_)
  refine OW.nil ?_
  refine CW.seq ?_
  refine CW.seq ?_
  refine CW.regionL ?_
  refine OW.cons (OP.val (v := (.int .i64 x7)) rfl (x_move) ?_)
  refine OW.cons (OP.val (v := (.bool (decide (x7 < 0)))) rfl (x_lss rfl rfl) ?_)
  refine OW.nil ?_
  refine CW.condM (t := decide (x7 < 0)) rfl hm (fun hb12 hm => ?_) (fun hb12 hm => ?_)
  · refine CW.seq ?_
    refine CW.regionL ?_
    refine OW.cons (OP.val (v := (.int .i64 (-1))) rfl (x_assign) ?_)
    refine OW.nil ?_
    refine CW.ret ?_
    obtain rfl := Option.some.inj hm
    exact RR1 rfl rfl ⟨rfl, hL.fresh 1 rfl [] (by decide) (by decide) rfl⟩
  · refine CW.skip ?_
    refine CW.seq ?_
    refine CW.regionL ?_
    refine OW.cons (OP.val (v := (.pointer (some ⟨b6, 2, none⟩))) rfl (x_fieldAddr (fsz := 1) 0 2 2 Try.underlying24 rfl Try_T22 rfl rfl rfl) ?_)
    refine OW.cons (OP.val (v := v3) rfl (x_load1 Try.underlying22 rfl rfl (hL.cellB 0 rfl rfl)) ?_)
    refine OW.cons (OP.val (v := (.int .i64 x7)) rfl (x_move) ?_)
    obtain ⟨x13, hx14, hm⟩ := bndE hm
    refine OW.cons (OP.call rfl (x_call (vs := [v3, (.int .i64 x7)]) Try_C32 ⟨rfl, rfl, trivial⟩) (M.laws_szInt64SS_ok _ a0.Codes (hL.rdS 1 rfl h4) x7 hx14) ?_)
    rintro e15 wd16 ⟨rfl, hF17⟩
    refine ⟨_, rfl, ?_⟩
    have hL := hL.pushAll hF17
    simp only [List.cons_append, List.nil_append, List.set_cons_zero, List.set_cons_succ] at hL
    refine OW.cons (OP.val (v := (.int .i64 x13)) rfl (x_assign) ?_)
    refine OW.nil ?_
    refine CW.seq ?_
    refine CW.seq ?_
    refine CW.regionL ?_
    refine OW.cons (OP.val (v := (.int .i64 x13)) rfl (x_move) ?_)
    refine OW.cons (OP.val (v := (.bool (decide (x13 < 0)))) rfl (x_lss rfl rfl) ?_)
    refine OW.nil ?_
    refine CW.condM (t := decide (x13 < 0)) rfl hm (fun hb18 hm => ?_) (fun hb18 hm => ?_)
    · refine CW.seq ?_
      refine CW.regionL ?_
      refine OW.cons (OP.val (v := (.int .i64 (-1))) rfl (x_assign) ?_)
      refine OW.nil ?_
      refine CW.ret ?_
      obtain rfl := Option.some.inj hm
      exact RR1 rfl rfl ⟨rfl, hL.fresh 1 rfl [] (by decide) (by decide) rfl⟩
    · refine CW.skip ?_
      refine CW.seq ?_
      refine CW.regionL ?_
      refine OW.cons (OP.val (v := (.int .i64 x13)) rfl (x_move) ?_)
      refine OW.cons (OP.val (v := (.int .i64 x13)) rfl (x_assign) ?_)
      refine OW.nil ?_
      refine CW.ret ?_
      obtain rfl := Option.some.inj hm
      exact RR1 rfl rfl ⟨rfl, hL.fresh 1 rfl [] (by decide) (by decide) rfl⟩

theorem M.laws_toInt64S_ok (w0 : World) (a0 : List Int) {v1 : Value} (h2 : rdL (· < w0.heap.size) w0 v1 a0) {r : (List Int)} (hm : M.laws_toInt64S a0 = some r) :
    Calls Try.prog 13 #[v1] w0 fun e w' => ∃ (rv0 : Value) (rS0 : Nat → Prop), e = .returned rv0 ∧ Fresh w0 w' [Ent.own 2 rS0 rv0 r] := by
  unfold M.laws_toInt64S at hm
  refine calls_CW (args := [v1]) Try.func13 rfl rfl rfl ?_
  have hL := Hp.start w0
  refine CW.seq ?_
  refine CW.regionL ?_
  refine OW.cons (OP.val (v := (.slice none 0 0)) rfl (x_assign) ?_)
  refine OW.nil ?_
  refine CW.seq ?_
  refine CW.regionL ?_
  refine OW.cons (OP.val (v := v1) rfl (x_move) ?_)
  refine OW.cons (OP.val (v := (.int .i64 (a0.length : Int))) rfl (x_lenR Try.underlying25 rfl (hL.rdS 0 rfl h2)) ?_)
  obtain ⟨hc6, hm⟩ := chkE hm
  refine OW.cons (S_make (α := Int) 0 hL Try.underlying25 Try_T2 rfl rfl rfl hc6 (by decide) rfl ?_)
  intro wd3 v4 S5 hL
  refine OW.cons (OP.val (v := v4) rfl (x_assign) ?_)
  refine OW.nil ?_
  refine CW.seq ?_
  refine CW.seq ?_
  refine CW.regionL ?_
  refine OW.cons (OP.val (v := (.int .i64 0)) rfl (x_assign) ?_)
  refine OW.nil ?_
  obtain ⟨o43, ho44, hm⟩ := bndE hm
  refine CW.loopB (fun (s_l1 : (List Int) × Int) (F : Fr) (w : World) => ∃ (S40 : Nat → Prop), F 0 = v1 ∧ F 3 = v4 ∧ F 4 = (.int .i64 s_l1.2) ∧ Hp w0 [Ent.own 2 S40 v4 s_l1.1, Ent.snap w0 w0.heap.size] w) (fun o => outc o (fun x => some x) (fun s => M.laws_toInt64S_a1 s) = some r) ho44 hm ⟨S5, rfl, rfl, rfl, hL⟩ ?_ ?_
  · intro s_l1 F45 wd46 hJ hm
    have hm := outcE hm
    have hm : M.laws_toInt64S_a1 s_l1 = some r := hm
    unfold M.laws_toInt64S_a1 at hm
    obtain ⟨S40, f47, f48, f49, hL⟩ := hJ
    refine CW.seq ?_
    refine CW.regionL ?_
    refine OW.cons (OP.val (v := v4) rfl (x_mv f48) ?_)
    refine OW.cons (OP.val (v := v4) rfl (x_assign) ?_)
    refine OW.nil ?_
    refine CW.ret ?_
    obtain rfl := Option.some.inj hm
    exact RR1 rfl rfl ⟨v4, S40, rfl, hL.fresh 1 rfl [0] (by decide) (by decide) rfl⟩
  · intro s_l1 F50 wd51 t41 hJ hm hr42
    unfold M.laws_toInt64S_l1 at hm
    obtain ⟨S40, f52, f53, f54, hL⟩ := hJ
    refine CW.seq ?_
    refine CW.seq ?_
    refine CW.regionL ?_
    refine OW.cons (OP.val (v := (.int .i64 s_l1.2)) rfl (x_mv f54) ?_)
    refine OW.cons (OP.val (v := v1) rfl (x_mv f52) ?_)
    refine OW.cons (OP.val (v := (.int .i64 (a0.length : Int))) rfl (x_lenR Try.underlying25 rfl (hL.rdS 1 rfl h2)) ?_)
    refine OW.cons (OP.val (v := (.bool (decide (s_l1.2 < (a0.length : Int))))) rfl (x_lss rfl rfl) ?_)
    refine OW.nil ?_
    refine CW.condM (t := decide (s_l1.2 < (a0.length : Int))) rfl hm (fun hb55 hm => ?_) (fun hb55 hm => ?_)
    · refine CW.skip ?_
      refine CW.seq ?_
      refine CW.block ?_
      refine CW.regionL ?_
      refine OW.cons (OP.val (v := v4) rfl (x_mv f53) ?_)
      refine OW.cons (OP.val (v := (.int .i64 s_l1.2)) rfl (x_mv f54) ?_)
      refine OW.cons (OP.val (v := v1) rfl (x_mv f52) ?_)
      refine OW.cons (OP.val (v := (.int .i64 s_l1.2)) rfl (x_mv f54) ?_)
      obtain ⟨x56, ha57, hm⟩ := bndE hm
      obtain ⟨hz58, ha62⟩ := idxE ha57
      obtain ⟨b59, q60, hix61⟩ := rdL_ix (hL.rdS 1 rfl h2) hz58 ha62
      refine OW.cons (OP.val (v := (.pointer (some ⟨b59, q60, none⟩))) rfl (x_ix Try.underlying25 Try_T2 rfl rfl hix61) ?_)
      refine OW.cons (OP.val (v := (.int .i64 x56)) rfl (x_load1 Try.underlying2 rfl rfl (rdF_cells (hL.rdS 1 rfl h2) hix61 ha62 0 _ rfl)) ?_)
      obtain ⟨x63, ha64, hm⟩ := bndE hm
      obtain ⟨hz65, ha69⟩ := idxE ha64
      obtain ⟨b66, q67, hix68⟩ := rdL_ix (hL.rdO 0 rfl) hz65 ha69
      refine OW.cons (OP.val (v := (.pointer (some ⟨b66, q67, none⟩))) rfl (x_ix Try.underlying25 Try_T2 rfl rfl hix68) ?_)
      refine OW.cons (S_storeX (j := 0) x56 hL 0 rfl Try_T2 hix68 ha69 rfl rfl rfl rfl rfl rfl ?_)
      intro wd70 hL
      refine OW.nil ?_
      refine CW.regionL ?_
      refine OW.cons (OP.val (v := (.int .i64 s_l1.2)) rfl (x_mv f54) ?_)
      refine OW.cons (OP.val (v := (.int .i64 (w64 (s_l1.2 + 1)))) rfl (x_add rfl rfl) ?_)
      refine OW.cons (OP.val (v := (.int .i64 (w64 (s_l1.2 + 1)))) rfl (x_assign) ?_)
      refine OW.nil ?_
      obtain rfl := Option.some.inj hm
      exact ⟨_, rfl, ⟨S40, f52, f53, rfl, hL⟩⟩
    · refine CW.exit ?_
      refine XJ.hit ?_
      obtain rfl := Option.some.inj hm
      exact ⟨_, rfl, ⟨S40, f52, f53, f54, hL⟩⟩

theorem M.laws_toInt64SS_ok (w0 : World) (a0 : List (List Int)) {v1 : Value} (h2 : rdL (· < w0.heap.size) w0 v1 a0) {r : (List (List Int))} (hm : M.laws_toInt64SS a0 = some r) :
    Calls Try.prog 35 #[v1] w0 fun e w' => ∃ (rv0 : Value) (rS0 : Nat → Prop), e = .returned rv0 ∧ Fresh w0 w' [Ent.own 25 rS0 rv0 r] := by
  unfold M.laws_toInt64SS at hm
  refine calls_CW (args := [v1]) Try.func35 rfl rfl rfl ?_
  have hL := Hp.start w0
  refine CW.seq ?_
  refine CW.regionL ?_
  refine OW.cons (OP.val (v := (.slice none 0 0)) rfl (x_assign) ?_)
  refine OW.nil ?_
  refine CW.seq ?_
  refine CW.regionL ?_
  refine OW.cons (OP.val (v := v1) rfl (x_move) ?_)
  refine OW.cons (OP.val (v := (.int .i64 (a0.length : Int))) rfl (x_lenR Try.underlying22 rfl (hL.rdS 0 rfl h2)) ?_)
  obtain ⟨hc6, hm⟩ := chkE hm
  refine OW.cons (S_makeN (α := Int) (β := List Int) ([] : List Int) rfl hL Try.underlying22 Try_T25 rfl rfl rfl hc6 (by decide) rfl ?_)
  intro wd3 v4 S5 hL
  refine OW.cons (OP.val (v := v4) rfl (x_assign) ?_)
  refine OW.nil ?_
  refine CW.seq ?_
  refine CW.seq ?_
  refine CW.regionL ?_
  refine OW.cons (OP.val (v := (.int .i64 0)) rfl (x_assign) ?_)
  refine OW.nil ?_
  obtain ⟨o79, ho80, hm⟩ := bndE hm
  refine CW.loopB (fun (s_l1 : (List (List Int)) × Int) (F : Fr) (w : World) => ∃ (S76 : Nat → Prop), F 0 = v1 ∧ F 3 = v4 ∧ F 4 = (.int .i64 s_l1.2) ∧ Hp w0 [Ent.own 25 S76 v4 s_l1.1, Ent.snap w0 w0.heap.size] w) (fun o => outc o (fun x => some x) (fun s => M.laws_toInt64SS_a1 s) = some r) ho80 hm ⟨S5, rfl, rfl, rfl, hL⟩ ?_ ?_
  · intro s_l1 F81 wd82 hJ hm
    have hm := outcE hm
    have hm : M.laws_toInt64SS_a1 s_l1 = some r := hm
    unfold M.laws_toInt64SS_a1 at hm
    obtain ⟨S76, f83, f84, f85, hL⟩ := hJ
    refine CW.seq ?_
    refine CW.regionL ?_
    refine OW.cons (OP.val (v := v4) rfl (x_mv f84) ?_)
    refine OW.cons (OP.val (v := v4) rfl (x_assign) ?_)
    refine OW.nil ?_
    refine CW.ret ?_
    obtain rfl := Option.some.inj hm
    exact RR1 rfl rfl ⟨v4, S76, rfl, hL.fresh 1 rfl [0] (by decide) (by decide) rfl⟩
  · intro s_l1 F86 wd87 t77 hJ hm hr78
    unfold M.laws_toInt64SS_l1 at hm
    obtain ⟨S76, f88, f89, f90, hL⟩ := hJ
    refine CW.seq ?_
    refine CW.seq ?_
    refine CW.regionL ?_
    refine OW.cons (OP.val (v := (.int .i64 s_l1.2)) rfl (x_mv f90) ?_)
    refine OW.cons (OP.val (v := v1) rfl (x_mv f88) ?_)
    refine OW.cons (OP.val (v := (.int .i64 (a0.length : Int))) rfl (x_lenR Try.underlying22 rfl (hL.rdS 1 rfl h2)) ?_)
    refine OW.cons (OP.val (v := (.bool (decide (s_l1.2 < (a0.length : Int))))) rfl (x_lss rfl rfl) ?_)
    refine OW.nil ?_
    refine CW.condM (t := decide (s_l1.2 < (a0.length : Int))) rfl hm (fun hb91 hm => ?_) (fun hb91 hm => ?_)
    · refine CW.skip ?_
      refine CW.seq ?_
      refine CW.block ?_
      refine CW.regionL ?_
      refine OW.cons (OP.val (v := v4) rfl (x_mv f89) ?_)
      refine OW.cons (OP.val (v := (.int .i64 s_l1.2)) rfl (x_mv f90) ?_)
      refine OW.cons (OP.val (v := v1) rfl (x_mv f88) ?_)
      refine OW.cons (OP.val (v := (.int .i64 s_l1.2)) rfl (x_mv f90) ?_)
      obtain ⟨x92, ha93, hm⟩ := bndE hm
      obtain ⟨hz94, ha102⟩ := idxE ha93
      obtain ⟨b95, q96, v97, hix98, hs99, hc100, hr101⟩ := rdN_at h2 hz94 ha102
      refine OW.cons (OP.val (v := (.pointer (some ⟨b95, q96, none⟩))) rfl (x_ix Try.underlying22 Try_T25 rfl rfl hix98) ?_)
      refine OW.cons (OP.val (v := v97) rfl (x_load1 Try.underlying25 rfl rfl (hL.cellS 1 rfl hs99 hc100)) ?_)
      obtain ⟨x103, hx104, hm⟩ := bndE hm
      refine OW.cons (OP.call rfl (x_call (vs := [v97]) Try_C13 ⟨rfl, trivial⟩) (M.laws_toInt64S_ok _ x92 (hL.rdS 1 rfl hr101) hx104) ?_)
      rintro e107 wd108 ⟨v106, S105, rfl, hF109⟩
      refine ⟨_, rfl, ?_⟩
      have hL := hL.pushAll hF109
      simp only [List.cons_append, List.nil_append, List.set_cons_zero, List.set_cons_succ] at hL
      obtain ⟨wz110, hL, ho111⟩ := hL.freeze 1 rfl
      simp only [List.set_cons_zero, List.set_cons_succ] at hL
      obtain ⟨x112, ha113, hm⟩ := bndE hm
      obtain ⟨hz114, ha122⟩ := idxE ha113
      obtain ⟨b115, q116, v117, hix118, hs119, hc120, hr121⟩ := rdN_at ho111.1.rdL hz114 ha122
      refine OW.cons (OP.val (v := (.pointer (some ⟨b115, q116, none⟩))) rfl (x_ix Try.underlying22 Try_T25 rfl rfl hix118) ?_)
      have hL := hL.thaw 1 rfl ho111
      have hL := hL.sel [1, 0, 2] (by decide) rfl
      refine OW.cons (S_storeR x103 rfl hL Try_T25 hix118 ha122 rfl rfl ?_)
      intro wd123 S124 hL
      refine OW.nil ?_
      refine CW.regionL ?_
      refine OW.cons (OP.val (v := (.int .i64 s_l1.2)) rfl (x_mv f90) ?_)
      refine OW.cons (OP.val (v := (.int .i64 (w64 (s_l1.2 + 1)))) rfl (x_add rfl rfl) ?_)
      refine OW.cons (OP.val (v := (.int .i64 (w64 (s_l1.2 + 1)))) rfl (x_assign) ?_)
      refine OW.nil ?_
      obtain rfl := Option.some.inj hm
      exact ⟨_, rfl, ⟨S124, f88, f89, rfl, hL⟩⟩
    · refine CW.exit ?_
      refine XJ.hit ?_
      obtain rfl := Option.some.inj hm
      exact ⟨_, rfl, ⟨S76, f88, f89, f90, hL⟩⟩

theorem M.laws_toTable_ok (w0 : World) (a0 : Table) {v1 : Value} {v3 : Value} (h2 : rdL (· < w0.heap.size) w0 v1 a0.Points) (h4 : rdL (· < w0.heap.size) w0 v3 a0.Codes) {r : Table} (hm : M.laws_toTable a0 = some r) :
    Calls Try.prog 12 #[(.agg #[(.int .i64 a0.Boats), v1, v3])] w0 fun e w' => ∃ (rv0 : Value) (rS0 : Nat → Prop), ∃ (rv1 : Value) (rS1 : Nat → Prop), e = .returned (.agg #[(.int .i64 r.Boats), rv0, rv1]) ∧ Fresh w0 w' [Ent.own 25 rS0 rv0 r.Points, Ent.own 25 rS1 rv1 r.Codes] := by
  unfold M.laws_toTable at hm
  refine calls_CW (args := [(.agg #[(.int .i64 a0.Boats), v1, v3])]) Try.func12 rfl rfl rfl ?_
  have hL := Hp.start w0
  refine CW.seq ?_
  refine CW.regionL ?_
  refine OW.cons (S_box (cs := #[(.int .i64 a0.Boats), v1, v3]) hL rfl rfl rfl ?_)
  intro wd5 b6 hL
  refine OW.cons (S_alloc (cs := #[(.int .i64 0), (.slice none 0 0), (.slice none 0 0)]) hL Try_T29 rfl rfl ?_)
  intro wd7 b8 hL
  refine OW.nil ?_
  refine CW.seq ?_
  refine CW.regionL ?_
  refine OW.cons (S_alloc (cs := #[(.int .i64 0), (.slice none 0 0), (.slice none 0 0)]) hL Try_T29 rfl rfl ?_)
  intro wd9 b10 hL
  refine OW.nil ?_
  refine CW.seq ?_
  refine CW.regionL ?_
  refine OW.cons (OP.val (v := (.pointer (some ⟨b6, 0, none⟩))) rfl (x_fieldAddr (fsz := 1) 0 0 0 Try.underlying24 rfl Try_T2 rfl rfl rfl) ?_)
  refine OW.cons (OP.val (v := (.int .i64 a0.Boats)) rfl (x_load1 Try.underlying2 rfl rfl (hL.cellB 2 rfl rfl)) ?_)
  refine OW.cons (OP.val (v := (.pointer (some ⟨b10, 0, none⟩))) rfl (x_fieldAddr (fsz := 1) 0 0 0 Try.underlying29 rfl Try_T2 rfl rfl rfl) ?_)
  refine OW.cons (S_store (cs' := #[(.int .i64 a0.Boats), (.slice none 0 0), (.slice none 0 0)]) hL 0 rfl Try_T2 rfl rfl rfl rfl rfl ?_)
  intro wd11 hL
  refine OW.nil ?_
  refine CW.seq ?_
  refine CW.regionL ?_
  refine OW.cons (OP.val (v := (.pointer (some ⟨b6, 1, none⟩))) rfl (x_fieldAddr (fsz := 1) 0 1 1 Try.underlying24 rfl Try_T22 rfl rfl rfl) ?_)
  refine OW.cons (OP.val (v := v1) rfl (x_load1 Try.underlying22 rfl rfl (hL.cellB 2 rfl rfl)) ?_)
  obtain ⟨x12, hx13, hm⟩ := bndE hm
  refine OW.cons (OP.call rfl (x_call (vs := [v1]) Try_C35 ⟨rfl, trivial⟩) (M.laws_toInt64SS_ok _ a0.Points (hL.rdS 3 rfl h2) hx13) ?_)
  rintro e16 wd17 ⟨v15, S14, rfl, hF18⟩
  refine ⟨_, rfl, ?_⟩
  have hL := hL.pushAll hF18
  simp only [List.cons_append, List.nil_append, List.set_cons_zero, List.set_cons_succ] at hL
  refine OW.cons (OP.val (v := (.pointer (some ⟨b10, 1, none⟩))) rfl (x_fieldAddr (fsz := 1) 0 1 1 Try.underlying29 rfl Try_T22 rfl rfl rfl) ?_)
  refine OW.cons (S_store (cs' := #[(.int .i64 a0.Boats), v15, (.slice none 0 0)]) hL 1 rfl Try_T22 rfl (rdL_one (hL.rdO 0 rfl)) rfl rfl rfl ?_)
  intro wd19 hL
  refine OW.nil ?_
  refine CW.seq ?_
  refine CW.regionL ?_
  refine OW.cons (OP.val (v := (.pointer (some ⟨b6, 2, none⟩))) rfl (x_fieldAddr (fsz := 1) 0 2 2 Try.underlying24 rfl Try_T22 rfl rfl rfl) ?_)
  refine OW.cons (OP.val (v := v3) rfl (x_load1 Try.underlying22 rfl rfl (hL.cellB 3 rfl rfl)) ?_)
  obtain ⟨x20, hx21, hm⟩ := bndE hm
  refine OW.cons (OP.call rfl (x_call (vs := [v3]) Try_C35 ⟨rfl, trivial⟩) (M.laws_toInt64SS_ok _ a0.Codes (hL.rdS 4 rfl h4) hx21) ?_)
  rintro e24 wd25 ⟨v23, S22, rfl, hF26⟩
  refine ⟨_, rfl, ?_⟩
  have hL := hL.pushAll hF26
  simp only [List.cons_append, List.nil_append, List.set_cons_zero, List.set_cons_succ] at hL
  refine OW.cons (OP.val (v := (.pointer (some ⟨b10, 2, none⟩))) rfl (x_fieldAddr (fsz := 1) 0 2 2 Try.underlying29 rfl Try_T22 rfl rfl rfl) ?_)
  refine OW.cons (S_store (cs' := #[(.int .i64 a0.Boats), v15, v23]) hL 2 rfl Try_T22 rfl (rdL_one (hL.rdO 0 rfl)) rfl rfl rfl ?_)
  intro wd27 hL
  refine OW.nil ?_
  refine CW.seq ?_
  refine CW.regionL ?_
  refine OW.cons (OP.val (v := (.agg #[(.int .i64 a0.Boats), v15, v23])) rfl (x_loadN (cs := [(.int .i64 a0.Boats), v15, v23]) Try.underlying29 Try_T29 rfl rfl (hL.cellsB 2 rfl (o := 0) (l := [(.int .i64 a0.Boats), v15, v23]) (by intro j u hj; exact (by simpa using hj)))) ?_)
  refine OW.cons (S_storeN (l := [(.int .i64 a0.Boats), v15, v23]) (cs' := #[(.int .i64 a0.Boats), v15, v23]) hL 3 rfl Try_T29 rfl rfl (List.forall_mem_cons.2 ⟨rfl, (List.forall_mem_cons.2 ⟨rdL_one (hL.rdO 1 rfl), (List.forall_mem_cons.2 ⟨rdL_one (hL.rdO 0 rfl), (fun _ h => by cases h)⟩)⟩)⟩) rfl (Nat.le_of_ble_eq_true rfl) rfl ?_)
  intro wd28 hL
  refine OW.nil ?_
  refine CW.ret ?_
  obtain rfl := Option.some.inj hm
  exact RRc rfl rfl (run_loadBlk Try.underlying29 Try_T29 (hL.get 3 rfl) rfl) ⟨v15, S14, v23, S22, rfl, hL.fresh 5 rfl [1, 0] (by decide) (by decide) rfl⟩

theorem M.spec_l01In_ok (w0 : World) (a0 : Int) (a1 : Int) (a2 : Int) {r : Bool} (hm : M.spec_l01In a0 a1 a2 = some r) :
    Calls Try.prog 48 #[(.int .i64 a0), (.int .i64 a1), (.int .i64 a2)] w0 fun e w' => e = .returned (.bool r) ∧ Fresh w0 w' [] := by
  unfold M.spec_l01In at hm
  refine calls_CW (args := [(.int .i64 a0), (.int .i64 a1), (.int .i64 a2)]) Try.func48 rfl rfl rfl ?_
  have hL := Hp.start w0
  refine CW.seq ?_
  refine CW.regionL ?_
  refine OW.cons (OP.val (v := (.bool false)) rfl (x_assign) ?_)
  refine OW.nil ?_
  refine CW.seqJ (fun (s_j1 : Bool) (F : Fr) (w : World) => F 6 = (.bool s_j1) ∧ Hp w0 [Ent.snap w0 w0.heap.size] w) (fun s_j1 => M.spec_l01In_j1 s_j1 = some r) ?_ ?_
  · refine CW.regionL ?_
    refine OW.cons (OP.val (v := (.int .i64 a0)) rfl (x_move) ?_)
    refine OW.cons (OP.val (v := (.int .i64 a1)) rfl (x_move) ?_)
    refine OW.cons (OP.val (v := (.bool (decide (a1 ≤ a0)))) rfl (x_geq rfl rfl) ?_)
    refine OW.cons (OP.val (v := (.bool (decide (a1 ≤ a0)))) rfl (x_move) ?_)
    refine ifB_elim hm (fun hb5 hm => ?_) (fun hb5 hm => ?_)
    · refine OW.cons (OP.yes' rfl rfl hb5 (OP.val (v := (.int .i64 a0)) rfl (x_move) ?_))
      refine OW.cons (OP.yes' rfl rfl hb5 (OP.val (v := (.int .i64 a2)) rfl (x_move) ?_))
      refine OW.cons (OP.yes' rfl rfl hb5 (OP.val (v := (.bool (decide (a0 ≤ a2)))) rfl (x_leq rfl rfl) ?_))
      refine OW.cons (OP.val (v := (.bool (decide (a0 ≤ a2)))) rfl (x_pickT' rfl hb5 rfl) ?_)
      refine OW.cons (OP.val (v := (.bool (decide (a0 ≤ a2)))) rfl (x_assign) ?_)
      refine OW.nil ?_
      exact ⟨decide (a0 ≤ a2), hm, ⟨rfl, hL⟩⟩
    · refine OW.cons (OP.no' rfl rfl hb5 rfl ?_)
      refine OW.cons (OP.no' rfl rfl hb5 rfl ?_)
      refine OW.cons (OP.no' rfl rfl hb5 rfl ?_)
      refine OW.cons (OP.val (v := (.bool false)) rfl (x_pickF' rfl hb5 rfl) ?_)
      refine OW.cons (OP.val (v := (.bool false)) rfl (x_assign) ?_)
      refine OW.nil ?_
      exact ⟨false, hm, ⟨rfl, hL⟩⟩
  · intro s_j1 F2 wd3 hJ hm
    unfold M.spec_l01In_j1 at hm
    obtain ⟨f4, hL⟩ := hJ
    refine CW.ret ?_
    obtain rfl := Option.some.inj hm
    exact RR1 rfl f4 ⟨rfl, hL.fresh 0 rfl [] (by decide) (by decide) rfl⟩

theorem M.spec_l26Code_ok (w0 : World) (a0 : Int) {r : Bool} (hm : M.spec_l26Code a0 = some r) :
    Calls Try.prog 62 #[(.int .i64 a0)] w0 fun e w' => e = .returned (.bool r) ∧ Fresh w0 w' [] := by
  unfold M.spec_l26Code at hm
  refine calls_CW (args := [(.int .i64 a0)]) Try.func62 rfl rfl rfl ?_
  have hL := Hp.start w0
  refine CW.seq ?_
  refine CW.regionL ?_
  refine OW.cons (OP.val (v := (.bool false)) rfl (x_assign) ?_)
  refine OW.nil ?_
  refine CW.seq ?_
  refine CW.regionL ?_
  refine OW.cons (OP.val (v := (.int .i64 a0)) rfl (x_move) ?_)
  obtain ⟨x1, hx2, hm⟩ := bndE hm
  refine OW.cons (OP.call rfl (x_call (vs := [(.int .i64 a0), (.int .i64 0), (.int .i64 9)]) Try_C48 ⟨rfl, rfl, rfl, trivial⟩) (M.spec_l01In_ok _ a0 0 9 hx2) ?_)
  rintro e3 wd4 ⟨rfl, hF5⟩
  refine ⟨_, rfl, ?_⟩
  have hL := hL.pushAll hF5
  simp only [List.cons_append, List.nil_append, List.set_cons_zero, List.set_cons_succ] at hL
  refine OW.cons (OP.val (v := (.bool x1)) rfl (x_assign) ?_)
  refine OW.nil ?_
  refine CW.ret ?_
  obtain rfl := Option.some.inj hm
  exact RR1 rfl rfl ⟨rfl, hL.fresh 0 rfl [] (by decide) (by decide) rfl⟩

theorem M.spec_IsTable_ok (w0 : World) (a0 : Table) {v1 : Value} {v3 : Value} (h2 : rdL (· < w0.heap.size) w0 v1 a0.Points) (h4 : rdL (· < w0.heap.size) w0 v3 a0.Codes) {r : Bool} (hm : M.spec_IsTable a0 = some r) :
    Calls Try.prog 47 #[(.agg #[(.int .i64 a0.Boats), v1, v3])] w0 fun e w' => e = .returned (.bool r) ∧ Fresh w0 w' [] := by
  unfold M.spec_IsTable at hm
  refine calls_CW (args := [(.agg #[(.int .i64 a0.Boats), v1, v3])]) Try.func47 rfl rfl rfl ?_
  have hL := Hp.start w0
  refine CW.seq ?_
  refine CW.regionL ?_
  refine OW.cons (S_box (cs := #[(.int .i64 a0.Boats), v1, v3]) hL rfl rfl rfl ?_)
  intro wd5 b6 hL
  refine OW.cons (OP.val (v := (.bool false)) rfl (x_assign) ?_)
  refine OW.nil ?_
  refine CW.seq ?_
  refine CW.seqJ (fun (s_j1 : Bool) (F : Fr) (w : World) => F 1 = (.pointer (some ⟨b6, 0, none⟩)) ∧ F 23 = (.bool s_j1) ∧ Hp w0 [Ent.blk b6 29 #[(.int .i64 a0.Boats), v1, v3], Ent.snap w0 w0.heap.size] w) (fun s_j1 => M.spec_IsTable_j1 a0 s_j1 = some r) ?_ ?_
  · refine CW.regionL ?_
    refine OW.cons (OP.val (v := (.pointer (some ⟨b6, 0, none⟩))) rfl (x_fieldAddr (fsz := 1) 0 0 0 Try.underlying29 rfl Try_T2 rfl rfl rfl) ?_)
    refine OW.cons (OP.val (v := (.int .i64 a0.Boats)) rfl (x_load1 Try.underlying2 rfl rfl (hL.cellB 0 rfl rfl)) ?_)
    obtain ⟨x1162, hx1163, hm⟩ := bndE hm
    refine OW.cons (OP.call rfl (x_call (vs := [(.int .i64 a0.Boats), (.int .i64 1), (.int .i64 16)]) Try_C48 ⟨rfl, rfl, rfl, trivial⟩) (M.spec_l01In_ok _ a0.Boats 1 16 hx1163) ?_)
    rintro e1164 wd1165 ⟨rfl, hF1166⟩
    refine ⟨_, rfl, ?_⟩
    have hL := hL.pushAll hF1166
    simp only [List.cons_append, List.nil_append, List.set_cons_zero, List.set_cons_succ] at hL
    refine OW.cons (OP.val (v := (.bool (!x1162))) rfl (x_not rfl) ?_)
    refine OW.cons (OP.val (v := (.bool (!x1162))) rfl (x_move) ?_)
    refine ifB_elim hm (fun hb1167 hm => ?_) (fun hb1167 hm => ?_)
    · refine OW.cons (OP.no' rfl rfl hb1167 rfl ?_)
      refine OW.cons (OP.no' rfl rfl hb1167 rfl ?_)
      refine OW.cons (OP.no' rfl rfl hb1167 rfl ?_)
      refine OW.cons (OP.no' rfl rfl hb1167 rfl ?_)
      refine OW.cons (OP.val (v := (.bool true)) rfl (x_pickT' rfl hb1167 rfl) ?_)
      refine OW.cons (OP.val (v := (.bool true)) rfl (x_move) ?_)
      refine OW.cons (OP.no' rfl rfl rfl rfl ?_)
      refine OW.cons (OP.no' rfl rfl rfl rfl ?_)
      refine OW.cons (OP.no' rfl rfl rfl rfl ?_)
      refine OW.cons (OP.no' rfl rfl rfl rfl ?_)
      refine OW.cons (OP.no' rfl rfl rfl rfl ?_)
      refine OW.cons (OP.no' rfl rfl rfl rfl ?_)
      refine OW.cons (OP.no' rfl rfl rfl rfl ?_)
      refine OW.cons (OP.val (v := (.bool true)) rfl (x_pickT' rfl rfl rfl) ?_)
      refine OW.nil ?_
      exact ⟨true, hm, ⟨rfl, rfl, hL⟩⟩
    · refine OW.cons (OP.yes' rfl rfl hb1167 (OP.val (v := (.pointer (some ⟨b6, 1, none⟩))) rfl (x_fieldAddr (fsz := 1) 0 1 1 Try.underlying29 rfl Try_T22 rfl rfl rfl) ?_))
      refine OW.cons (OP.yes' rfl rfl hb1167 (OP.val (v := v1) rfl (x_load1 Try.underlying22 rfl rfl (hL.cellB 0 rfl rfl)) ?_))
      refine OW.cons (OP.yes' rfl rfl hb1167 (OP.val (v := (.int .i64 (a0.Points.length : Int))) rfl (x_lenR Try.underlying22 rfl (hL.rdS 1 rfl h2)) ?_))
      refine OW.cons (OP.yes' rfl rfl hb1167 (OP.val (v := (.bool (decide (12 < (a0.Points.length : Int))))) rfl (x_gtr rfl rfl) ?_))
      refine OW.cons (OP.val (v := (.bool (decide (12 < (a0.Points.length : Int))))) rfl (x_pickF' rfl hb1167 rfl) ?_)
      refine OW.cons (OP.val (v := (.bool (decide (12 < (a0.Points.length : Int))))) rfl (x_move) ?_)
      refine ifB_elim hm (fun hb1168 hm => ?_) (fun hb1168 hm => ?_)
      · refine OW.cons (OP.no' rfl rfl hb1168 rfl ?_)
        refine OW.cons (OP.no' rfl rfl hb1168 rfl ?_)
        refine OW.cons (OP.no' rfl rfl hb1168 rfl ?_)
        refine OW.cons (OP.no' rfl rfl hb1168 rfl ?_)
        refine OW.cons (OP.no' rfl rfl hb1168 rfl ?_)
        refine OW.cons (OP.no' rfl rfl hb1168 rfl ?_)
        refine OW.cons (OP.no' rfl rfl hb1168 rfl ?_)
        refine OW.cons (OP.val (v := (.bool true)) rfl (x_pickT' rfl hb1168 rfl) ?_)
        refine OW.nil ?_
        exact ⟨true, hm, ⟨rfl, rfl, hL⟩⟩
      · refine OW.cons (OP.yes' rfl rfl hb1168 (OP.val (v := (.pointer (some ⟨b6, 2, none⟩))) rfl (x_fieldAddr (fsz := 1) 0 2 2 Try.underlying29 rfl Try_T22 rfl rfl rfl) ?_))
        refine OW.cons (OP.yes' rfl rfl hb1168 (OP.val (v := v3) rfl (x_load1 Try.underlying22 rfl rfl (hL.cellB 0 rfl rfl)) ?_))
        refine OW.cons (OP.yes' rfl rfl hb1168 (OP.val (v := (.int .i64 (a0.Codes.length : Int))) rfl (x_lenR Try.underlying22 rfl (hL.rdS 1 rfl h4)) ?_))
        refine OW.cons (OP.yes' rfl rfl hb1168 (OP.val (v := (.pointer (some ⟨b6, 1, none⟩))) rfl (x_fieldAddr (fsz := 1) 0 1 1 Try.underlying29 rfl Try_T22 rfl rfl rfl) ?_))
        refine OW.cons (OP.yes' rfl rfl hb1168 (OP.val (v := v1) rfl (x_load1 Try.underlying22 rfl rfl (hL.cellB 0 rfl rfl)) ?_))
        refine OW.cons (OP.yes' rfl rfl hb1168 (OP.val (v := (.int .i64 (a0.Points.length : Int))) rfl (x_lenR Try.underlying22 rfl (hL.rdS 1 rfl h2)) ?_))
        refine OW.cons (OP.yes' rfl rfl hb1168 (OP.val (v := (.bool ((a0.Codes.length : Int) != (a0.Points.length : Int)))) rfl (x_neq rfl rfl) ?_))
        refine OW.cons (OP.val (v := (.bool ((a0.Codes.length : Int) != (a0.Points.length : Int)))) rfl (x_pickF' rfl hb1168 rfl) ?_)
        refine OW.nil ?_
        exact ⟨(a0.Codes.length : Int) != (a0.Points.length : Int), hm, ⟨rfl, rfl, hL⟩⟩
  · intro s_j1 F14 wd15 hJ hm
    unfold M.spec_IsTable_j1 at hm
    obtain ⟨f16, f17, hL⟩ := hJ
    refine CW.condM (t := s_j1) f17 hm (fun hb18 hm => ?_) (fun hb18 hm => ?_)
    · refine CW.seq ?_
      refine CW.regionL ?_
      refine OW.cons (OP.val (v := (.bool false)) rfl (x_assign) ?_)
      refine OW.nil ?_
      refine CW.ret ?_
      obtain rfl := Option.some.inj hm
      exact RR1 rfl rfl ⟨rfl, hL.fresh 1 rfl [] (by decide) (by decide) rfl⟩
    · refine CW.skip ?_
      refine CW.seq ?_
      refine CW.seq ?_
      refine CW.regionL ?_
      refine OW.cons (OP.val (v := (.int .i64 0)) rfl (x_assign) ?_)
      refine OW.nil ?_
      obtain ⟨o775, ho776, hm⟩ := bndE hm
      refine CW.loopB (fun (s_l1 : Int) (F : Fr) (w : World) => F 1 = (.pointer (some ⟨b6, 0, none⟩)) ∧ F 3 = (.int .i64 s_l1) ∧ Hp w0 [Ent.blk b6 29 #[(.int .i64 a0.Boats), v1, v3], Ent.snap w0 w0.heap.size] w) (fun o => outc o (fun x => some x) (fun s => M.spec_IsTable_a1 s) = some r) ho776 hm ⟨f16, rfl, hL⟩ ?_ ?_
      · intro s_l1 F777 wd778 hJ hm
        have hm := outcE hm
        have hm : M.spec_IsTable_a1 s_l1 = some r := hm
        unfold M.spec_IsTable_a1 at hm
        obtain ⟨f779, f780, hL⟩ := hJ
        refine CW.seq ?_
        refine CW.regionL ?_
        refine OW.cons (OP.val (v := (.bool true)) rfl (x_assign) ?_)
        refine OW.nil ?_
        refine CW.ret ?_
        obtain rfl := Option.some.inj hm
        exact RR1 rfl rfl ⟨rfl, hL.fresh 1 rfl [] (by decide) (by decide) rfl⟩
      · intro s_l1 F781 wd782 t773 hJ hm hr774
        unfold M.spec_IsTable_l1 at hm
        obtain ⟨f783, f784, hL⟩ := hJ
        refine CW.seq ?_
        refine CW.seq ?_
        refine CW.regionL ?_
        refine OW.cons (OP.val (v := (.int .i64 s_l1)) rfl (x_mv f784) ?_)
        refine OW.cons (OP.val (v := (.pointer (some ⟨b6, 1, none⟩))) rfl (x_fieldAddr (fsz := 1) 0 1 1 Try.underlying29 rfl Try_T22 rfl f783 rfl) ?_)
        refine OW.cons (OP.val (v := v1) rfl (x_load1 Try.underlying22 rfl rfl (hL.cellB 0 rfl rfl)) ?_)
        refine OW.cons (OP.val (v := (.int .i64 (a0.Points.length : Int))) rfl (x_lenR Try.underlying22 rfl (hL.rdS 1 rfl h2)) ?_)
        refine OW.cons (OP.val (v := (.bool (decide (s_l1 < (a0.Points.length : Int))))) rfl (x_lss rfl rfl) ?_)
        refine OW.nil ?_
        refine CW.condM (t := decide (s_l1 < (a0.Points.length : Int))) rfl hm (fun hb785 hm => ?_) (fun hb785 hm => ?_)
        · refine CW.skip ?_
          refine CW.seq ?_
          refine CW.block ?_
          refine CW.seq ?_
          refine CW.seqJ (fun (s_j2 : Bool) (F : Fr) (w : World) => F 1 = (.pointer (some ⟨b6, 0, none⟩)) ∧ F 3 = (.int .i64 s_l1) ∧ F 50 = (.bool s_j2) ∧ Hp w0 [Ent.blk b6 29 #[(.int .i64 a0.Boats), v1, v3], Ent.snap w0 w0.heap.size] w) (fun s_j2 => M.spec_IsTable_j2 a0 s_l1 s_j2 = some t773) ?_ ?_
          · refine CW.draw Try_mixed ?_
            have hL := hL.call (Mod.drew _)
            refine DW.pre (fuel := 0) (fin := (((((((((((((((((((((Array.replicate 20 false).setIfInBounds 0 true).setIfInBounds 1 true).setIfInBounds 2 true).setIfInBounds 3 true).setIfInBounds 4 true).setIfInBounds 5 true).setIfInBounds 6 true).setIfInBounds 7 true).setIfInBounds 8 true).setIfInBounds 9 true).setIfInBounds 10 true).setIfInBounds 11 true).setIfInBounds 12 true).setIfInBounds 13 true).setIfInBounds 14 true).setIfInBounds 15 true).setIfInBounds 16 true).setIfInBounds 17 true).setIfInBounds 18 true).setIfInBounds 19 true)) (C := fun w' => Mod None_ _ w') [0, 1, 2, 3, 4, 5, 6, 7, 8, 9, 10, 11, 12, 13, 14, 15, 16, 17, 18, 19] (Mod.refl _ _) (by kernel_rfl) (by kernel_rfl) ?_
            refine QW.cons rfl (QP.val (v := (.pointer (some ⟨b6, 1, none⟩))) rfl (fun w' hm' => x_fieldAddr (fsz := 1) 0 1 1 Try.underlying29 rfl Try_T22 rfl f783 rfl) ?_)
            refine QW.cons rfl (QP.val (v := v1) rfl (fun w' hm' => x_load1 Try.underlying22 rfl rfl ((hL.call hm').cellB 0 rfl rfl)) ?_)
            refine QW.cons rfl (QP.val (v := (.int .i64 s_l1)) rfl (fun w' hm' => x_mv f784) ?_)
            obtain ⟨x1137, ha1138, hm⟩ := bndE hm
            obtain ⟨hz1139, ha1147⟩ := idxE ha1138
            obtain ⟨b1140, q1141, v1142, hix1143, hs1144, hc1145, hr1146⟩ := rdN_at h2 hz1139 ha1147
            refine QW.cons rfl (QP.val (v := (.pointer (some ⟨b1140, q1141, none⟩))) rfl (fun w' hm' => x_ix Try.underlying22 Try_T25 rfl rfl hix1143) ?_)
            refine QW.cons rfl (QP.val (v := v1142) rfl (fun w' hm' => x_load1 Try.underlying25 rfl rfl ((hL.call hm').cellS 1 rfl hs1144 hc1145)) ?_)
            refine QW.cons rfl (QP.val (v := (.int .i64 (x1137.length : Int))) rfl (fun w' hm' => x_lenR Try.underlying25 rfl ((hL.call hm').rdS 1 rfl hr1146)) ?_)
            refine QW.cons rfl (QP.val (v := (.pointer (some ⟨b6, 0, none⟩))) rfl (fun w' hm' => x_fieldAddr (fsz := 1) 0 0 0 Try.underlying29 rfl Try_T2 rfl f783 rfl) ?_)
            refine QW.cons rfl (QP.val (v := (.int .i64 a0.Boats)) rfl (fun w' hm' => x_load1 Try.underlying2 rfl rfl ((hL.call hm').cellB 0 rfl rfl)) ?_)
            refine QW.cons rfl (QP.val (v := (.bool ((x1137.length : Int) != a0.Boats))) rfl (fun w' hm' => x_neq rfl rfl) ?_)
            refine QW.cons rfl (QP.val (v := (.bool ((x1137.length : Int) != a0.Boats))) rfl (fun w' hm' => x_move) ?_)
            refine ifB_elim hm (fun hb1148 hm => ?_) (fun hb1148 hm => ?_)
            · refine QW.cons rfl (QP.no' rfl rfl hb1148 rfl ?_)
              refine QW.cons rfl (QP.no' rfl rfl hb1148 rfl ?_)
              refine QW.cons rfl (QP.no' rfl rfl hb1148 rfl ?_)
              refine QW.cons rfl (QP.no' rfl rfl hb1148 rfl ?_)
              refine QW.cons rfl (QP.no' rfl rfl hb1148 rfl ?_)
              refine QW.cons rfl (QP.no' rfl rfl hb1148 rfl ?_)
              refine QW.cons rfl (QP.no' rfl rfl hb1148 rfl ?_)
              refine QW.cons rfl (QP.no' rfl rfl hb1148 rfl ?_)
              refine QW.cons rfl (QP.no' rfl rfl hb1148 rfl ?_)
              refine QW.cons rfl (QP.val (v := (.bool true)) rfl (fun w' hm' => x_pickT' rfl hb1148 rfl) ?_)
              refine QW.nil ?_
              intro wd1149 hmod
              have hL := hL.call hmod
              refine DW.done (by kernel_rfl) ?_
              exact ⟨true, hm, ⟨f783, f784, rfl, hL⟩⟩
            · refine QW.cons rfl (QP.yes' rfl rfl hb1148 (QP.val (v := (.pointer (some ⟨b6, 2, none⟩))) rfl (fun w' hm' => x_fieldAddr (fsz := 1) 0 2 2 Try.underlying29 rfl Try_T22 rfl f783 rfl) ?_))
              refine QW.cons rfl (QP.yes' rfl rfl hb1148 (QP.val (v := v3) rfl (fun w' hm' => x_load1 Try.underlying22 rfl rfl ((hL.call hm').cellB 0 rfl rfl)) ?_))
              refine QW.cons rfl (QP.yes' rfl rfl hb1148 (QP.val (v := (.int .i64 s_l1)) rfl (fun w' hm' => x_mv f784) ?_))
              obtain ⟨x1150, ha1151, hm⟩ := bndE hm
              obtain ⟨hz1152, ha1160⟩ := idxE ha1151
              obtain ⟨b1153, q1154, v1155, hix1156, hs1157, hc1158, hr1159⟩ := rdN_at h4 hz1152 ha1160
              refine QW.cons rfl (QP.yes' rfl rfl hb1148 (QP.val (v := (.pointer (some ⟨b1153, q1154, none⟩))) rfl (fun w' hm' => x_ix Try.underlying22 Try_T25 rfl rfl hix1156) ?_))
              refine QW.cons rfl (QP.yes' rfl rfl hb1148 (QP.val (v := v1155) rfl (fun w' hm' => x_load1 Try.underlying25 rfl rfl ((hL.call hm').cellS 1 rfl hs1157 hc1158)) ?_))
              refine QW.cons rfl (QP.yes' rfl rfl hb1148 (QP.val (v := (.int .i64 (x1150.length : Int))) rfl (fun w' hm' => x_lenR Try.underlying25 rfl ((hL.call hm').rdS 1 rfl hr1159)) ?_))
              refine QW.cons rfl (QP.yes' rfl rfl hb1148 (QP.val (v := (.pointer (some ⟨b6, 0, none⟩))) rfl (fun w' hm' => x_fieldAddr (fsz := 1) 0 0 0 Try.underlying29 rfl Try_T2 rfl f783 rfl) ?_))
              refine QW.cons rfl (QP.yes' rfl rfl hb1148 (QP.val (v := (.int .i64 a0.Boats)) rfl (fun w' hm' => x_load1 Try.underlying2 rfl rfl ((hL.call hm').cellB 0 rfl rfl)) ?_))
              refine QW.cons rfl (QP.yes' rfl rfl hb1148 (QP.val (v := (.bool ((x1150.length : Int) != a0.Boats))) rfl (fun w' hm' => x_neq rfl rfl) ?_))
              refine QW.cons rfl (QP.val (v := (.bool ((x1150.length : Int) != a0.Boats))) rfl (fun w' hm' => x_pickF' rfl hb1148 rfl) ?_)
              refine QW.nil ?_
              intro wd1161 hmod
              have hL := hL.call hmod
              refine DW.done (by kernel_rfl) ?_
              exact ⟨(x1150.length : Int) != a0.Boats, hm, ⟨f783, f784, rfl, hL⟩⟩
          · intro s_j2 F811 wd812 hJ hm
            unfold M.spec_IsTable_j2 at hm
            obtain ⟨f813, f814, f815, hL⟩ := hJ
            refine CW.condM (t := s_j2) f815 hm (fun hb816 hm => ?_) (fun hb816 hm => ?_)
            · refine CW.seq ?_
              refine CW.regionL ?_
              refine OW.cons (OP.val (v := (.bool false)) rfl (x_assign) ?_)
              refine OW.nil ?_
              refine CW.ret ?_
              obtain rfl := Option.some.inj hm
              have hm := hr774 _ rfl
              obtain rfl := Option.some.inj hm
              exact RR1 rfl rfl ⟨rfl, hL.fresh 1 rfl [] (by decide) (by decide) rfl⟩
            · refine CW.skip ?_
              refine CW.seq ?_
              refine CW.regionL ?_
              refine OW.cons (OP.val (v := (.int .i64 0)) rfl (x_assign) ?_)
              refine OW.nil ?_
              obtain ⟨o1023, ho1024, hm⟩ := bndE hm
              refine CW.loopB (fun (s_l2 : Int) (F : Fr) (w : World) => F 1 = (.pointer (some ⟨b6, 0, none⟩)) ∧ F 3 = (.int .i64 s_l1) ∧ F 4 = (.int .i64 s_l2) ∧ Hp w0 [Ent.blk b6 29 #[(.int .i64 a0.Boats), v1, v3], Ent.snap w0 w0.heap.size] w) (fun o => outc o (fun x => some (.ret x)) (fun s => M.spec_IsTable_a2 s_l1 s) = some t773) ho1024 hm ⟨f813, f814, rfl, hL⟩ ?_ ?_
              · intro s_l2 F1025 wd1026 hJ hm
                have hm := outcE hm
                have hm : M.spec_IsTable_a2 s_l1 s_l2 = some t773 := hm
                unfold M.spec_IsTable_a2 at hm
                obtain ⟨f1027, f1028, f1029, hL⟩ := hJ
                refine CW.regionL ?_
                refine OW.cons (OP.val (v := (.int .i64 s_l1)) rfl (x_mv f1028) ?_)
                refine OW.cons (OP.val (v := (.int .i64 (w64 (s_l1 + 1)))) rfl (x_add rfl rfl) ?_)
                refine OW.cons (OP.val (v := (.int .i64 (w64 (s_l1 + 1)))) rfl (x_assign) ?_)
                refine OW.nil ?_
                obtain rfl := Option.some.inj hm
                exact ⟨_, rfl, ⟨f1027, rfl, hL⟩⟩
              · intro s_l2 F1030 wd1031 t1021 hJ hm hr1022
                unfold M.spec_IsTable_l2 at hm
                obtain ⟨f1032, f1033, f1034, hL⟩ := hJ
                refine CW.seq ?_
                refine CW.seq ?_
                refine CW.regionL ?_
                refine OW.cons (OP.val (v := (.int .i64 s_l2)) rfl (x_mv f1034) ?_)
                refine OW.cons (OP.val (v := (.pointer (some ⟨b6, 0, none⟩))) rfl (x_fieldAddr (fsz := 1) 0 0 0 Try.underlying29 rfl Try_T2 rfl f1032 rfl) ?_)
                refine OW.cons (OP.val (v := (.int .i64 a0.Boats)) rfl (x_load1 Try.underlying2 rfl rfl (hL.cellB 0 rfl rfl)) ?_)
                refine OW.cons (OP.val (v := (.bool (decide (s_l2 < a0.Boats)))) rfl (x_lss rfl rfl) ?_)
                refine OW.nil ?_
                refine CW.condM (t := decide (s_l2 < a0.Boats)) rfl hm (fun hb1035 hm => ?_) (fun hb1035 hm => ?_)
                · refine CW.skip ?_
                  refine CW.seq ?_
                  refine CW.block ?_
                  refine CW.seqJ (fun (s_j3 : Bool) (F : Fr) (w : World) => F 1 = (.pointer (some ⟨b6, 0, none⟩)) ∧ F 3 = (.int .i64 s_l1) ∧ F 4 = (.int .i64 s_l2) ∧ F 78 = (.bool s_j3) ∧ Hp w0 [Ent.blk b6 29 #[(.int .i64 a0.Boats), v1, v3], Ent.snap w0 w0.heap.size] w) (fun s_j3 => M.spec_IsTable_j3 s_l2 s_j3 = some t1021) ?_ ?_
                  · refine CW.regionL ?_
                    refine OW.cons (OP.val (v := (.pointer (some ⟨b6, 1, none⟩))) rfl (x_fieldAddr (fsz := 1) 0 1 1 Try.underlying29 rfl Try_T22 rfl f1032 rfl) ?_)
                    refine OW.cons (OP.val (v := v1) rfl (x_load1 Try.underlying22 rfl rfl (hL.cellB 0 rfl rfl)) ?_)
                    refine OW.cons (OP.val (v := (.int .i64 s_l1)) rfl (x_mv f1033) ?_)
                    obtain ⟨x1090, ha1091, hm⟩ := bndE hm
                    obtain ⟨hz1092, ha1100⟩ := idxE ha1091
                    obtain ⟨b1093, q1094, v1095, hix1096, hs1097, hc1098, hr1099⟩ := rdN_at h2 hz1092 ha1100
                    refine OW.cons (OP.val (v := (.pointer (some ⟨b1093, q1094, none⟩))) rfl (x_ix Try.underlying22 Try_T25 rfl rfl hix1096) ?_)
                    refine OW.cons (OP.val (v := v1095) rfl (x_load1 Try.underlying25 rfl rfl (hL.cellS 1 rfl hs1097 hc1098)) ?_)
                    refine OW.cons (OP.val (v := (.int .i64 s_l2)) rfl (x_mv f1034) ?_)
                    obtain ⟨x1101, ha1102, hm⟩ := bndE hm
                    obtain ⟨hz1103, ha1107⟩ := idxE ha1102
                    obtain ⟨b1104, q1105, hix1106⟩ := rdL_ix (hL.rdS 1 rfl hr1099) hz1103 ha1107
                    refine OW.cons (OP.val (v := (.pointer (some ⟨b1104, q1105, none⟩))) rfl (x_ix Try.underlying25 Try_T2 rfl rfl hix1106) ?_)
                    refine OW.cons (OP.val (v := (.int .i64 x1101)) rfl (x_load1 Try.underlying2 rfl rfl (rdF_cells (hL.rdS 1 rfl hr1099) hix1106 ha1107 0 _ rfl)) ?_)
                    obtain ⟨x1108, hx1109, hm⟩ := bndE hm
                    refine OW.cons (OP.call rfl (x_call (vs := [(.int .i64 x1101), (.int .i64 0), (.int .i64 10000)]) Try_C48 ⟨rfl, rfl, rfl, trivial⟩) (M.spec_l01In_ok _ x1101 0 10000 hx1109) ?_)
                    rintro e1110 wd1111 ⟨rfl, hF1112⟩
                    refine ⟨_, rfl, ?_⟩
                    have hL := hL.pushAll hF1112
                    simp only [List.cons_append, List.nil_append, List.set_cons_zero, List.set_cons_succ] at hL
                    refine OW.cons (OP.val (v := (.bool (!x1108))) rfl (x_not rfl) ?_)
                    refine OW.cons (OP.val (v := (.bool (!x1108))) rfl (x_move) ?_)
                    refine ifB_elim hm (fun hb1113 hm => ?_) (fun hb1113 hm => ?_)
                    · refine OW.cons (OP.no' rfl rfl hb1113 rfl ?_)
                      refine OW.cons (OP.no' rfl rfl hb1113 rfl ?_)
                      refine OW.cons (OP.no' rfl rfl hb1113 rfl ?_)
                      refine OW.cons (OP.no' rfl rfl hb1113 rfl ?_)
                      refine OW.cons (OP.no' rfl rfl hb1113 rfl ?_)
                      refine OW.cons (OP.no' rfl rfl hb1113 rfl ?_)
                      refine OW.cons (OP.no' rfl rfl hb1113 rfl ?_)
                      refine OW.cons (OP.no' rfl rfl hb1113 rfl ?_)
                      refine OW.cons (OP.no' rfl rfl hb1113 rfl ?_)
                      refine OW.cons (OP.no' rfl rfl hb1113 rfl ?_)
                      refine OW.cons (OP.val (v := (.bool true)) rfl (x_pickT' rfl hb1113 rfl) ?_)
                      refine OW.nil ?_
                      exact ⟨true, hm, ⟨f1032, f1033, f1034, rfl, hL⟩⟩
                    · refine OW.cons (OP.yes' rfl rfl hb1113 (OP.val (v := (.pointer (some ⟨b6, 2, none⟩))) rfl (x_fieldAddr (fsz := 1) 0 2 2 Try.underlying29 rfl Try_T22 rfl f1032 rfl) ?_))
                      refine OW.cons (OP.yes' rfl rfl hb1113 (OP.val (v := v3) rfl (x_load1 Try.underlying22 rfl rfl (hL.cellB 0 rfl rfl)) ?_))
                      refine OW.cons (OP.yes' rfl rfl hb1113 (OP.val (v := (.int .i64 s_l1)) rfl (x_mv f1033) ?_))
                      obtain ⟨x1114, ha1115, hm⟩ := bndE hm
                      obtain ⟨hz1116, ha1124⟩ := idxE ha1115
                      obtain ⟨b1117, q1118, v1119, hix1120, hs1121, hc1122, hr1123⟩ := rdN_at h4 hz1116 ha1124
                      refine OW.cons (OP.yes' rfl rfl hb1113 (OP.val (v := (.pointer (some ⟨b1117, q1118, none⟩))) rfl (x_ix Try.underlying22 Try_T25 rfl rfl hix1120) ?_))
                      refine OW.cons (OP.yes' rfl rfl hb1113 (OP.val (v := v1119) rfl (x_load1 Try.underlying25 rfl rfl (hL.cellS 1 rfl hs1121 hc1122)) ?_))
                      refine OW.cons (OP.yes' rfl rfl hb1113 (OP.val (v := (.int .i64 s_l2)) rfl (x_mv f1034) ?_))
                      obtain ⟨x1125, ha1126, hm⟩ := bndE hm
                      obtain ⟨hz1127, ha1131⟩ := idxE ha1126
                      obtain ⟨b1128, q1129, hix1130⟩ := rdL_ix (hL.rdS 1 rfl hr1123) hz1127 ha1131
                      refine OW.cons (OP.yes' rfl rfl hb1113 (OP.val (v := (.pointer (some ⟨b1128, q1129, none⟩))) rfl (x_ix Try.underlying25 Try_T2 rfl rfl hix1130) ?_))
                      refine OW.cons (OP.yes' rfl rfl hb1113 (OP.val (v := (.int .i64 x1125)) rfl (x_load1 Try.underlying2 rfl rfl (rdF_cells (hL.rdS 1 rfl hr1123) hix1130 ha1131 0 _ rfl)) ?_))
                      obtain ⟨x1132, hx1133, hm⟩ := bndE hm
                      refine OW.cons (OP.yes' rfl rfl hb1113 (OP.call rfl (x_call (vs := [(.int .i64 x1125)]) Try_C62 ⟨rfl, trivial⟩) (M.spec_l26Code_ok _ x1125 hx1133) ?_))
                      rintro e1134 wd1135 ⟨rfl, hF1136⟩
                      refine ⟨_, rfl, ?_⟩
                      have hL := hL.pushAll hF1136
                      simp only [List.cons_append, List.nil_append, List.set_cons_zero, List.set_cons_succ] at hL
                      refine OW.cons (OP.yes' rfl rfl hb1113 (OP.val (v := (.bool (!x1132))) rfl (x_not rfl) ?_))
                      refine OW.cons (OP.val (v := (.bool (!x1132))) rfl (x_pickF' rfl hb1113 rfl) ?_)
                      refine OW.nil ?_
                      exact ⟨!x1132, hm, ⟨f1032, f1033, f1034, rfl, hL⟩⟩
                  · intro s_j3 F1083 wd1084 hJ hm
                    unfold M.spec_IsTable_j3 at hm
                    obtain ⟨f1085, f1086, f1087, f1088, hL⟩ := hJ
                    refine CW.condM (t := s_j3) f1088 hm (fun hb1089 hm => ?_) (fun hb1089 hm => ?_)
                    · refine CW.seq ?_
                      refine CW.regionL ?_
                      refine OW.cons (OP.val (v := (.bool false)) rfl (x_assign) ?_)
                      refine OW.nil ?_
                      refine CW.ret ?_
                      obtain rfl := Option.some.inj hm
                      have hm := hr1022 _ rfl
                      obtain rfl := Option.some.inj hm
                      have hm := hr774 _ rfl
                      obtain rfl := Option.some.inj hm
                      exact RR1 rfl rfl ⟨rfl, hL.fresh 1 rfl [] (by decide) (by decide) rfl⟩
                    · refine CW.skip ?_
                      refine CW.regionL ?_
                      refine OW.cons (OP.val (v := (.int .i64 s_l2)) rfl (x_mv f1087) ?_)
                      refine OW.cons (OP.val (v := (.int .i64 (w64 (s_l2 + 1)))) rfl (x_add rfl rfl) ?_)
                      refine OW.cons (OP.val (v := (.int .i64 (w64 (s_l2 + 1)))) rfl (x_assign) ?_)
                      refine OW.nil ?_
                      obtain rfl := Option.some.inj hm
                      exact ⟨_, rfl, ⟨f1085, f1086, rfl, hL⟩⟩
                · refine CW.exit ?_
                  refine XJ.hit ?_
                  obtain rfl := Option.some.inj hm
                  exact ⟨_, rfl, ⟨f1032, f1033, f1034, hL⟩⟩
        · refine CW.exit ?_
          refine XJ.hit ?_
          obtain rfl := Option.some.inj hm
          exact ⟨_, rfl, ⟨f783, f784, hL⟩⟩

theorem M.impl_within_ok (w0 : World) (a0 : Int) (a1 : Int) (a2 : Int) {r : Bool} (hm : M.impl_within a0 a1 a2 = some r) :
    Calls Try.prog 51 #[(.int .i64 a0), (.int .i64 a1), (.int .i64 a2)] w0 fun e w' => e = .returned (.bool r) ∧ Fresh w0 w' [] := by
  unfold M.impl_within at hm
  refine calls_CW (args := [(.int .i64 a0), (.int .i64 a1), (.int .i64 a2)]) Try.func51 rfl rfl rfl ?_
  have hL := Hp.start w0
  refine CW.seq ?_
  refine CW.regionL ?_
  refine OW.cons (OP.val (v := (.bool false)) rfl (x_assign) ?_)
  refine OW.nil ?_
  refine CW.seqJ (fun (s_j1 : Bool) (F : Fr) (w : World) => F 6 = (.bool s_j1) ∧ Hp w0 [Ent.snap w0 w0.heap.size] w) (fun s_j1 => M.impl_within_j1 s_j1 = some r) ?_ ?_
  · refine CW.regionL ?_
    refine OW.cons (OP.val (v := (.int .i64 a0)) rfl (x_move) ?_)
    refine OW.cons (OP.val (v := (.int .i64 a1)) rfl (x_move) ?_)
    refine OW.cons (OP.val (v := (.bool (decide (a1 ≤ a0)))) rfl (x_geq rfl rfl) ?_)
    refine OW.cons (OP.val (v := (.bool (decide (a1 ≤ a0)))) rfl (x_move) ?_)
    refine ifB_elim hm (fun hb5 hm => ?_) (fun hb5 hm => ?_)
    · refine OW.cons (OP.yes' rfl rfl hb5 (OP.val (v := (.int .i64 a0)) rfl (x_move) ?_))
      refine OW.cons (OP.yes' rfl rfl hb5 (OP.val (v := (.int .i64 a2)) rfl (x_move) ?_))
      refine OW.cons (OP.yes' rfl rfl hb5 (OP.val (v := (.bool (decide (a0 ≤ a2)))) rfl (x_leq rfl rfl) ?_))
      refine OW.cons (OP.val (v := (.bool (decide (a0 ≤ a2)))) rfl (x_pickT' rfl hb5 rfl) ?_)
      refine OW.cons (OP.val (v := (.bool (decide (a0 ≤ a2)))) rfl (x_assign) ?_)
      refine OW.nil ?_
      exact ⟨decide (a0 ≤ a2), hm, ⟨rfl, hL⟩⟩
    · refine OW.cons (OP.no' rfl rfl hb5 rfl ?_)
      refine OW.cons (OP.no' rfl rfl hb5 rfl ?_)
      refine OW.cons (OP.no' rfl rfl hb5 rfl ?_)
      refine OW.cons (OP.val (v := (.bool false)) rfl (x_pickF' rfl hb5 rfl) ?_)
      refine OW.cons (OP.val (v := (.bool false)) rfl (x_assign) ?_)
      refine OW.nil ?_
      exact ⟨false, hm, ⟨rfl, hL⟩⟩
  · intro s_j1 F2 wd3 hJ hm
    unfold M.impl_within_j1 at hm
    obtain ⟨f4, hL⟩ := hJ
    refine CW.ret ?_
    obtain rfl := Option.some.inj hm
    exact RR1 rfl f4 ⟨rfl, hL.fresh 0 rfl [] (by decide) (by decide) rfl⟩

theorem M.impl_areRow_ok (w0 : World) (a0 : List Int) {v1 : Value} (h2 : rdL (· < w0.heap.size) w0 v1 a0) (a1 : Int) (a2 : Int) {r : Bool} (hm : M.impl_areRow a0 a1 a2 = some r) :
    Calls Try.prog 63 #[v1, (.int .i64 a1), (.int .i64 a2)] w0 fun e w' => e = .returned (.bool r) ∧ Fresh w0 w' [] := by
  unfold M.impl_areRow at hm
  refine calls_CW (args := [v1, (.int .i64 a1), (.int .i64 a2)]) Try.func63 rfl rfl rfl ?_
  have hL := Hp.start w0
  refine CW.seq ?_
  refine CW.regionL ?_
  refine OW.cons (OP.val (v := (.bool false)) rfl (x_assign) ?_)
  refine OW.nil ?_
  refine CW.seq ?_
  refine CW.seq ?_
  refine CW.regionL ?_
  refine OW.cons (OP.val (v := v1) rfl (x_move) ?_)
  refine OW.cons (OP.val (v := (.int .i64 (a0.length : Int))) rfl (x_lenR Try.underlying25 rfl (hL.rdS 0 rfl h2)) ?_)
  refine OW.cons (OP.val (v := (.int .i64 0)) rfl (x_move) ?_)
  refine OW.nil ?_
  obtain ⟨o33, ho34, hm⟩ := bndE hm
  refine CW.loopB (fun (s_l1 : Int) (F : Fr) (w : World) => F 0 = v1 ∧ F 1 = (.int .i64 a1) ∧ F 2 = (.int .i64 a2) ∧ F 9 = v1 ∧ F 10 = (.int .i64 (a0.length : Int)) ∧ F 11 = (.int .i64 s_l1) ∧ Hp w0 [Ent.snap w0 w0.heap.size] w) (fun o => outc o (fun x => some x) (fun s => M.impl_areRow_a1 a0 a1 s) = some r) ho34 hm ⟨rfl, rfl, rfl, rfl, rfl, rfl, hL⟩ ?_ ?_
  · intro s_l1 F35 wd36 hJ hm
    have hm := outcE hm
    have hm : M.impl_areRow_a1 a0 a1 s_l1 = some r := hm
    unfold M.impl_areRow_a1 at hm
    obtain ⟨f37, f38, f39, f40, f41, f42, hL⟩ := hJ
    refine CW.seq ?_
    refine CW.regionL ?_
    refine OW.cons (OP.val (v := v1) rfl (x_mv f37) ?_)
    refine OW.cons (OP.val (v := (.int .i64 (a0.length : Int))) rfl (x_lenR Try.underlying25 rfl (hL.rdS 0 rfl h2)) ?_)
    refine OW.cons (OP.val (v := (.int .i64 a1)) rfl (x_mv f38) ?_)
    refine OW.cons (OP.val (v := (.bool ((a0.length : Int) == a1))) rfl (x_eql rfl rfl) ?_)
    refine OW.cons (OP.val (v := (.bool ((a0.length : Int) == a1))) rfl (x_assign) ?_)
    refine OW.nil ?_
    refine CW.ret ?_
    obtain rfl := Option.some.inj hm
    exact RR1 rfl rfl ⟨rfl, hL.fresh 0 rfl [] (by decide) (by decide) rfl⟩
  · intro s_l1 F43 wd44 t31 hJ hm hr32
    unfold M.impl_areRow_l1 at hm
    obtain ⟨f45, f46, f47, f48, f49, f50, hL⟩ := hJ
    refine CW.seq ?_
    refine CW.regionL ?_
    refine OW.cons (OP.val (v := (.bool (decide (s_l1 < (a0.length : Int))))) rfl (x_lss f50 f49) ?_)
    refine OW.nil ?_
    refine CW.seq ?_
    refine CW.condM (t := decide (s_l1 < (a0.length : Int))) rfl hm (fun hb51 hm => ?_) (fun hb51 hm => ?_)
    · refine CW.skip ?_
      refine CW.seq ?_
      refine CW.block ?_
      refine CW.seq ?_
      refine CW.regionL ?_
      obtain ⟨x52, ha53, hm⟩ := bndE hm
      obtain ⟨hz54, ha58⟩ := idxE ha53
      obtain ⟨b55, q56, hix57⟩ := rdL_ix (hL.rdS 0 rfl h2) hz54 ha58
      refine OW.cons (OP.val (v := (.pointer (some ⟨b55, q56, none⟩))) rfl (x_ix Try.underlying25 Try_T2 f48 f50 hix57) ?_)
      refine OW.cons (OP.val (v := (.int .i64 x52)) rfl (x_load1 Try.underlying2 rfl rfl (rdF_cells (hL.rdS 0 rfl h2) hix57 ha58 0 _ rfl)) ?_)
      refine OW.cons (OP.val (v := (.int .i64 x52)) rfl (x_assign) ?_)
      refine OW.nil ?_
      refine CW.seq ?_
      refine CW.regionL ?_
      refine OW.cons (OP.val (v := (.int .i64 x52)) rfl (x_move) ?_)
      refine OW.cons (OP.val (v := (.int .i64 a2)) rfl (x_mv f47) ?_)
      obtain ⟨x59, hx60, hm⟩ := bndE hm
      refine OW.cons (OP.call rfl (x_call (vs := [(.int .i64 x52), (.int .i64 0), (.int .i64 a2)]) Try_C51 ⟨rfl, rfl, rfl, trivial⟩) (M.impl_within_ok _ x52 0 a2 hx60) ?_)
      rintro e61 wd62 ⟨rfl, hF63⟩
      refine ⟨_, rfl, ?_⟩
      have hL := hL.pushAll hF63
      simp only [List.cons_append, List.nil_append, List.set_cons_zero, List.set_cons_succ] at hL
      refine OW.cons (OP.val (v := (.bool (!x59))) rfl (x_not rfl) ?_)
      refine OW.nil ?_
      refine CW.condM (t := !x59) rfl hm (fun hb64 hm => ?_) (fun hb64 hm => ?_)
      · refine CW.seq ?_
        refine CW.regionL ?_
        refine OW.cons (OP.val (v := (.bool false)) rfl (x_assign) ?_)
        refine OW.nil ?_
        refine CW.ret ?_
        obtain rfl := Option.some.inj hm
        have hm := hr32 _ rfl
        obtain rfl := Option.some.inj hm
        exact RR1 rfl rfl ⟨rfl, hL.fresh 0 rfl [] (by decide) (by decide) rfl⟩
      · refine CW.skip ?_
        refine CW.regionL ?_
        refine OW.cons (OP.val (v := (.int .i64 (w64 (s_l1 + 1)))) rfl (x_add f50 rfl) ?_)
        refine OW.cons (OP.val (v := (.int .i64 (w64 (s_l1 + 1)))) rfl (x_move) ?_)
        refine OW.nil ?_
        obtain rfl := Option.some.inj hm
        exact ⟨_, rfl, ⟨f45, f46, f47, f48, f49, rfl, hL⟩⟩
    · refine CW.exit ?_
      refine XJ.hit ?_
      obtain rfl := Option.some.inj hm
      exact ⟨_, rfl, ⟨f45, f46, f47, f48, f49, f50, hL⟩⟩

theorem M.impl_IsTable_ok (w0 : World) (a0 : Table) {v1 : Value} {v3 : Value} (h2 : rdL (· < w0.heap.size) w0 v1 a0.Points) (h4 : rdL (· < w0.heap.size) w0 v3 a0.Codes) {r : Bool} (hm : M.impl_IsTable a0 = some r) :
    Calls Try.prog 50 #[(.agg #[(.int .i64 a0.Boats), v1, v3])] w0 fun e w' => e = .returned (.bool r) ∧ Fresh w0 w' [] := by
  unfold M.impl_IsTable at hm
  refine calls_CW (args := [(.agg #[(.int .i64 a0.Boats), v1, v3])]) Try.func50 rfl rfl rfl ?_
  have hL := Hp.start w0
  refine CW.seq ?_
  refine CW.regionL ?_
  refine OW.cons (S_box (cs := #[(.int .i64 a0.Boats), v1, v3]) hL rfl rfl rfl ?_)
  intro wd5 b6 hL
  refine OW.cons (OP.val (v := (.bool false)) rfl (x_assign) ?_)
  refine OW.nil ?_
  refine CW.seq ?_
  refine CW.seqJ (fun (s_j1 : Bool) (F : Fr) (w : World) => F 1 = (.pointer (some ⟨b6, 0, none⟩)) ∧ F 22 = (.bool s_j1) ∧ Hp w0 [Ent.blk b6 29 #[(.int .i64 a0.Boats), v1, v3], Ent.snap w0 w0.heap.size] w) (fun s_j1 => M.impl_IsTable_j1 a0 s_j1 = some r) ?_ ?_
  · refine CW.regionL ?_
    refine OW.cons (OP.val (v := (.pointer (some ⟨b6, 0, none⟩))) rfl (x_fieldAddr (fsz := 1) 0 0 0 Try.underlying29 rfl Try_T2 rfl rfl rfl) ?_)
    refine OW.cons (OP.val (v := (.int .i64 a0.Boats)) rfl (x_load1 Try.underlying2 rfl rfl (hL.cellB 0 rfl rfl)) ?_)
    obtain ⟨x231, hx232, hm⟩ := bndE hm
    refine OW.cons (OP.call rfl (x_call (vs := [(.int .i64 a0.Boats), (.int .i64 1), (.int .i64 16)]) Try_C51 ⟨rfl, rfl, rfl, trivial⟩) (M.impl_within_ok _ a0.Boats 1 16 hx232) ?_)
    rintro e233 wd234 ⟨rfl, hF235⟩
    refine ⟨_, rfl, ?_⟩
    have hL := hL.pushAll hF235
    simp only [List.cons_append, List.nil_append, List.set_cons_zero, List.set_cons_succ] at hL
    refine OW.cons (OP.val (v := (.bool (!x231))) rfl (x_not rfl) ?_)
    refine OW.cons (OP.val (v := (.bool (!x231))) rfl (x_move) ?_)
    refine ifB_elim hm (fun hb236 hm => ?_) (fun hb236 hm => ?_)
    · refine OW.cons (OP.no' rfl rfl hb236 rfl ?_)
      refine OW.cons (OP.no' rfl rfl hb236 rfl ?_)
      refine OW.cons (OP.no' rfl rfl hb236 rfl ?_)
      refine OW.cons (OP.no' rfl rfl hb236 rfl ?_)
      refine OW.cons (OP.val (v := (.bool true)) rfl (x_pickT' rfl hb236 rfl) ?_)
      refine OW.cons (OP.val (v := (.bool true)) rfl (x_move) ?_)
      refine OW.cons (OP.no' rfl rfl rfl rfl ?_)
      refine OW.cons (OP.no' rfl rfl rfl rfl ?_)
      refine OW.cons (OP.no' rfl rfl rfl rfl ?_)
      refine OW.cons (OP.no' rfl rfl rfl rfl ?_)
      refine OW.cons (OP.no' rfl rfl rfl rfl ?_)
      refine OW.cons (OP.no' rfl rfl rfl rfl ?_)
      refine OW.cons (OP.no' rfl rfl rfl rfl ?_)
      refine OW.cons (OP.val (v := (.bool true)) rfl (x_pickT' rfl rfl rfl) ?_)
      refine OW.nil ?_
      exact ⟨true, hm, ⟨rfl, rfl, hL⟩⟩
    · refine OW.cons (OP.yes' rfl rfl hb236 (OP.val (v := (.pointer (some ⟨b6, 1, none⟩))) rfl (x_fieldAddr (fsz := 1) 0 1 1 Try.underlying29 rfl Try_T22 rfl rfl rfl) ?_))
      refine OW.cons (OP.yes' rfl rfl hb236 (OP.val (v := v1) rfl (x_load1 Try.underlying22 rfl rfl (hL.cellB 0 rfl rfl)) ?_))
      refine OW.cons (OP.yes' rfl rfl hb236 (OP.val (v := (.int .i64 (a0.Points.length : Int))) rfl (x_lenR Try.underlying22 rfl (hL.rdS 1 rfl h2)) ?_))
      refine OW.cons (OP.yes' rfl rfl hb236 (OP.val (v := (.bool (decide (12 < (a0.Points.length : Int))))) rfl (x_gtr rfl rfl) ?_))
      refine OW.cons (OP.val (v := (.bool (decide (12 < (a0.Points.length : Int))))) rfl (x_pickF' rfl hb236 rfl) ?_)
      refine OW.cons (OP.val (v := (.bool (decide (12 < (a0.Points.length : Int))))) rfl (x_move) ?_)
      refine ifB_elim hm (fun hb237 hm => ?_) (fun hb237 hm => ?_)
      · refine OW.cons (OP.no' rfl rfl hb237 rfl ?_)
        refine OW.cons (OP.no' rfl rfl hb237 rfl ?_)
        refine OW.cons (OP.no' rfl rfl hb237 rfl ?_)
        refine OW.cons (OP.no' rfl rfl hb237 rfl ?_)
        refine OW.cons (OP.no' rfl rfl hb237 rfl ?_)
        refine OW.cons (OP.no' rfl rfl hb237 rfl ?_)
        refine OW.cons (OP.no' rfl rfl hb237 rfl ?_)
        refine OW.cons (OP.val (v := (.bool true)) rfl (x_pickT' rfl hb237 rfl) ?_)
        refine OW.nil ?_
        exact ⟨true, hm, ⟨rfl, rfl, hL⟩⟩
      · refine OW.cons (OP.yes' rfl rfl hb237 (OP.val (v := (.pointer (some ⟨b6, 1, none⟩))) rfl (x_fieldAddr (fsz := 1) 0 1 1 Try.underlying29 rfl Try_T22 rfl rfl rfl) ?_))
        refine OW.cons (OP.yes' rfl rfl hb237 (OP.val (v := v1) rfl (x_load1 Try.underlying22 rfl rfl (hL.cellB 0 rfl rfl)) ?_))
        refine OW.cons (OP.yes' rfl rfl hb237 (OP.val (v := (.int .i64 (a0.Points.length : Int))) rfl (x_lenR Try.underlying22 rfl (hL.rdS 1 rfl h2)) ?_))
        refine OW.cons (OP.yes' rfl rfl hb237 (OP.val (v := (.pointer (some ⟨b6, 2, none⟩))) rfl (x_fieldAddr (fsz := 1) 0 2 2 Try.underlying29 rfl Try_T22 rfl rfl rfl) ?_))
        refine OW.cons (OP.yes' rfl rfl hb237 (OP.val (v := v3) rfl (x_load1 Try.underlying22 rfl rfl (hL.cellB 0 rfl rfl)) ?_))
        refine OW.cons (OP.yes' rfl rfl hb237 (OP.val (v := (.int .i64 (a0.Codes.length : Int))) rfl (x_lenR Try.underlying22 rfl (hL.rdS 1 rfl h4)) ?_))
        refine OW.cons (OP.yes' rfl rfl hb237 (OP.val (v := (.bool ((a0.Points.length : Int) != (a0.Codes.length : Int)))) rfl (x_neq rfl rfl) ?_))
        refine OW.cons (OP.val (v := (.bool ((a0.Points.length : Int) != (a0.Codes.length : Int)))) rfl (x_pickF' rfl hb237 rfl) ?_)
        refine OW.nil ?_
        exact ⟨(a0.Points.length : Int) != (a0.Codes.length : Int), hm, ⟨rfl, rfl, hL⟩⟩
  · intro s_j1 F14 wd15 hJ hm
    unfold M.impl_IsTable_j1 at hm
    obtain ⟨f16, f17, hL⟩ := hJ
    refine CW.condM (t := s_j1) f17 hm (fun hb18 hm => ?_) (fun hb18 hm => ?_)
    · refine CW.seq ?_
      refine CW.regionL ?_
      refine OW.cons (OP.val (v := (.bool false)) rfl (x_assign) ?_)
      refine OW.nil ?_
      refine CW.ret ?_
      obtain rfl := Option.some.inj hm
      exact RR1 rfl rfl ⟨rfl, hL.fresh 1 rfl [] (by decide) (by decide) rfl⟩
    · refine CW.skip ?_
      refine CW.seq ?_
      refine CW.seq ?_
      refine CW.regionL ?_
      refine OW.cons (OP.val (v := (.pointer (some ⟨b6, 1, none⟩))) rfl (x_fieldAddr (fsz := 1) 0 1 1 Try.underlying29 rfl Try_T22 rfl f16 rfl) ?_)
      refine OW.cons (OP.val (v := v1) rfl (x_load1 Try.underlying22 rfl rfl (hL.cellB 0 rfl rfl)) ?_)
      refine OW.cons (OP.val (v := (.int .i64 (a0.Points.length : Int))) rfl (x_lenR Try.underlying22 rfl (hL.rdS 1 rfl h2)) ?_)
      refine OW.cons (OP.val (v := (.int .i64 0)) rfl (x_move) ?_)
      refine OW.nil ?_
      obtain ⟨o153, ho154, hm⟩ := bndE hm
      refine CW.loopB (fun (s_l1 : Int) (F : Fr) (w : World) => F 1 = (.pointer (some ⟨b6, 0, none⟩)) ∧ F 25 = (.int .i64 (a0.Points.length : Int)) ∧ F 26 = (.int .i64 s_l1) ∧ Hp w0 [Ent.blk b6 29 #[(.int .i64 a0.Boats), v1, v3], Ent.snap w0 w0.heap.size] w) (fun o => outc o (fun x => some x) (fun s => M.impl_IsTable_a1 s) = some r) ho154 hm ⟨f16, rfl, rfl, hL⟩ ?_ ?_
      · intro s_l1 F155 wd156 hJ hm
        have hm := outcE hm
        have hm : M.impl_IsTable_a1 s_l1 = some r := hm
        unfold M.impl_IsTable_a1 at hm
        obtain ⟨f157, f158, f159, hL⟩ := hJ
        refine CW.seq ?_
        refine CW.regionL ?_
        refine OW.cons (OP.val (v := (.bool true)) rfl (x_assign) ?_)
        refine OW.nil ?_
        refine CW.ret ?_
        obtain rfl := Option.some.inj hm
        exact RR1 rfl rfl ⟨rfl, hL.fresh 1 rfl [] (by decide) (by decide) rfl⟩
      · intro s_l1 F160 wd161 t151 hJ hm hr152
        unfold M.impl_IsTable_l1 at hm
        obtain ⟨f162, f163, f164, hL⟩ := hJ
        refine CW.seq ?_
        refine CW.regionL ?_
        refine OW.cons (OP.val (v := (.bool (decide (s_l1 < (a0.Points.length : Int))))) rfl (x_lss f164 f163) ?_)
        refine OW.nil ?_
        refine CW.seq ?_
        refine CW.condM (t := decide (s_l1 < (a0.Points.length : Int))) rfl hm (fun hb165 hm => ?_) (fun hb165 hm => ?_)
        · refine CW.skip ?_
          refine CW.seq ?_
          refine CW.block ?_
          refine CW.seq ?_
          refine CW.regionL ?_
          refine OW.cons (OP.val (v := (.int .i64 s_l1)) rfl (x_mv f164) ?_)
          refine OW.cons (OP.val (v := (.int .i64 s_l1)) rfl (x_assign) ?_)
          refine OW.nil ?_
          refine CW.seqJ (fun (s_j2 : Bool) (F : Fr) (w : World) => F 1 = (.pointer (some ⟨b6, 0, none⟩)) ∧ F 25 = (.int .i64 (a0.Points.length : Int)) ∧ F 26 = (.int .i64 s_l1) ∧ F 48 = (.bool s_j2) ∧ Hp w0 [Ent.blk b6 29 #[(.int .i64 a0.Boats), v1, v3], Ent.snap w0 w0.heap.size] w) (fun s_j2 => M.impl_IsTable_j2 s_l1 s_j2 = some t151) ?_ ?_
          · refine CW.draw Try_mixed ?_
            have hL := hL.call (Mod.drew _)
            refine DW.pre (fuel := 0) (fin := (((((((((((((((((((((Array.replicate 20 false).setIfInBounds 0 true).setIfInBounds 1 true).setIfInBounds 2 true).setIfInBounds 3 true).setIfInBounds 4 true).setIfInBounds 5 true).setIfInBounds 6 true).setIfInBounds 7 true).setIfInBounds 8 true).setIfInBounds 9 true).setIfInBounds 10 true).setIfInBounds 11 true).setIfInBounds 12 true).setIfInBounds 13 true).setIfInBounds 14 true).setIfInBounds 15 true).setIfInBounds 16 true).setIfInBounds 17 true).setIfInBounds 18 true).setIfInBounds 19 true)) (C := fun w' => Mod None_ _ w') [0, 1, 2, 3, 4, 5, 6, 7, 8, 9, 10, 11, 12, 13, 14, 15, 16, 17, 18, 19] (Mod.refl _ _) (by kernel_rfl) (by kernel_rfl) ?_
            refine QW.cons rfl (QP.val (v := (.pointer (some ⟨b6, 1, none⟩))) rfl (fun w' hm' => x_fieldAddr (fsz := 1) 0 1 1 Try.underlying29 rfl Try_T22 rfl f162 rfl) ?_)
            refine QW.cons rfl (QP.val (v := v1) rfl (fun w' hm' => x_load1 Try.underlying22 rfl rfl ((hL.call hm').cellB 0 rfl rfl)) ?_)
            refine QW.cons rfl (QP.val (v := (.int .i64 s_l1)) rfl (fun w' hm' => x_move) ?_)
            obtain ⟨x202, ha203, hm⟩ := bndE hm
            obtain ⟨hz204, ha212⟩ := idxE ha203
            obtain ⟨b205, q206, v207, hix208, hs209, hc210, hr211⟩ := rdN_at h2 hz204 ha212
            refine QW.cons rfl (QP.val (v := (.pointer (some ⟨b205, q206, none⟩))) rfl (fun w' hm' => x_ix Try.underlying22 Try_T25 rfl rfl hix208) ?_)
            refine QW.cons rfl (QP.val (v := v207) rfl (fun w' hm' => x_load1 Try.underlying25 rfl rfl ((hL.call hm').cellS 1 rfl hs209 hc210)) ?_)
            refine QW.cons rfl (QP.val (v := (.pointer (some ⟨b6, 0, none⟩))) rfl (fun w' hm' => x_fieldAddr (fsz := 1) 0 0 0 Try.underlying29 rfl Try_T2 rfl f162 rfl) ?_)
            refine QW.cons rfl (QP.val (v := (.int .i64 a0.Boats)) rfl (fun w' hm' => x_load1 Try.underlying2 rfl rfl ((hL.call hm').cellB 0 rfl rfl)) ?_)
            obtain ⟨x213, hx214, hm⟩ := bndE hm
            refine QW.cons rfl (QP.call (v := (.bool x213)) rfl (fun w' hm' => x_call (vs := [v207, (.int .i64 a0.Boats), (.int .i64 10000)]) Try_C63 ⟨rfl, rfl, rfl, trivial⟩) (fun w' hm' => (M.impl_areRow_ok w' x202 ((hL.call hm').rdS 1 rfl hr211) a0.Boats 10000 hx214).mono (fun e w'' h => ⟨h.1, hm'.trans h.2.mod⟩)) ?_)
            refine QW.cons rfl (QP.val (v := (.bool (!x213))) rfl (fun w' hm' => x_not rfl) ?_)
            refine QW.cons rfl (QP.val (v := (.bool (!x213))) rfl (fun w' hm' => x_move) ?_)
            refine ifB_elim hm (fun hb215 hm => ?_) (fun hb215 hm => ?_)
            · refine QW.cons rfl (QP.no' rfl rfl hb215 rfl ?_)
              refine QW.cons rfl (QP.no' rfl rfl hb215 rfl ?_)
              refine QW.cons rfl (QP.no' rfl rfl hb215 rfl ?_)
              refine QW.cons rfl (QP.no' rfl rfl hb215 rfl ?_)
              refine QW.cons rfl (QP.no' rfl rfl hb215 rfl ?_)
              refine QW.cons rfl (QP.no' rfl rfl hb215 rfl ?_)
              refine QW.cons rfl (QP.no' rfl rfl hb215 rfl ?_)
              refine QW.cons rfl (QP.no' rfl rfl hb215 rfl ?_)
              refine QW.cons rfl (QP.no' rfl rfl hb215 rfl ?_)
              refine QW.cons rfl (QP.val (v := (.bool true)) rfl (fun w' hm' => x_pickT' rfl hb215 rfl) ?_)
              refine QW.nil ?_
              intro wd216 hmod
              have hL := hL.call hmod
              refine DW.done (by kernel_rfl) ?_
              exact ⟨true, hm, ⟨f162, f163, f164, rfl, hL⟩⟩
            · refine QW.cons rfl (QP.yes' rfl rfl hb215 (QP.val (v := (.pointer (some ⟨b6, 2, none⟩))) rfl (fun w' hm' => x_fieldAddr (fsz := 1) 0 2 2 Try.underlying29 rfl Try_T22 rfl f162 rfl) ?_))
              refine QW.cons rfl (QP.yes' rfl rfl hb215 (QP.val (v := v3) rfl (fun w' hm' => x_load1 Try.underlying22 rfl rfl ((hL.call hm').cellB 0 rfl rfl)) ?_))
              refine QW.cons rfl (QP.yes' rfl rfl hb215 (QP.val (v := (.int .i64 s_l1)) rfl (fun w' hm' => x_move) ?_))
              obtain ⟨x217, ha218, hm⟩ := bndE hm
              obtain ⟨hz219, ha227⟩ := idxE ha218
              obtain ⟨b220, q221, v222, hix223, hs224, hc225, hr226⟩ := rdN_at h4 hz219 ha227
              refine QW.cons rfl (QP.yes' rfl rfl hb215 (QP.val (v := (.pointer (some ⟨b220, q221, none⟩))) rfl (fun w' hm' => x_ix Try.underlying22 Try_T25 rfl rfl hix223) ?_))
              refine QW.cons rfl (QP.yes' rfl rfl hb215 (QP.val (v := v222) rfl (fun w' hm' => x_load1 Try.underlying25 rfl rfl ((hL.call hm').cellS 1 rfl hs224 hc225)) ?_))
              refine QW.cons rfl (QP.yes' rfl rfl hb215 (QP.val (v := (.pointer (some ⟨b6, 0, none⟩))) rfl (fun w' hm' => x_fieldAddr (fsz := 1) 0 0 0 Try.underlying29 rfl Try_T2 rfl f162 rfl) ?_))
              refine QW.cons rfl (QP.yes' rfl rfl hb215 (QP.val (v := (.int .i64 a0.Boats)) rfl (fun w' hm' => x_load1 Try.underlying2 rfl rfl ((hL.call hm').cellB 0 rfl rfl)) ?_))
              obtain ⟨x228, hx229, hm⟩ := bndE hm
              refine QW.cons rfl (QP.yes' rfl rfl hb215 (QP.call (v := (.bool x228)) rfl (fun w' hm' => x_call (vs := [v222, (.int .i64 a0.Boats), (.int .i64 9)]) Try_C63 ⟨rfl, rfl, rfl, trivial⟩) (fun w' hm' => (M.impl_areRow_ok w' x217 ((hL.call hm').rdS 1 rfl hr226) a0.Boats 9 hx229).mono (fun e w'' h => ⟨h.1, hm'.trans h.2.mod⟩)) ?_))
              refine QW.cons rfl (QP.yes' rfl rfl hb215 (QP.val (v := (.bool (!x228))) rfl (fun w' hm' => x_not rfl) ?_))
              refine QW.cons rfl (QP.val (v := (.bool (!x228))) rfl (fun w' hm' => x_pickF' rfl hb215 rfl) ?_)
              refine QW.nil ?_
              intro wd230 hmod
              have hL := hL.call hmod
              refine DW.done (by kernel_rfl) ?_
              exact ⟨!x228, hm, ⟨f162, f163, f164, rfl, hL⟩⟩
          · intro s_j2 F195 wd196 hJ hm
            unfold M.impl_IsTable_j2 at hm
            obtain ⟨f197, f198, f199, f200, hL⟩ := hJ
            refine CW.condM (t := s_j2) f200 hm (fun hb201 hm => ?_) (fun hb201 hm => ?_)
            · refine CW.seq ?_
              refine CW.regionL ?_
              refine OW.cons (OP.val (v := (.bool false)) rfl (x_assign) ?_)
              refine OW.nil ?_
              refine CW.ret ?_
              obtain rfl := Option.some.inj hm
              have hm := hr152 _ rfl
              obtain rfl := Option.some.inj hm
              exact RR1 rfl rfl ⟨rfl, hL.fresh 1 rfl [] (by decide) (by decide) rfl⟩
            · refine CW.skip ?_
              refine CW.regionL ?_
              refine OW.cons (OP.val (v := (.int .i64 (w64 (s_l1 + 1)))) rfl (x_add f199 rfl) ?_)
              refine OW.cons (OP.val (v := (.int .i64 (w64 (s_l1 + 1)))) rfl (x_move) ?_)
              refine OW.nil ?_
              obtain rfl := Option.some.inj hm
              exact ⟨_, rfl, ⟨f197, f198, rfl, hL⟩⟩
        · refine CW.exit ?_
          refine XJ.hit ?_
          obtain rfl := Option.some.inj hm
          exact ⟨_, rfl, ⟨f162, f163, f164, hL⟩⟩

theorem M.laws_eqInt64S_ok (w0 : World) (a0 : List Int) {v1 : Value} (h2 : rdL (· < w0.heap.size) w0 v1 a0) (a1 : List Int) {v3 : Value} (h4 : rdL (· < w0.heap.size) w0 v3 a1) {r : Bool} (hm : M.laws_eqInt64S a0 a1 = some r) :
    Calls Try.prog 15 #[v1, v3] w0 fun e w' => e = .returned (.bool r) ∧ Fresh w0 w' [] := by
  unfold M.laws_eqInt64S at hm
  refine calls_CW (args := [v1, v3]) Try.func15 rfl rfl rfl ?_
  have hL := Hp.start w0
  refine CW.seq ?_
  refine CW.regionL ?_
  refine OW.cons (OP.val (v := (.bool false)) rfl (x_assign) ?_)
  refine OW.nil ?_
  refine CW.seq ?_
  refine CW.seq ?_
  refine CW.regionL ?_
  refine OW.cons (OP.val (v := v1) rfl (x_move) ?_)
  refine OW.cons (OP.val (v := (.int .i64 (a0.length : Int))) rfl (x_lenR Try.underlying25 rfl (hL.rdS 0 rfl h2)) ?_)
  refine OW.cons (OP.val (v := v3) rfl (x_move) ?_)
  refine OW.cons (OP.val (v := (.int .i64 (a1.length : Int))) rfl (x_lenR Try.underlying25 rfl (hL.rdS 0 rfl h4)) ?_)
  refine OW.cons (OP.val (v := (.bool ((a0.length : Int) != (a1.length : Int)))) rfl (x_neq rfl rfl) ?_)
  refine OW.nil ?_
  refine CW.condM (t := (a0.length : Int) != (a1.length : Int)) rfl hm (fun hb5 hm => ?_) (fun hb5 hm => ?_)
  · refine CW.seq ?_
    refine CW.regionL ?_
    refine OW.cons (OP.val (v := (.bool false)) rfl (x_assign) ?_)
    refine OW.nil ?_
    refine CW.ret ?_
    obtain rfl := Option.some.inj hm
    exact RR1 rfl rfl ⟨rfl, hL.fresh 0 rfl [] (by decide) (by decide) rfl⟩
  · refine CW.skip ?_
    refine CW.seq ?_
    refine CW.seq ?_
    refine CW.regionL ?_
    refine OW.cons (OP.val (v := (.int .i64 0)) rfl (x_assign) ?_)
    refine OW.nil ?_
    obtain ⟨o42, ho43, hm⟩ := bndE hm
    refine CW.loopB (fun (s_l1 : Int) (F : Fr) (w : World) => F 0 = v1 ∧ F 1 = v3 ∧ F 5 = (.int .i64 s_l1) ∧ Hp w0 [Ent.snap w0 w0.heap.size] w) (fun o => outc o (fun x => some x) (fun s => M.laws_eqInt64S_a1 s) = some r) ho43 hm ⟨rfl, rfl, rfl, hL⟩ ?_ ?_
    · intro s_l1 F44 wd45 hJ hm
      have hm := outcE hm
      have hm : M.laws_eqInt64S_a1 s_l1 = some r := hm
      unfold M.laws_eqInt64S_a1 at hm
      obtain ⟨f46, f47, f48, hL⟩ := hJ
      refine CW.seq ?_
      refine CW.regionL ?_
      refine OW.cons (OP.val (v := (.bool true)) rfl (x_assign) ?_)
      refine OW.nil ?_
      refine CW.ret ?_
      obtain rfl := Option.some.inj hm
      exact RR1 rfl rfl ⟨rfl, hL.fresh 0 rfl [] (by decide) (by decide) rfl⟩
    · intro s_l1 F49 wd50 t40 hJ hm hr41
      unfold M.laws_eqInt64S_l1 at hm
      obtain ⟨f51, f52, f53, hL⟩ := hJ
      refine CW.seq ?_
      refine CW.seq ?_
      refine CW.regionL ?_
      refine OW.cons (OP.val (v := (.int .i64 s_l1)) rfl (x_mv f53) ?_)
      refine OW.cons (OP.val (v := v1) rfl (x_mv f51) ?_)
      refine OW.cons (OP.val (v := (.int .i64 (a0.length : Int))) rfl (x_lenR Try.underlying25 rfl (hL.rdS 0 rfl h2)) ?_)
      refine OW.cons (OP.val (v := (.bool (decide (s_l1 < (a0.length : Int))))) rfl (x_lss rfl rfl) ?_)
      refine OW.nil ?_
      refine CW.condM (t := decide (s_l1 < (a0.length : Int))) rfl hm (fun hb54 hm => ?_) (fun hb54 hm => ?_)
      · refine CW.skip ?_
        refine CW.seq ?_
        refine CW.block ?_
        refine CW.seq ?_
        refine CW.draw Try_mixed ?_
        have hL := hL.call (Mod.drew _)
        refine DW.pre (fuel := 0) (fin := ((((((((((Array.replicate 9 false).setIfInBounds 0 true).setIfInBounds 1 true).setIfInBounds 2 true).setIfInBounds 3 true).setIfInBounds 4 true).setIfInBounds 5 true).setIfInBounds 6 true).setIfInBounds 7 true).setIfInBounds 8 true)) (C := fun w' => Mod None_ _ w') [0, 1, 2, 3, 4, 5, 6, 7, 8] (Mod.refl _ _) (by kernel_rfl) (by kernel_rfl) ?_
        refine QW.cons rfl (QP.val (v := v1) rfl (fun w' hm' => x_mv f51) ?_)
        refine QW.cons rfl (QP.val (v := (.int .i64 s_l1)) rfl (fun w' hm' => x_mv f53) ?_)
        obtain ⟨x55, ha56, hm⟩ := bndE hm
        obtain ⟨hz57, ha61⟩ := idxE ha56
        obtain ⟨b58, q59, hix60⟩ := rdL_ix (hL.rdS 0 rfl h2) hz57 ha61
        refine QW.cons rfl (QP.val (v := (.pointer (some ⟨b58, q59, none⟩))) rfl (fun w' hm' => x_ix Try.underlying25 Try_T2 rfl rfl hix60) ?_)
        refine QW.cons rfl (QP.val (v := (.int .i64 x55)) rfl (fun w' hm' => x_load1 Try.underlying2 rfl rfl (rdF_cells ((hL.call hm').rdS 0 rfl h2) hix60 ha61 0 _ rfl)) ?_)
        refine QW.cons rfl (QP.val (v := v3) rfl (fun w' hm' => x_mv f52) ?_)
        refine QW.cons rfl (QP.val (v := (.int .i64 s_l1)) rfl (fun w' hm' => x_mv f53) ?_)
        obtain ⟨x62, ha63, hm⟩ := bndE hm
        obtain ⟨hz64, ha68⟩ := idxE ha63
        obtain ⟨b65, q66, hix67⟩ := rdL_ix (hL.rdS 0 rfl h4) hz64 ha68
        refine QW.cons rfl (QP.val (v := (.pointer (some ⟨b65, q66, none⟩))) rfl (fun w' hm' => x_ix Try.underlying25 Try_T2 rfl rfl hix67) ?_)
        refine QW.cons rfl (QP.val (v := (.int .i64 x62)) rfl (fun w' hm' => x_load1 Try.underlying2 rfl rfl (rdF_cells ((hL.call hm').rdS 0 rfl h4) hix67 ha68 0 _ rfl)) ?_)
        refine QW.cons rfl (QP.val (v := (.bool (x55 != x62))) rfl (fun w' hm' => x_neq rfl rfl) ?_)
        refine QW.nil ?_
        intro wd69 hmod
        have hL := hL.call hmod
        refine DW.done (by kernel_rfl) ?_
        refine CW.condM (t := x55 != x62) rfl hm (fun hb70 hm => ?_) (fun hb70 hm => ?_)
        · refine CW.seq ?_
          refine CW.regionL ?_
          refine OW.cons (OP.val (v := (.bool false)) rfl (x_assign) ?_)
          refine OW.nil ?_
          refine CW.ret ?_
          obtain rfl := Option.some.inj hm
          have hm := hr41 _ rfl
          obtain rfl := Option.some.inj hm
          exact RR1 rfl rfl ⟨rfl, hL.fresh 0 rfl [] (by decide) (by decide) rfl⟩
        · refine CW.skip ?_
          refine CW.regionL ?_
          refine OW.cons (OP.val (v := (.int .i64 s_l1)) rfl (x_mv f53) ?_)
          refine OW.cons (OP.val (v := (.int .i64 (w64 (s_l1 + 1)))) rfl (x_add rfl rfl) ?_)
          refine OW.cons (OP.val (v := (.int .i64 (w64 (s_l1 + 1)))) rfl (x_assign) ?_)
          refine OW.nil ?_
          obtain rfl := Option.some.inj hm
          exact ⟨_, rfl, ⟨f51, f52, rfl, hL⟩⟩
      · refine CW.exit ?_
        refine XJ.hit ?_
        obtain rfl := Option.some.inj hm
        exact ⟨_, rfl, ⟨f51, f52, f53, hL⟩⟩

theorem M.laws_eqInt64SS_ok (w0 : World) (a0 : List (List Int)) {v1 : Value} (h2 : rdL (· < w0.heap.size) w0 v1 a0) (a1 : List (List Int)) {v3 : Value} (h4 : rdL (· < w0.heap.size) w0 v3 a1) {r : Bool} (hm : M.laws_eqInt64SS a0 a1 = some r) :
    Calls Try.prog 38 #[v1, v3] w0 fun e w' => e = .returned (.bool r) ∧ Fresh w0 w' [] := by
  unfold M.laws_eqInt64SS at hm
  refine calls_CW (args := [v1, v3]) Try.func38 rfl rfl rfl ?_
  have hL := Hp.start w0
  refine CW.seq ?_
  refine CW.regionL ?_
  refine OW.cons (OP.val (v := (.bool false)) rfl (x_assign) ?_)
  refine OW.nil ?_
  refine CW.seq ?_
  refine CW.seq ?_
  refine CW.regionL ?_
  refine OW.cons (OP.val (v := v1) rfl (x_move) ?_)
  refine OW.cons (OP.val (v := (.int .i64 (a0.length : Int))) rfl (x_lenR Try.underlying22 rfl (hL.rdS 0 rfl h2)) ?_)
  refine OW.cons (OP.val (v := v3) rfl (x_move) ?_)
  refine OW.cons (OP.val (v := (.int .i64 (a1.length : Int))) rfl (x_lenR Try.underlying22 rfl (hL.rdS 0 rfl h4)) ?_)
  refine OW.cons (OP.val (v := (.bool ((a0.length : Int) != (a1.length : Int)))) rfl (x_neq rfl rfl) ?_)
  refine OW.nil ?_
  refine CW.condM (t := (a0.length : Int) != (a1.length : Int)) rfl hm (fun hb5 hm => ?_) (fun hb5 hm => ?_)
  · refine CW.seq ?_
    refine CW.regionL ?_
    refine OW.cons (OP.val (v := (.bool false)) rfl (x_assign) ?_)
    refine OW.nil ?_
    refine CW.ret ?_
    obtain rfl := Option.some.inj hm
    exact RR1 rfl rfl ⟨rfl, hL.fresh 0 rfl [] (by decide) (by decide) rfl⟩
  · refine CW.skip ?_
    refine CW.seq ?_
    refine CW.seq ?_
    refine CW.regionL ?_
    refine OW.cons (OP.val (v := (.int .i64 0)) rfl (x_assign) ?_)
    refine OW.nil ?_
    obtain ⟨o62, ho63, hm⟩ := bndE hm
    refine CW.loopB (fun (s_l1 : Int) (F : Fr) (w : World) => F 0 = v1 ∧ F 1 = v3 ∧ F 5 = (.int .i64 s_l1) ∧ Hp w0 [Ent.snap w0 w0.heap.size] w) (fun o => outc o (fun x => some x) (fun s => M.laws_eqInt64SS_a1 s) = some r) ho63 hm ⟨rfl, rfl, rfl, hL⟩ ?_ ?_
    · intro s_l1 F64 wd65 hJ hm
      have hm := outcE hm
      have hm : M.laws_eqInt64SS_a1 s_l1 = some r := hm
      unfold M.laws_eqInt64SS_a1 at hm
      obtain ⟨f66, f67, f68, hL⟩ := hJ
      refine CW.seq ?_
      refine CW.regionL ?_
      refine OW.cons (OP.val (v := (.bool true)) rfl (x_assign) ?_)
      refine OW.nil ?_
      refine CW.ret ?_
      obtain rfl := Option.some.inj hm
      exact RR1 rfl rfl ⟨rfl, hL.fresh 0 rfl [] (by decide) (by decide) rfl⟩
    · intro s_l1 F69 wd70 t60 hJ hm hr61
      unfold M.laws_eqInt64SS_l1 at hm
      obtain ⟨f71, f72, f73, hL⟩ := hJ
      refine CW.seq ?_
      refine CW.seq ?_
      refine CW.regionL ?_
      refine OW.cons (OP.val (v := (.int .i64 s_l1)) rfl (x_mv f73) ?_)
      refine OW.cons (OP.val (v := v1) rfl (x_mv f71) ?_)
      refine OW.cons (OP.val (v := (.int .i64 (a0.length : Int))) rfl (x_lenR Try.underlying22 rfl (hL.rdS 0 rfl h2)) ?_)
      refine OW.cons (OP.val (v := (.bool (decide (s_l1 < (a0.length : Int))))) rfl (x_lss rfl rfl) ?_)
      refine OW.nil ?_
      refine CW.condM (t := decide (s_l1 < (a0.length : Int))) rfl hm (fun hb74 hm => ?_) (fun hb74 hm => ?_)
      · refine CW.skip ?_
        refine CW.seq ?_
        refine CW.block ?_
        refine CW.seq ?_
        refine CW.draw Try_mixed ?_
        have hL := hL.call (Mod.drew _)
        refine DW.pre (fuel := 0) (fin := (((((((((((Array.replicate 10 false).setIfInBounds 0 true).setIfInBounds 1 true).setIfInBounds 2 true).setIfInBounds 3 true).setIfInBounds 4 true).setIfInBounds 5 true).setIfInBounds 6 true).setIfInBounds 7 true).setIfInBounds 8 true).setIfInBounds 9 true)) (C := fun w' => Mod None_ _ w') [0, 1, 2, 3, 4, 5, 6, 7, 8, 9] (Mod.refl _ _) (by kernel_rfl) (by kernel_rfl) ?_
        refine QW.cons rfl (QP.val (v := v1) rfl (fun w' hm' => x_mv f71) ?_)
        refine QW.cons rfl (QP.val (v := (.int .i64 s_l1)) rfl (fun w' hm' => x_mv f73) ?_)
        obtain ⟨x75, ha76, hm⟩ := bndE hm
        obtain ⟨hz77, ha85⟩ := idxE ha76
        obtain ⟨b78, q79, v80, hix81, hs82, hc83, hr84⟩ := rdN_at h2 hz77 ha85
        refine QW.cons rfl (QP.val (v := (.pointer (some ⟨b78, q79, none⟩))) rfl (fun w' hm' => x_ix Try.underlying22 Try_T25 rfl rfl hix81) ?_)
        refine QW.cons rfl (QP.val (v := v80) rfl (fun w' hm' => x_load1 Try.underlying25 rfl rfl ((hL.call hm').cellS 0 rfl hs82 hc83)) ?_)
        refine QW.cons rfl (QP.val (v := v3) rfl (fun w' hm' => x_mv f72) ?_)
        refine QW.cons rfl (QP.val (v := (.int .i64 s_l1)) rfl (fun w' hm' => x_mv f73) ?_)
        obtain ⟨x86, ha87, hm⟩ := bndE hm
        obtain ⟨hz88, ha96⟩ := idxE ha87
        obtain ⟨b89, q90, v91, hix92, hs93, hc94, hr95⟩ := rdN_at h4 hz88 ha96
        refine QW.cons rfl (QP.val (v := (.pointer (some ⟨b89, q90, none⟩))) rfl (fun w' hm' => x_ix Try.underlying22 Try_T25 rfl rfl hix92) ?_)
        refine QW.cons rfl (QP.val (v := v91) rfl (fun w' hm' => x_load1 Try.underlying25 rfl rfl ((hL.call hm').cellS 0 rfl hs93 hc94)) ?_)
        obtain ⟨x97, hx98, hm⟩ := bndE hm
        refine QW.cons rfl (QP.call (v := (.bool x97)) rfl (fun w' hm' => x_call (vs := [v80, v91]) Try_C15 ⟨rfl, rfl, trivial⟩) (fun w' hm' => (M.laws_eqInt64S_ok w' x75 ((hL.call hm').rdS 0 rfl hr84) x86 ((hL.call hm').rdS 0 rfl hr95) hx98).mono (fun e w'' h => ⟨h.1, hm'.trans h.2.mod⟩)) ?_)
        refine QW.cons rfl (QP.val (v := (.bool (!x97))) rfl (fun w' hm' => x_not rfl) ?_)
        refine QW.nil ?_
        intro wd99 hmod
        have hL := hL.call hmod
        refine DW.done (by kernel_rfl) ?_
        refine CW.condM (t := !x97) rfl hm (fun hb100 hm => ?_) (fun hb100 hm => ?_)
        · refine CW.seq ?_
          refine CW.regionL ?_
          refine OW.cons (OP.val (v := (.bool false)) rfl (x_assign) ?_)
          refine OW.nil ?_
          refine CW.ret ?_
          obtain rfl := Option.some.inj hm
          have hm := hr61 _ rfl
          obtain rfl := Option.some.inj hm
          exact RR1 rfl rfl ⟨rfl, hL.fresh 0 rfl [] (by decide) (by decide) rfl⟩
        · refine CW.skip ?_
          refine CW.regionL ?_
          refine OW.cons (OP.val (v := (.int .i64 s_l1)) rfl (x_mv f73) ?_)
          refine OW.cons (OP.val (v := (.int .i64 (w64 (s_l1 + 1)))) rfl (x_add rfl rfl) ?_)
          refine OW.cons (OP.val (v := (.int .i64 (w64 (s_l1 + 1)))) rfl (x_assign) ?_)
          refine OW.nil ?_
          obtain rfl := Option.some.inj hm
          exact ⟨_, rfl, ⟨f71, f72, rfl, hL⟩⟩
      · refine CW.exit ?_
        refine XJ.hit ?_
        obtain rfl := Option.some.inj hm
        exact ⟨_, rfl, ⟨f71, f72, f73, hL⟩⟩

theorem M.laws_eqTable_ok (w0 : World) (a0 : Table) {v1 : Value} {v3 : Value} (h2 : rdL (· < w0.heap.size) w0 v1 a0.Points) (h4 : rdL (· < w0.heap.size) w0 v3 a0.Codes) (a1 : Table) {v5 : Value} {v7 : Value} (h6 : rdL (· < w0.heap.size) w0 v5 a1.Points) (h8 : rdL (· < w0.heap.size) w0 v7 a1.Codes) {r : Bool} (hm : M.laws_eqTable a0 a1 = some r) :
    Calls Try.prog 16 #[(.agg #[(.int .i64 a0.Boats), v1, v3]), (.agg #[(.int .i64 a1.Boats), v5, v7])] w0 fun e w' => e = .returned (.bool r) ∧ Fresh w0 w' [] := by
  unfold M.laws_eqTable at hm
  refine calls_CW (args := [(.agg #[(.int .i64 a0.Boats), v1, v3]), (.agg #[(.int .i64 a1.Boats), v5, v7])]) Try.func16 rfl rfl rfl ?_
  have hL := Hp.start w0
  refine CW.seq ?_
  refine CW.regionL ?_
  refine OW.cons (S_box (cs := #[(.int .i64 a0.Boats), v1, v3]) hL rfl rfl rfl ?_)
  intro wd9 b10 hL
  refine OW.cons (S_box (cs := #[(.int .i64 a1.Boats), v5, v7]) hL rfl rfl rfl ?_)
  intro wd11 b12 hL
  refine OW.cons (OP.val (v := (.bool false)) rfl (x_assign) ?_)
  refine OW.nil ?_
  refine CW.seq ?_
  refine CW.seq ?_
  refine CW.regionL ?_
  refine OW.cons (OP.val (v := (.pointer (some ⟨b10, 0, none⟩))) rfl (x_fieldAddr (fsz := 1) 0 0 0 Try.underlying29 rfl Try_T2 rfl rfl rfl) ?_)
  refine OW.cons (OP.val (v := (.int .i64 a0.Boats)) rfl (x_load1 Try.underlying2 rfl rfl (hL.cellB 1 rfl rfl)) ?_)
  refine OW.cons (OP.val (v := (.pointer (some ⟨b12, 0, none⟩))) rfl (x_fieldAddr (fsz := 1) 0 0 0 Try.underlying29 rfl Try_T2 rfl rfl rfl) ?_)
  refine OW.cons (OP.val (v := (.int .i64 a1.Boats)) rfl (x_load1 Try.underlying2 rfl rfl (hL.cellB 0 rfl rfl)) ?_)
  refine OW.cons (OP.val (v := (.bool (a0.Boats != a1.Boats))) rfl (x_neq rfl rfl) ?_)
  refine OW.nil ?_
  refine CW.condM (t := a0.Boats != a1.Boats) rfl hm (fun hb13 hm => ?_) (fun hb13 hm => ?_)
  · refine CW.seq ?_
    refine CW.regionL ?_
    refine OW.cons (OP.val (v := (.bool false)) rfl (x_assign) ?_)
    refine OW.nil ?_
    refine CW.ret ?_
    obtain rfl := Option.some.inj hm
    exact RR1 rfl rfl ⟨rfl, hL.fresh 2 rfl [] (by decide) (by decide) rfl⟩
  · refine CW.skip ?_
    refine CW.seq ?_
    refine CW.seq ?_
    refine CW.regionL ?_
    refine OW.cons (OP.val (v := (.pointer (some ⟨b10, 1, none⟩))) rfl (x_fieldAddr (fsz := 1) 0 1 1 Try.underlying29 rfl Try_T22 rfl rfl rfl) ?_)
    refine OW.cons (OP.val (v := v1) rfl (x_load1 Try.underlying22 rfl rfl (hL.cellB 1 rfl rfl)) ?_)
    refine OW.cons (OP.val (v := (.pointer (some ⟨b12, 1, none⟩))) rfl (x_fieldAddr (fsz := 1) 0 1 1 Try.underlying29 rfl Try_T22 rfl rfl rfl) ?_)
    refine OW.cons (OP.val (v := v5) rfl (x_load1 Try.underlying22 rfl rfl (hL.cellB 0 rfl rfl)) ?_)
    obtain ⟨x14, hx15, hm⟩ := bndE hm
    refine OW.cons (OP.call rfl (x_call (vs := [v1, v5]) Try_C38 ⟨rfl, rfl, trivial⟩) (M.laws_eqInt64SS_ok _ a0.Points (hL.rdS 2 rfl h2) a1.Points (hL.rdS 2 rfl h6) hx15) ?_)
    rintro e16 wd17 ⟨rfl, hF18⟩
    refine ⟨_, rfl, ?_⟩
    have hL := hL.pushAll hF18
    simp only [List.cons_append, List.nil_append, List.set_cons_zero, List.set_cons_succ] at hL
    refine OW.cons (OP.val (v := (.bool (!x14))) rfl (x_not rfl) ?_)
    refine OW.nil ?_
    refine CW.condM (t := !x14) rfl hm (fun hb19 hm => ?_) (fun hb19 hm => ?_)
    · refine CW.seq ?_
      refine CW.regionL ?_
      refine OW.cons (OP.val (v := (.bool false)) rfl (x_assign) ?_)
      refine OW.nil ?_
      refine CW.ret ?_
      obtain rfl := Option.some.inj hm
      exact RR1 rfl rfl ⟨rfl, hL.fresh 2 rfl [] (by decide) (by decide) rfl⟩
    · refine CW.skip ?_
      refine CW.seq ?_
      refine CW.seq ?_
      refine CW.regionL ?_
      refine OW.cons (OP.val (v := (.pointer (some ⟨b10, 2, none⟩))) rfl (x_fieldAddr (fsz := 1) 0 2 2 Try.underlying29 rfl Try_T22 rfl rfl rfl) ?_)
      refine OW.cons (OP.val (v := v3) rfl (x_load1 Try.underlying22 rfl rfl (hL.cellB 1 rfl rfl)) ?_)
      refine OW.cons (OP.val (v := (.pointer (some ⟨b12, 2, none⟩))) rfl (x_fieldAddr (fsz := 1) 0 2 2 Try.underlying29 rfl Try_T22 rfl rfl rfl) ?_)
      refine OW.cons (OP.val (v := v7) rfl (x_load1 Try.underlying22 rfl rfl (hL.cellB 0 rfl rfl)) ?_)
      obtain ⟨x20, hx21, hm⟩ := bndE hm
      refine OW.cons (OP.call rfl (x_call (vs := [v3, v7]) Try_C38 ⟨rfl, rfl, trivial⟩) (M.laws_eqInt64SS_ok _ a0.Codes (hL.rdS 2 rfl h4) a1.Codes (hL.rdS 2 rfl h8) hx21) ?_)
      rintro e22 wd23 ⟨rfl, hF24⟩
      refine ⟨_, rfl, ?_⟩
      have hL := hL.pushAll hF24
      simp only [List.cons_append, List.nil_append, List.set_cons_zero, List.set_cons_succ] at hL
      refine OW.cons (OP.val (v := (.bool (!x20))) rfl (x_not rfl) ?_)
      refine OW.nil ?_
      refine CW.condM (t := !x20) rfl hm (fun hb25 hm => ?_) (fun hb25 hm => ?_)
      · refine CW.seq ?_
        refine CW.regionL ?_
        refine OW.cons (OP.val (v := (.bool false)) rfl (x_assign) ?_)
        refine OW.nil ?_
        refine CW.ret ?_
        obtain rfl := Option.some.inj hm
        exact RR1 rfl rfl ⟨rfl, hL.fresh 2 rfl [] (by decide) (by decide) rfl⟩
      · refine CW.skip ?_
        refine CW.seq ?_
        refine CW.regionL ?_
        refine OW.cons (OP.val (v := (.bool true)) rfl (x_assign) ?_)
        refine OW.nil ?_
        refine CW.ret ?_
        obtain rfl := Option.some.inj hm
        exact RR1 rfl rfl ⟨rfl, hL.fresh 2 rfl [] (by decide) (by decide) rfl⟩

theorem M.spec_l29Average_ok (w0 : World) (a0 : Table) {v1 : Value} {v3 : Value} (h2 : rdL (· < w0.heap.size) w0 v1 a0.Points) (h4 : rdL (· < w0.heap.size) w0 v3 a0.Codes) (a1 : Int) (a2 : Int) (a3 : Int) {r : Int × Bool} (hm : M.spec_l29Average a0 a1 a2 a3 = some r) :
    Calls Try.prog 49 #[(.agg #[(.int .i64 a0.Boats), v1, v3]), (.int .i64 a1), (.int .i64 a2), (.int .i64 a3)] w0 fun e w' => e = .returned (.tuple #[(.int .i64 r.1), (.bool r.2)]) ∧ Fresh w0 w' [] := by
  unfold M.spec_l29Average at hm
  refine calls_CW (args := [(.agg #[(.int .i64 a0.Boats), v1, v3]), (.int .i64 a1), (.int .i64 a2), (.int .i64 a3)]) Try.func49 rfl rfl rfl ?_
  have hL := Hp.start w0
  refine CW.seq ?_
  refine CW.regionL ?_
  refine OW.cons (S_box (cs := #[(.int .i64 a0.Boats), v1, v3]) hL rfl rfl rfl ?_)
  intro wd5 b6 hL
  refine OW.cons (OP.val (v := (.int .i64 0)) rfl (x_assign) ?_)
  refine OW.cons (OP.val (v := (.bool false)) rfl (x_assign) ?_)
  refine OW.nil ?_
  refine CW.seq ?_
  refine CW.regionL ?_
  refine OW.cons (OP.val (v := (.int .i64 0)) rfl (x_assign) ?_)
  refine OW.nil ?_
  refine CW.seq ?_
  refine CW.regionL ?_
  refine OW.cons (OP.val (v := (.int .i64 0)) rfl (x_assign) ?_)
  refine OW.nil ?_
  refine CW.seq ?_
  refine CW.seq ?_
  refine CW.regionL ?_
  refine OW.cons (OP.val (v := (.int .i64 0)) rfl (x_assign) ?_)
  refine OW.nil ?_
  obtain ⟨o921, ho922, hm⟩ := bndE hm
  refine CW.loopB (fun (s_l1 : Int × Int × Int) (F : Fr) (w : World) => F 1 = (.int .i64 a1) ∧ F 2 = (.int .i64 a2) ∧ F 3 = (.int .i64 a3) ∧ F 4 = (.pointer (some ⟨b6, 0, none⟩)) ∧ F 10 = (.int .i64 s_l1.1) ∧ F 11 = (.int .i64 s_l1.2.1) ∧ F 12 = (.int .i64 s_l1.2.2) ∧ Hp w0 [Ent.blk b6 29 #[(.int .i64 a0.Boats), v1, v3], Ent.snap w0 w0.heap.size] w) (fun o => outc o (fun x => some x) (fun s => M.spec_l29Average_a1 s) = some r) ho922 hm ⟨rfl, rfl, rfl, rfl, rfl, rfl, rfl, hL⟩ ?_ ?_
  · intro s_l1 F923 wd924 hJ hm
    have hm := outcE hm
    have hm : M.spec_l29Average_a1 s_l1 = some r := hm
    unfold M.spec_l29Average_a1 at hm
    obtain ⟨f925, f926, f927, f928, f929, f930, f931, hL⟩ := hJ
    refine CW.seq ?_
    refine CW.seq ?_
    refine CW.regionL ?_
    refine OW.cons (OP.val (v := (.int .i64 s_l1.2.1)) rfl (x_mv f930) ?_)
    refine OW.cons (OP.val (v := (.bool (s_l1.2.1 == 0))) rfl (x_eql rfl rfl) ?_)
    refine OW.nil ?_
    refine CW.condM (t := s_l1.2.1 == 0) rfl hm (fun hb932 hm => ?_) (fun hb932 hm => ?_)
    · refine CW.seq ?_
      refine CW.regionL ?_
      refine OW.cons (OP.val (v := (.int .i64 0)) rfl (x_assign) ?_)
      refine OW.cons (OP.val (v := (.bool false)) rfl (x_assign) ?_)
      refine OW.nil ?_
      refine CW.ret ?_
      obtain rfl := Option.some.inj hm
      exact RR2 rfl rfl rfl ⟨rfl, hL.fresh 1 rfl [] (by decide) (by decide) rfl⟩
    · refine CW.skip ?_
      refine CW.seq ?_
      refine CW.regionL ?_
      refine OW.cons (OP.val (v := (.int .i64 s_l1.1)) rfl (x_mv f929) ?_)
      refine OW.cons (OP.val (v := (.int .i64 (w64 (2 * s_l1.1)))) rfl (x_mul rfl rfl) ?_)
      refine OW.cons (OP.val (v := (.int .i64 s_l1.2.1)) rfl (x_mv f930) ?_)
      refine OW.cons (OP.val (v := (.int .i64 (w64 ((w64 (2 * s_l1.1)) + s_l1.2.1)))) rfl (x_add rfl rfl) ?_)
      refine OW.cons (OP.val (v := (.int .i64 s_l1.2.1)) rfl (x_mv f930) ?_)
      refine OW.cons (OP.val (v := (.int .i64 (w64 (2 * s_l1.2.1)))) rfl (x_mul rfl rfl) ?_)
      obtain ⟨hc933, hm⟩ := chkE hm
      refine OW.cons (OP.val (v := (.int .i64 (w64 ((w64 ((w64 (2 * s_l1.1)) + s_l1.2.1)).tdiv (w64 (2 * s_l1.2.1)))))) rfl (x_quo rfl rfl hc933) ?_)
      refine OW.cons (OP.val (v := (.int .i64 (w64 ((w64 ((w64 (2 * s_l1.1)) + s_l1.2.1)).tdiv (w64 (2 * s_l1.2.1)))))) rfl (x_assign) ?_)
      refine OW.cons (OP.val (v := (.bool true)) rfl (x_assign) ?_)
      refine OW.nil ?_
      refine CW.ret ?_
      obtain rfl := Option.some.inj hm
      exact RR2 rfl rfl rfl ⟨rfl, hL.fresh 1 rfl [] (by decide) (by decide) rfl⟩
  · intro s_l1 F934 wd935 t919 hJ hm hr920
    unfold M.spec_l29Average_l1 at hm
    obtain ⟨f936, f937, f938, f939, f940, f941, f942, hL⟩ := hJ
    refine CW.seq ?_
    refine CW.seq ?_
    refine CW.regionL ?_
    refine OW.cons (OP.val (v := (.int .i64 s_l1.2.2)) rfl (x_mv f942) ?_)
    refine OW.cons (OP.val (v := (.pointer (some ⟨b6, 1, none⟩))) rfl (x_fieldAddr (fsz := 1) 0 1 1 Try.underlying29 rfl Try_T22 rfl f939 rfl) ?_)
    refine OW.cons (OP.val (v := v1) rfl (x_load1 Try.underlying22 rfl rfl (hL.cellB 0 rfl rfl)) ?_)
    refine OW.cons (OP.val (v := (.int .i64 (a0.Points.length : Int))) rfl (x_lenR Try.underlying22 rfl (hL.rdS 1 rfl h2)) ?_)
    refine OW.cons (OP.val (v := (.bool (decide (s_l1.2.2 < (a0.Points.length : Int))))) rfl (x_lss rfl rfl) ?_)
    refine OW.nil ?_
    refine CW.condM (t := decide (s_l1.2.2 < (a0.Points.length : Int))) rfl hm (fun hb943 hm => ?_) (fun hb943 hm => ?_)
    · refine CW.skip ?_
      refine CW.seqJ (fun (s_j1 : Int × Int) (F : Fr) (w : World) => F 1 = (.int .i64 a1) ∧ F 2 = (.int .i64 a2) ∧ F 3 = (.int .i64 a3) ∧ F 4 = (.pointer (some ⟨b6, 0, none⟩)) ∧ F 10 = (.int .i64 s_j1.1) ∧ F 11 = (.int .i64 s_j1.2) ∧ F 12 = (.int .i64 s_l1.2.2) ∧ Hp w0 [Ent.blk b6 29 #[(.int .i64 a0.Boats), v1, v3], Ent.snap w0 w0.heap.size] w) (fun s_j1 => M.spec_l29Average_j1 s_l1 s_j1 = some t919) ?_ ?_
      · refine CW.blockJ (fun (s_j2 : Int × Int) (F : Fr) (w : World) => F 1 = (.int .i64 a1) ∧ F 2 = (.int .i64 a2) ∧ F 3 = (.int .i64 a3) ∧ F 4 = (.pointer (some ⟨b6, 0, none⟩)) ∧ F 10 = (.int .i64 s_j2.1) ∧ F 11 = (.int .i64 s_j2.2) ∧ F 12 = (.int .i64 s_l1.2.2) ∧ Hp w0 [Ent.blk b6 29 #[(.int .i64 a0.Boats), v1, v3], Ent.snap w0 w0.heap.size] w) (fun s_j2 => M.spec_l29Average_j2 s_l1 s_j2 = some t919) ?_ ?_
        · refine CW.seq ?_
          refine CW.seqJ (fun (s_j3 : Bool) (F : Fr) (w : World) => F 1 = (.int .i64 a1) ∧ F 2 = (.int .i64 a2) ∧ F 3 = (.int .i64 a3) ∧ F 4 = (.pointer (some ⟨b6, 0, none⟩)) ∧ F 10 = (.int .i64 s_l1.1) ∧ F 11 = (.int .i64 s_l1.2.1) ∧ F 12 = (.int .i64 s_l1.2.2) ∧ F 42 = (.bool s_j3) ∧ Hp w0 [Ent.blk b6 29 #[(.int .i64 a0.Boats), v1, v3], Ent.snap w0 w0.heap.size] w) (fun s_j3 => M.spec_l29Average_j3 a0 a2 s_l1 s_j3 = some t919) ?_ ?_
          · refine CW.regionL ?_
            refine OW.cons (OP.val (v := (.int .i64 s_l1.2.2)) rfl (x_mv f942) ?_)
            refine OW.cons (OP.val (v := (.int .i64 a1)) rfl (x_mv f936) ?_)
            refine OW.cons (OP.val (v := (.bool (s_l1.2.2 == a1))) rfl (x_eql rfl rfl) ?_)
            refine OW.cons (OP.val (v := (.bool (s_l1.2.2 == a1))) rfl (x_move) ?_)
            refine ifB_elim hm (fun hb1360 hm => ?_) (fun hb1360 hm => ?_)
            · refine OW.cons (OP.no' rfl rfl hb1360 rfl ?_)
              refine OW.cons (OP.no' rfl rfl hb1360 rfl ?_)
              refine OW.cons (OP.no' rfl rfl hb1360 rfl ?_)
              refine OW.cons (OP.noU rfl rfl rfl ?_)
              refine OW.cons (OP.noU rfl rfl rfl ?_)
              refine OW.cons (OP.noU rfl rfl rfl ?_)
              refine OW.cons (OP.no' rfl rfl hb1360 rfl ?_)
              refine OW.cons (OP.val (v := (.bool true)) rfl (x_pickT' rfl hb1360 rfl) ?_)
              refine OW.cons (OP.val (v := (.bool true)) rfl (x_move) ?_)
              refine OW.cons (OP.no' rfl rfl rfl rfl ?_)
              refine OW.cons (OP.no' rfl rfl rfl rfl ?_)
              refine OW.cons (OP.no' rfl rfl rfl rfl ?_)
              refine OW.cons (OP.no' rfl rfl rfl rfl ?_)
              refine OW.cons (OP.no' rfl rfl rfl rfl ?_)
              refine OW.cons (OP.no' rfl rfl rfl rfl ?_)
              refine OW.cons (OP.no' rfl rfl rfl rfl ?_)
              refine OW.cons (OP.no' rfl rfl rfl rfl ?_)
              refine OW.cons (OP.no' rfl rfl rfl rfl ?_)
              refine OW.cons (OP.val (v := (.bool true)) rfl (x_pickT' rfl rfl rfl) ?_)
              refine OW.nil ?_
              exact ⟨true, hm, ⟨f936, f937, f938, f939, f940, f941, f942, rfl, hL⟩⟩
            · refine OW.cons (OP.yes' rfl rfl hb1360 (OP.val (v := (.int .i64 a3)) rfl (x_mv f938) ?_))
              refine OW.cons (OP.yes' rfl rfl hb1360 (OP.val (v := (.bool (a3 == 2))) rfl (x_eql rfl rfl) ?_))
              refine OW.cons (OP.yes' rfl rfl hb1360 (OP.val (v := (.bool (a3 == 2))) rfl (x_move) ?_))
              refine ifB_elim hm (fun hb1361 hm => ?_) (fun hb1361 hm => ?_)
              · refine OW.cons (OP.yes' rfl rfl hb1361 (OP.val (v := (.int .i64 s_l1.2.2)) rfl (x_mv f942) ?_))
                refine OW.cons (OP.yes' rfl rfl hb1361 (OP.val (v := (.int .i64 a1)) rfl (x_mv f936) ?_))
                refine OW.cons (OP.yes' rfl rfl hb1361 (OP.val (v := (.bool (decide (a1 < s_l1.2.2)))) rfl (x_gtr rfl rfl) ?_))
                refine OW.cons (OP.yes' rfl rfl hb1360 (OP.val (v := (.bool (decide (a1 < s_l1.2.2)))) rfl (x_pickT' rfl hb1361 rfl) ?_))
                refine OW.cons (OP.val (v := (.bool (decide (a1 < s_l1.2.2)))) rfl (x_pickF' rfl hb1360 rfl) ?_)
                refine OW.cons (OP.val (v := (.bool (decide (a1 < s_l1.2.2)))) rfl (x_move) ?_)
                refine ifB_elim hm (fun hb1362 hm => ?_) (fun hb1362 hm => ?_)
                · refine OW.cons (OP.no' rfl rfl hb1362 rfl ?_)
                  refine OW.cons (OP.no' rfl rfl hb1362 rfl ?_)
                  refine OW.cons (OP.no' rfl rfl hb1362 rfl ?_)
                  refine OW.cons (OP.no' rfl rfl hb1362 rfl ?_)
                  refine OW.cons (OP.no' rfl rfl hb1362 rfl ?_)
                  refine OW.cons (OP.no' rfl rfl hb1362 rfl ?_)
                  refine OW.cons (OP.no' rfl rfl hb1362 rfl ?_)
                  refine OW.cons (OP.no' rfl rfl hb1362 rfl ?_)
                  refine OW.cons (OP.no' rfl rfl hb1362 rfl ?_)
                  refine OW.cons (OP.val (v := (.bool true)) rfl (x_pickT' rfl hb1362 rfl) ?_)
                  refine OW.nil ?_
                  exact ⟨true, hm, ⟨f936, f937, f938, f939, f940, f941, f942, rfl, hL⟩⟩
                · refine OW.cons (OP.yes' rfl rfl hb1362 (OP.val (v := (.pointer (some ⟨b6, 2, none⟩))) rfl (x_fieldAddr (fsz := 1) 0 2 2 Try.underlying29 rfl Try_T22 rfl f939 rfl) ?_))
                  refine OW.cons (OP.yes' rfl rfl hb1362 (OP.val (v := v3) rfl (x_load1 Try.underlying22 rfl rfl (hL.cellB 0 rfl rfl)) ?_))
                  refine OW.cons (OP.yes' rfl rfl hb1362 (OP.val (v := (.int .i64 s_l1.2.2)) rfl (x_mv f942) ?_))
                  obtain ⟨x1363, ha1364, hm⟩ := bndE hm
                  obtain ⟨hz1365, ha1373⟩ := idxE ha1364
                  obtain ⟨b1366, q1367, v1368, hix1369, hs1370, hc1371, hr1372⟩ := rdN_at h4 hz1365 ha1373
                  refine OW.cons (OP.yes' rfl rfl hb1362 (OP.val (v := (.pointer (some ⟨b1366, q1367, none⟩))) rfl (x_ix Try.underlying22 Try_T25 rfl rfl hix1369) ?_))
                  refine OW.cons (OP.yes' rfl rfl hb1362 (OP.val (v := v1368) rfl (x_load1 Try.underlying25 rfl rfl (hL.cellS 1 rfl hs1370 hc1371)) ?_))
                  refine OW.cons (OP.yes' rfl rfl hb1362 (OP.val (v := (.int .i64 a2)) rfl (x_mv f937) ?_))
                  obtain ⟨x1374, ha1375, hm⟩ := bndE hm
                  obtain ⟨hz1376, ha1380⟩ := idxE ha1375
                  obtain ⟨b1377, q1378, hix1379⟩ := rdL_ix (hL.rdS 1 rfl hr1372) hz1376 ha1380
                  refine OW.cons (OP.yes' rfl rfl hb1362 (OP.val (v := (.pointer (some ⟨b1377, q1378, none⟩))) rfl (x_ix Try.underlying25 Try_T2 rfl rfl hix1379) ?_))
                  refine OW.cons (OP.yes' rfl rfl hb1362 (OP.val (v := (.int .i64 x1374)) rfl (x_load1 Try.underlying2 rfl rfl (rdF_cells (hL.rdS 1 rfl hr1372) hix1379 ha1380 0 _ rfl)) ?_))
                  refine OW.cons (OP.yes' rfl rfl hb1362 (OP.val (v := (.bool (x1374 == 9))) rfl (x_eql rfl rfl) ?_))
                  refine OW.cons (OP.val (v := (.bool (x1374 == 9))) rfl (x_pickF' rfl hb1362 rfl) ?_)
                  refine OW.nil ?_
                  exact ⟨x1374 == 9, hm, ⟨f936, f937, f938, f939, f940, f941, f942, rfl, hL⟩⟩
              · refine OW.cons (OP.no' rfl rfl hb1361 rfl ?_)
                refine OW.cons (OP.no' rfl rfl hb1361 rfl ?_)
                refine OW.cons (OP.no' rfl rfl hb1361 rfl ?_)
                refine OW.cons (OP.yes' rfl rfl hb1360 (OP.val (v := (.bool false)) rfl (x_pickF' rfl hb1361 rfl) ?_))
                refine OW.cons (OP.val (v := (.bool false)) rfl (x_pickF' rfl hb1360 rfl) ?_)
                refine OW.cons (OP.val (v := (.bool false)) rfl (x_move) ?_)
                refine OW.cons (OP.yes' rfl rfl rfl (OP.val (v := (.pointer (some ⟨b6, 2, none⟩))) rfl (x_fieldAddr (fsz := 1) 0 2 2 Try.underlying29 rfl Try_T22 rfl f939 rfl) ?_))
                refine OW.cons (OP.yes' rfl rfl rfl (OP.val (v := v3) rfl (x_load1 Try.underlying22 rfl rfl (hL.cellB 0 rfl rfl)) ?_))
                refine OW.cons (OP.yes' rfl rfl rfl (OP.val (v := (.int .i64 s_l1.2.2)) rfl (x_mv f942) ?_))
                obtain ⟨x1381, ha1382, hm⟩ := bndE hm
                obtain ⟨hz1383, ha1391⟩ := idxE ha1382
                obtain ⟨b1384, q1385, v1386, hix1387, hs1388, hc1389, hr1390⟩ := rdN_at h4 hz1383 ha1391
                refine OW.cons (OP.yes' rfl rfl rfl (OP.val (v := (.pointer (some ⟨b1384, q1385, none⟩))) rfl (x_ix Try.underlying22 Try_T25 rfl rfl hix1387) ?_))
                refine OW.cons (OP.yes' rfl rfl rfl (OP.val (v := v1386) rfl (x_load1 Try.underlying25 rfl rfl (hL.cellS 1 rfl hs1388 hc1389)) ?_))
                refine OW.cons (OP.yes' rfl rfl rfl (OP.val (v := (.int .i64 a2)) rfl (x_mv f937) ?_))
                obtain ⟨x1392, ha1393, hm⟩ := bndE hm
                obtain ⟨hz1394, ha1398⟩ := idxE ha1393
                obtain ⟨b1395, q1396, hix1397⟩ := rdL_ix (hL.rdS 1 rfl hr1390) hz1394 ha1398
                refine OW.cons (OP.yes' rfl rfl rfl (OP.val (v := (.pointer (some ⟨b1395, q1396, none⟩))) rfl (x_ix Try.underlying25 Try_T2 rfl rfl hix1397) ?_))
                refine OW.cons (OP.yes' rfl rfl rfl (OP.val (v := (.int .i64 x1392)) rfl (x_load1 Try.underlying2 rfl rfl (rdF_cells (hL.rdS 1 rfl hr1390) hix1397 ha1398 0 _ rfl)) ?_))
                refine OW.cons (OP.yes' rfl rfl rfl (OP.val (v := (.bool (x1392 == 9))) rfl (x_eql rfl rfl) ?_))
                refine OW.cons (OP.val (v := (.bool (x1392 == 9))) rfl (x_pickF' rfl rfl rfl) ?_)
                refine OW.nil ?_
                exact ⟨x1392 == 9, hm, ⟨f936, f937, f938, f939, f940, f941, f942, rfl, hL⟩⟩
          · intro s_j3 F1331 wd1332 hJ hm
            unfold M.spec_l29Average_j3 at hm
            obtain ⟨f1333, f1334, f1335, f1336, f1337, f1338, f1339, f1340, hL⟩ := hJ
            refine CW.condM (t := s_j3) f1340 hm (fun hb1341 hm => ?_) (fun hb1341 hm => ?_)
            · refine CW.exit ?_
              refine XJ.hit ?_
              exact ⟨(s_l1.1, s_l1.2.1), hm, ⟨f1333, f1334, f1335, f1336, f1337, f1338, f1339, hL⟩⟩
            · refine CW.skip ?_
              refine CW.seq ?_
              refine CW.regionL ?_
              refine OW.cons (OP.val (v := (.int .i64 s_l1.1)) rfl (x_mv f1337) ?_)
              refine OW.cons (OP.val (v := (.pointer (some ⟨b6, 1, none⟩))) rfl (x_fieldAddr (fsz := 1) 0 1 1 Try.underlying29 rfl Try_T22 rfl f1336 rfl) ?_)
              refine OW.cons (OP.val (v := v1) rfl (x_load1 Try.underlying22 rfl rfl (hL.cellB 0 rfl rfl)) ?_)
              refine OW.cons (OP.val (v := (.int .i64 s_l1.2.2)) rfl (x_mv f1339) ?_)
              obtain ⟨x1342, ha1343, hm⟩ := bndE hm
              obtain ⟨hz1344, ha1352⟩ := idxE ha1343
              obtain ⟨b1345, q1346, v1347, hix1348, hs1349, hc1350, hr1351⟩ := rdN_at h2 hz1344 ha1352
              refine OW.cons (OP.val (v := (.pointer (some ⟨b1345, q1346, none⟩))) rfl (x_ix Try.underlying22 Try_T25 rfl rfl hix1348) ?_)
              refine OW.cons (OP.val (v := v1347) rfl (x_load1 Try.underlying25 rfl rfl (hL.cellS 1 rfl hs1349 hc1350)) ?_)
              refine OW.cons (OP.val (v := (.int .i64 a2)) rfl (x_mv f1334) ?_)
              obtain ⟨x1353, ha1354, hm⟩ := bndE hm
              obtain ⟨hz1355, ha1359⟩ := idxE ha1354
              obtain ⟨b1356, q1357, hix1358⟩ := rdL_ix (hL.rdS 1 rfl hr1351) hz1355 ha1359
              refine OW.cons (OP.val (v := (.pointer (some ⟨b1356, q1357, none⟩))) rfl (x_ix Try.underlying25 Try_T2 rfl rfl hix1358) ?_)
              refine OW.cons (OP.val (v := (.int .i64 x1353)) rfl (x_load1 Try.underlying2 rfl rfl (rdF_cells (hL.rdS 1 rfl hr1351) hix1358 ha1359 0 _ rfl)) ?_)
              refine OW.cons (OP.val (v := (.int .i64 (w64 (s_l1.1 + x1353)))) rfl (x_add rfl rfl) ?_)
              refine OW.cons (OP.val (v := (.int .i64 (w64 (s_l1.1 + x1353)))) rfl (x_assign) ?_)
              refine OW.nil ?_
              refine CW.regionL ?_
              refine OW.cons (OP.val (v := (.int .i64 s_l1.2.1)) rfl (x_mv f1338) ?_)
              refine OW.cons (OP.val (v := (.int .i64 (w64 (s_l1.2.1 + 1)))) rfl (x_add rfl rfl) ?_)
              refine OW.cons (OP.val (v := (.int .i64 (w64 (s_l1.2.1 + 1)))) rfl (x_assign) ?_)
              refine OW.nil ?_
              exact ⟨(w64 (s_l1.1 + x1353), w64 (s_l1.2.1 + 1)), hm, ⟨f1333, f1334, f1335, f1336, rfl, rfl, f1339, hL⟩⟩
        · intro s_j2 F1283 wd1284 hJ hm
          unfold M.spec_l29Average_j2 at hm
          obtain ⟨f1285, f1286, f1287, f1288, f1289, f1290, f1291, hL⟩ := hJ
          exact ⟨(s_j2.1, s_j2.2), hm, ⟨f1285, f1286, f1287, f1288, f1289, f1290, f1291, hL⟩⟩
      · intro s_j1 F1167 wd1168 hJ hm
        unfold M.spec_l29Average_j1 at hm
        obtain ⟨f1169, f1170, f1171, f1172, f1173, f1174, f1175, hL⟩ := hJ
        refine CW.regionL ?_
        refine OW.cons (OP.val (v := (.int .i64 s_l1.2.2)) rfl (x_mv f1175) ?_)
        refine OW.cons (OP.val (v := (.int .i64 (w64 (s_l1.2.2 + 1)))) rfl (x_add rfl rfl) ?_)
        refine OW.cons (OP.val (v := (.int .i64 (w64 (s_l1.2.2 + 1)))) rfl (x_assign) ?_)
        refine OW.nil ?_
        obtain rfl := Option.some.inj hm
        exact ⟨_, rfl, ⟨f1169, f1170, f1171, f1172, f1173, f1174, rfl, hL⟩⟩
    · refine CW.exit ?_
      refine XJ.hit ?_
      obtain rfl := Option.some.inj hm
      exact ⟨_, rfl, ⟨f936, f937, f938, f939, f940, f941, f942, hL⟩⟩

theorem M.spec_AveragePoints_ok (w0 : World) (a0 : Table) {v1 : Value} {v3 : Value} (h2 : rdL (· < w0.heap.size) w0 v1 a0.Points) (h4 : rdL (· < w0.heap.size) w0 v3 a0.Codes) (a1 : Int) (a2 : Int) (a3 : Int) {r : Int × Int} (hm : M.spec_AveragePoints a0 a1 a2 a3 = some r) :
    Calls Try.prog 30 #[(.agg #[(.int .i64 a0.Boats), v1, v3]), (.int .i64 a1), (.int .i64 a2), (.int .i64 a3)] w0 fun e w' => e = .returned (.tuple #[(.int .i64 r.1), (.int .i64 r.2)]) ∧ Fresh w0 w' [] := by
  unfold M.spec_AveragePoints at hm
  refine calls_CW (args := [(.agg #[(.int .i64 a0.Boats), v1, v3]), (.int .i64 a1), (.int .i64 a2), (.int .i64 a3)]) Try.func30 rfl rfl rfl ?_
  have hL := Hp.start w0
  refine CW.seq ?_
  refine CW.regionL ?_
  refine OW.cons (S_box (cs := #[(.int .i64 a0.Boats), v1, v3]) hL rfl rfl rfl ?_)
  intro wd5 b6 hL
  refine OW.cons (OP.val (v := (.int .i64 0)) rfl (x_assign) ?_)
  refine OW.cons (OP.val (v := (.int .i64 0)) rfl (x_assign) ?_)
  refine OW.nil ?_
  refine CW.seq ?_
  refine CW.seq ?_
  refine CW.regionL ?_
  refine OW.cons (OP.val (v := (.agg #[(.int .i64 a0.Boats), v1, v3])) rfl (x_loadN (cs := [(.int .i64 a0.Boats), v1, v3]) Try.underlying29 Try_T29 rfl rfl (hL.cellsB 0 rfl (o := 0) (l := [(.int .i64 a0.Boats), v1, v3]) (by intro j u hj; exact (by simpa using hj)))) ?_)
  obtain ⟨x7, hx8, hm⟩ := bndE hm
  refine OW.cons (OP.call rfl (x_call (vs := [(.agg #[(.int .i64 a0.Boats), v1, v3])]) Try_C47 ⟨rfl, trivial⟩) (M.spec_IsTable_ok _ a0 (hL.rdS 1 rfl h2) (hL.rdS 1 rfl h4) hx8) ?_)
  rintro e9 wd10 ⟨rfl, hF11⟩
  refine ⟨_, rfl, ?_⟩
  have hL := hL.pushAll hF11
  simp only [List.cons_append, List.nil_append, List.set_cons_zero, List.set_cons_succ] at hL
  refine OW.cons (OP.val (v := (.bool (!x7))) rfl (x_not rfl) ?_)
  refine OW.nil ?_
  refine CW.condM (t := !x7) rfl hm (fun hb12 hm => ?_) (fun hb12 hm => ?_)
  · refine CW.seq ?_
    refine CW.regionL ?_
    refine OW.cons (OP.val (v := (.int .i64 0)) rfl (x_assign) ?_)
    refine OW.cons (OP.val (v := (.int .i64 1)) rfl (x_assign) ?_)
    refine OW.nil ?_
    refine CW.ret ?_
    obtain rfl := Option.some.inj hm
    exact RR2 rfl rfl rfl ⟨rfl, hL.fresh 1 rfl [] (by decide) (by decide) rfl⟩
  · refine CW.skip ?_
    refine CW.seq ?_
    refine CW.seqJ (fun (s_j1 : Bool) (F : Fr) (w : World) => F 1 = (.int .i64 a1) ∧ F 2 = (.int .i64 a2) ∧ F 3 = (.int .i64 a3) ∧ F 4 = (.pointer (some ⟨b6, 0, none⟩)) ∧ F 34 = (.bool s_j1) ∧ Hp w0 [Ent.blk b6 29 #[(.int .i64 a0.Boats), v1, v3], Ent.snap w0 w0.heap.size] w) (fun s_j1 => M.spec_AveragePoints_j1 a0 a1 a2 a3 s_j1 = some r) ?_ ?_
    · refine CW.regionL ?_
      refine OW.cons (OP.val (v := (.int .i64 a1)) rfl (x_move) ?_)
      refine OW.cons (OP.val (v := (.pointer (some ⟨b6, 1, none⟩))) rfl (x_fieldAddr (fsz := 1) 0 1 1 Try.underlying29 rfl Try_T22 rfl rfl rfl) ?_)
      refine OW.cons (OP.val (v := v1) rfl (x_load1 Try.underlying22 rfl rfl (hL.cellB 0 rfl rfl)) ?_)
      refine OW.cons (OP.val (v := (.int .i64 (a0.Points.length : Int))) rfl (x_lenR Try.underlying22 rfl (hL.rdS 1 rfl h2)) ?_)
      refine OW.cons (OP.val (v := (.int .i64 (w64 ((a0.Points.length : Int) - 1)))) rfl (x_sub rfl rfl) ?_)
      obtain ⟨x44, hx45, hm⟩ := bndE hm
      refine OW.cons (OP.call rfl (x_call (vs := [(.int .i64 a1), (.int .i64 0), (.int .i64 (w64 ((a0.Points.length : Int) - 1)))]) Try_C48 ⟨rfl, rfl, rfl, trivial⟩) (M.spec_l01In_ok _ a1 0 (w64 ((a0.Points.length : Int) - 1)) hx45) ?_)
      rintro e46 wd47 ⟨rfl, hF48⟩
      refine ⟨_, rfl, ?_⟩
      have hL := hL.pushAll hF48
      simp only [List.cons_append, List.nil_append, List.set_cons_zero, List.set_cons_succ] at hL
      refine OW.cons (OP.val (v := (.bool (!x44))) rfl (x_not rfl) ?_)
      refine OW.cons (OP.val (v := (.bool (!x44))) rfl (x_move) ?_)
      refine ifB_elim hm (fun hb49 hm => ?_) (fun hb49 hm => ?_)
      · refine OW.cons (OP.no' rfl rfl hb49 rfl ?_)
        refine OW.cons (OP.no' rfl rfl hb49 rfl ?_)
        refine OW.cons (OP.no' rfl rfl hb49 rfl ?_)
        refine OW.cons (OP.no' rfl rfl hb49 rfl ?_)
        refine OW.cons (OP.no' rfl rfl hb49 rfl ?_)
        refine OW.cons (OP.no' rfl rfl hb49 rfl ?_)
        refine OW.cons (OP.val (v := (.bool true)) rfl (x_pickT' rfl hb49 rfl) ?_)
        refine OW.cons (OP.val (v := (.bool true)) rfl (x_move) ?_)
        refine OW.cons (OP.no' rfl rfl rfl rfl ?_)
        refine OW.cons (OP.no' rfl rfl rfl rfl ?_)
        refine OW.cons (OP.no' rfl rfl rfl rfl ?_)
        refine OW.cons (OP.val (v := (.bool true)) rfl (x_pickT' rfl rfl rfl) ?_)
        refine OW.nil ?_
        exact ⟨true, hm, ⟨rfl, rfl, rfl, rfl, rfl, hL⟩⟩
      · refine OW.cons (OP.yes' rfl rfl hb49 (OP.val (v := (.int .i64 a2)) rfl (x_move) ?_))
        refine OW.cons (OP.yes' rfl rfl hb49 (OP.val (v := (.pointer (some ⟨b6, 0, none⟩))) rfl (x_fieldAddr (fsz := 1) 0 0 0 Try.underlying29 rfl Try_T2 rfl rfl rfl) ?_))
        refine OW.cons (OP.yes' rfl rfl hb49 (OP.val (v := (.int .i64 a0.Boats)) rfl (x_load1 Try.underlying2 rfl rfl (hL.cellB 0 rfl rfl)) ?_))
        refine OW.cons (OP.yes' rfl rfl hb49 (OP.val (v := (.int .i64 (w64 (a0.Boats - 1)))) rfl (x_sub rfl rfl) ?_))
        obtain ⟨x50, hx51, hm⟩ := bndE hm
        refine OW.cons (OP.yes' rfl rfl hb49 (OP.call rfl (x_call (vs := [(.int .i64 a2), (.int .i64 0), (.int .i64 (w64 (a0.Boats - 1)))]) Try_C48 ⟨rfl, rfl, rfl, trivial⟩) (M.spec_l01In_ok _ a2 0 (w64 (a0.Boats - 1)) hx51) ?_))
        rintro e52 wd53 ⟨rfl, hF54⟩
        refine ⟨_, rfl, ?_⟩
        have hL := hL.pushAll hF54
        simp only [List.cons_append, List.nil_append, List.set_cons_zero, List.set_cons_succ] at hL
        refine OW.cons (OP.yes' rfl rfl hb49 (OP.val (v := (.bool (!x50))) rfl (x_not rfl) ?_))
        refine OW.cons (OP.val (v := (.bool (!x50))) rfl (x_pickF' rfl hb49 rfl) ?_)
        refine OW.cons (OP.val (v := (.bool (!x50))) rfl (x_move) ?_)
        refine ifB_elim hm (fun hb55 hm => ?_) (fun hb55 hm => ?_)
        · refine OW.cons (OP.no' rfl rfl hb55 rfl ?_)
          refine OW.cons (OP.no' rfl rfl hb55 rfl ?_)
          refine OW.cons (OP.no' rfl rfl hb55 rfl ?_)
          refine OW.cons (OP.val (v := (.bool true)) rfl (x_pickT' rfl hb55 rfl) ?_)
          refine OW.nil ?_
          exact ⟨true, hm, ⟨rfl, rfl, rfl, rfl, rfl, hL⟩⟩
        · refine OW.cons (OP.yes' rfl rfl hb55 (OP.val (v := (.int .i64 a3)) rfl (x_move) ?_))
          obtain ⟨x56, hx57, hm⟩ := bndE hm
          refine OW.cons (OP.yes' rfl rfl hb55 (OP.call rfl (x_call (vs := [(.int .i64 a3), (.int .i64 1), (.int .i64 2)]) Try_C48 ⟨rfl, rfl, rfl, trivial⟩) (M.spec_l01In_ok _ a3 1 2 hx57) ?_))
          rintro e58 wd59 ⟨rfl, hF60⟩
          refine ⟨_, rfl, ?_⟩
          have hL := hL.pushAll hF60
          simp only [List.cons_append, List.nil_append, List.set_cons_zero, List.set_cons_succ] at hL
          refine OW.cons (OP.yes' rfl rfl hb55 (OP.val (v := (.bool (!x56))) rfl (x_not rfl) ?_))
          refine OW.cons (OP.val (v := (.bool (!x56))) rfl (x_pickF' rfl hb55 rfl) ?_)
          refine OW.nil ?_
          exact ⟨!x56, hm, ⟨rfl, rfl, rfl, rfl, rfl, hL⟩⟩
    · intro s_j1 F30 wd31 hJ hm
      unfold M.spec_AveragePoints_j1 at hm
      obtain ⟨f32, f33, f34, f35, f36, hL⟩ := hJ
      refine CW.condM (t := s_j1) f36 hm (fun hb37 hm => ?_) (fun hb37 hm => ?_)
      · refine CW.seq ?_
        refine CW.regionL ?_
        refine OW.cons (OP.val (v := (.int .i64 0)) rfl (x_assign) ?_)
        refine OW.cons (OP.val (v := (.int .i64 2)) rfl (x_assign) ?_)
        refine OW.nil ?_
        refine CW.ret ?_
        obtain rfl := Option.some.inj hm
        exact RR2 rfl rfl rfl ⟨rfl, hL.fresh 1 rfl [] (by decide) (by decide) rfl⟩
      · refine CW.skip ?_
        refine CW.seq ?_
        refine CW.regionL ?_
        refine OW.cons (OP.val (v := (.agg #[(.int .i64 a0.Boats), v1, v3])) rfl (x_loadN (cs := [(.int .i64 a0.Boats), v1, v3]) Try.underlying29 Try_T29 rfl f35 (hL.cellsB 0 rfl (o := 0) (l := [(.int .i64 a0.Boats), v1, v3]) (by intro j u hj; exact (by simpa using hj)))) ?_)
        refine OW.cons (OP.val (v := (.int .i64 a1)) rfl (x_mv f32) ?_)
        refine OW.cons (OP.val (v := (.int .i64 a2)) rfl (x_mv f33) ?_)
        refine OW.cons (OP.val (v := (.int .i64 a3)) rfl (x_mv f34) ?_)
        obtain ⟨x38, hx39, hm⟩ := bndE hm
        refine OW.cons (OP.call rfl (x_call (vs := [(.agg #[(.int .i64 a0.Boats), v1, v3]), (.int .i64 a1), (.int .i64 a2), (.int .i64 a3)]) Try_C49 ⟨rfl, rfl, rfl, rfl, trivial⟩) (M.spec_l29Average_ok _ a0 (hL.rdS 1 rfl h2) (hL.rdS 1 rfl h4) a1 a2 a3 hx39) ?_)
        rintro e40 wd41 ⟨rfl, hF42⟩
        refine ⟨_, rfl, ?_⟩
        have hL := hL.pushAll hF42
        simp only [List.cons_append, List.nil_append, List.set_cons_zero, List.set_cons_succ] at hL
        refine OW.cons (OP.val (v := (.tuple #[(.int .i64 x38.1), (.bool x38.2)])) rfl (x_move) ?_)
        refine OW.cons (OP.val (v := (.int .i64 x38.1)) rfl (x_extract rfl rfl) ?_)
        refine OW.cons (OP.val (v := (.bool x38.2)) rfl (x_extract rfl rfl) ?_)
        refine OW.cons (OP.val (v := (.int .i64 x38.1)) rfl (x_assign) ?_)
        refine OW.cons (OP.val (v := (.bool x38.2)) rfl (x_assign) ?_)
        refine OW.nil ?_
        refine CW.seq ?_
        refine CW.seq ?_
        refine CW.regionL ?_
        refine OW.cons (OP.val (v := (.bool x38.2)) rfl (x_move) ?_)
        refine OW.cons (OP.val (v := (.bool (!x38.2))) rfl (x_not rfl) ?_)
        refine OW.nil ?_
        refine CW.condM (t := !x38.2) rfl hm (fun hb43 hm => ?_) (fun hb43 hm => ?_)
        · refine CW.seq ?_
          refine CW.regionL ?_
          refine OW.cons (OP.val (v := (.int .i64 0)) rfl (x_assign) ?_)
          refine OW.cons (OP.val (v := (.int .i64 4)) rfl (x_assign) ?_)
          refine OW.nil ?_
          refine CW.ret ?_
          obtain rfl := Option.some.inj hm
          exact RR2 rfl rfl rfl ⟨rfl, hL.fresh 1 rfl [] (by decide) (by decide) rfl⟩
        · refine CW.skip ?_
          refine CW.seq ?_
          refine CW.regionL ?_
          refine OW.cons (OP.val (v := (.int .i64 x38.1)) rfl (x_move) ?_)
          refine OW.cons (OP.val (v := (.int .i64 x38.1)) rfl (x_assign) ?_)
          refine OW.cons (OP.val (v := (.int .i64 0)) rfl (x_assign) ?_)
          refine OW.nil ?_
          refine CW.ret ?_
          obtain rfl := Option.some.inj hm
          exact RR2 rfl rfl rfl ⟨rfl, hL.fresh 1 rfl [] (by decide) (by decide) rfl⟩

theorem M.impl_averagePoints_ok (w0 : World) (a0 : Table) {v1 : Value} {v3 : Value} (h2 : rdL (· < w0.heap.size) w0 v1 a0.Points) (h4 : rdL (· < w0.heap.size) w0 v3 a0.Codes) (a1 : Int) (a2 : Int) (a3 : Int) {r : Int × Bool} (hm : M.impl_averagePoints a0 a1 a2 a3 = some r) :
    Calls Try.prog 52 #[(.agg #[(.int .i64 a0.Boats), v1, v3]), (.int .i64 a1), (.int .i64 a2), (.int .i64 a3)] w0 fun e w' => e = .returned (.tuple #[(.int .i64 r.1), (.bool r.2)]) ∧ Fresh w0 w' [] := by
  unfold M.impl_averagePoints at hm
  refine calls_CW (args := [(.agg #[(.int .i64 a0.Boats), v1, v3]), (.int .i64 a1), (.int .i64 a2), (.int .i64 a3)]) Try.func52 rfl rfl rfl ?_
  have hL := Hp.start w0
  refine CW.seq ?_
  refine CW.regionL ?_
  refine OW.cons (S_box (cs := #[(.int .i64 a0.Boats), v1, v3]) hL rfl rfl rfl ?_)
  intro wd5 b6 hL
  refine OW.cons (OP.val (v := (.int .i64 0)) rfl (x_assign) ?_)
  refine OW.cons (OP.val (v := (.bool false)) rfl (x_assign) ?_)
  refine OW.nil ?_
  refine CW.seq ?_
  refine CW.regionL ?_
  refine OW.cons (OP.val (v := (.int .i64 0)) rfl (x_assign) ?_)
  refine OW.cons (OP.val (v := (.int .i64 0)) rfl (x_assign) ?_)
  refine OW.nil ?_
  refine CW.seq ?_
  refine CW.seq ?_
  refine CW.regionL ?_
  refine OW.cons (OP.val (v := (.pointer (some ⟨b6, 1, none⟩))) rfl (x_fieldAddr (fsz := 1) 0 1 1 Try.underlying29 rfl Try_T22 rfl rfl rfl) ?_)
  refine OW.cons (OP.val (v := v1) rfl (x_load1 Try.underlying22 rfl rfl (hL.cellB 0 rfl rfl)) ?_)
  refine OW.cons (OP.val (v := (.int .i64 (a0.Points.length : Int))) rfl (x_lenR Try.underlying22 rfl (hL.rdS 1 rfl h2)) ?_)
  refine OW.cons (OP.val (v := (.int .i64 0)) rfl (x_move) ?_)
  refine OW.nil ?_
  obtain ⟨o781, ho782, hm⟩ := bndE hm
  refine CW.loopB (fun (s_l1 : Int × Int × Int) (F : Fr) (w : World) => F 1 = (.int .i64 a1) ∧ F 2 = (.int .i64 a2) ∧ F 3 = (.int .i64 a3) ∧ F 4 = (.pointer (some ⟨b6, 0, none⟩)) ∧ F 10 = (.int .i64 s_l1.1) ∧ F 11 = (.int .i64 s_l1.2.1) ∧ F 16 = v1 ∧ F 17 = (.int .i64 (a0.Points.length : Int)) ∧ F 18 = (.int .i64 s_l1.2.2) ∧ Hp w0 [Ent.blk b6 29 #[(.int .i64 a0.Boats), v1, v3], Ent.snap w0 w0.heap.size] w) (fun o => outc o (fun x => some x) (fun s => M.impl_averagePoints_a1 s) = some r) ho782 hm ⟨rfl, rfl, rfl, rfl, rfl, rfl, rfl, rfl, rfl, hL⟩ ?_ ?_
  · intro s_l1 F783 wd784 hJ hm
    have hm := outcE hm
    have hm : M.impl_averagePoints_a1 s_l1 = some r := hm
    unfold M.impl_averagePoints_a1 at hm
    obtain ⟨f785, f786, f787, f788, f789, f790, f791, f792, f793, hL⟩ := hJ
    refine CW.seq ?_
    refine CW.seq ?_
    refine CW.regionL ?_
    refine OW.cons (OP.val (v := (.int .i64 s_l1.2.1)) rfl (x_mv f790) ?_)
    refine OW.cons (OP.val (v := (.bool (s_l1.2.1 == 0))) rfl (x_eql rfl rfl) ?_)
    refine OW.nil ?_
    refine CW.condM (t := s_l1.2.1 == 0) rfl hm (fun hb794 hm => ?_) (fun hb794 hm => ?_)
    · refine CW.seq ?_
      refine CW.regionL ?_
      refine OW.cons (OP.val (v := (.int .i64 0)) rfl (x_assign) ?_)
      refine OW.cons (OP.val (v := (.bool false)) rfl (x_assign) ?_)
      refine OW.nil ?_
      refine CW.ret ?_
      obtain rfl := Option.some.inj hm
      exact RR2 rfl rfl rfl ⟨rfl, hL.fresh 1 rfl [] (by decide) (by decide) rfl⟩
    · refine CW.skip ?_
      refine CW.seq ?_
      refine CW.regionL ?_
      refine OW.cons (OP.val (v := (.int .i64 s_l1.1)) rfl (x_mv f789) ?_)
      refine OW.cons (OP.val (v := (.int .i64 (w64 (2 * s_l1.1)))) rfl (x_mul rfl rfl) ?_)
      refine OW.cons (OP.val (v := (.int .i64 s_l1.2.1)) rfl (x_mv f790) ?_)
      refine OW.cons (OP.val (v := (.int .i64 (w64 ((w64 (2 * s_l1.1)) + s_l1.2.1)))) rfl (x_add rfl rfl) ?_)
      refine OW.cons (OP.val (v := (.int .i64 s_l1.2.1)) rfl (x_mv f790) ?_)
      refine OW.cons (OP.val (v := (.int .i64 (w64 (2 * s_l1.2.1)))) rfl (x_mul rfl rfl) ?_)
      obtain ⟨hc795, hm⟩ := chkE hm
      refine OW.cons (OP.val (v := (.int .i64 (w64 ((w64 ((w64 (2 * s_l1.1)) + s_l1.2.1)).tdiv (w64 (2 * s_l1.2.1)))))) rfl (x_quo rfl rfl hc795) ?_)
      refine OW.cons (OP.val (v := (.int .i64 (w64 ((w64 ((w64 (2 * s_l1.1)) + s_l1.2.1)).tdiv (w64 (2 * s_l1.2.1)))))) rfl (x_assign) ?_)
      refine OW.cons (OP.val (v := (.bool true)) rfl (x_assign) ?_)
      refine OW.nil ?_
      refine CW.ret ?_
      obtain rfl := Option.some.inj hm
      exact RR2 rfl rfl rfl ⟨rfl, hL.fresh 1 rfl [] (by decide) (by decide) rfl⟩
  · intro s_l1 F796 wd797 t779 hJ hm hr780
    unfold M.impl_averagePoints_l1 at hm
    obtain ⟨f798, f799, f800, f801, f802, f803, f804, f805, f806, hL⟩ := hJ
    refine CW.seq ?_
    refine CW.regionL ?_
    refine OW.cons (OP.val (v := (.bool (decide (s_l1.2.2 < (a0.Points.length : Int))))) rfl (x_lss f806 f805) ?_)
    refine OW.nil ?_
    refine CW.seq ?_
    refine CW.condM (t := decide (s_l1.2.2 < (a0.Points.length : Int))) rfl hm (fun hb807 hm => ?_) (fun hb807 hm => ?_)
    · refine CW.skip ?_
      refine CW.seqJ (fun (s_j1 : Int × Int) (F : Fr) (w : World) => F 1 = (.int .i64 a1) ∧ F 2 = (.int .i64 a2) ∧ F 3 = (.int .i64 a3) ∧ F 4 = (.pointer (some ⟨b6, 0, none⟩)) ∧ F 10 = (.int .i64 s_j1.1) ∧ F 11 = (.int .i64 s_j1.2) ∧ F 16 = v1 ∧ F 17 = (.int .i64 (a0.Points.length : Int)) ∧ F 18 = (.int .i64 s_l1.2.2) ∧ Hp w0 [Ent.blk b6 29 #[(.int .i64 a0.Boats), v1, v3], Ent.snap w0 w0.heap.size] w) (fun s_j1 => M.impl_averagePoints_j1 s_l1 s_j1 = some t779) ?_ ?_
      · refine CW.blockJ (fun (s_j2 : Int × Int) (F : Fr) (w : World) => F 1 = (.int .i64 a1) ∧ F 2 = (.int .i64 a2) ∧ F 3 = (.int .i64 a3) ∧ F 4 = (.pointer (some ⟨b6, 0, none⟩)) ∧ F 10 = (.int .i64 s_j2.1) ∧ F 11 = (.int .i64 s_j2.2) ∧ F 16 = v1 ∧ F 17 = (.int .i64 (a0.Points.length : Int)) ∧ F 18 = (.int .i64 s_l1.2.2) ∧ Hp w0 [Ent.blk b6 29 #[(.int .i64 a0.Boats), v1, v3], Ent.snap w0 w0.heap.size] w) (fun s_j2 => M.impl_averagePoints_j2 s_l1 s_j2 = some t779) ?_ ?_
        · refine CW.seq ?_
          refine CW.regionL ?_
          refine OW.cons (OP.val (v := (.int .i64 s_l1.2.2)) rfl (x_mv f806) ?_)
          obtain ⟨x1105, ha1106, hm⟩ := bndE hm
          obtain ⟨hz1107, ha1115⟩ := idxE ha1106
          obtain ⟨b1108, q1109, v1110, hix1111, hs1112, hc1113, hr1114⟩ := rdN_at h2 hz1107 ha1115
          refine OW.cons (OP.val (v := (.pointer (some ⟨b1108, q1109, none⟩))) rfl (x_ix Try.underlying22 Try_T25 f804 f806 hix1111) ?_)
          refine OW.cons (OP.val (v := v1110) rfl (x_load1 Try.underlying25 rfl rfl (hL.cellS 1 rfl hs1112 hc1113)) ?_)
          refine OW.cons (OP.val (v := (.int .i64 s_l1.2.2)) rfl (x_assign) ?_)
          refine OW.cons (OP.val (v := v1110) rfl (x_assign) ?_)
          refine OW.nil ?_
          refine CW.seqJ (fun (s_j3 : Bool) (F : Fr) (w : World) => F 1 = (.int .i64 a1) ∧ F 2 = (.int .i64 a2) ∧ F 3 = (.int .i64 a3) ∧ F 4 = (.pointer (some ⟨b6, 0, none⟩)) ∧ F 10 = (.int .i64 s_l1.1) ∧ F 11 = (.int .i64 s_l1.2.1) ∧ F 12 = (.int .i64 s_l1.2.2) ∧ F 13 = v1110 ∧ F 14 = (.bool s_j3) ∧ F 16 = v1 ∧ F 17 = (.int .i64 (a0.Points.length : Int)) ∧ F 18 = (.int .i64 s_l1.2.2) ∧ Hp w0 [Ent.blk b6 29 #[(.int .i64 a0.Boats), v1, v3], Ent.snap w0 w0.heap.size] w) (fun s_j3 => M.impl_averagePoints_j3 a0 a2 s_l1 x1105 s_j3 = some t779) ?_ ?_
          · refine CW.regionL ?_
            refine OW.cons (OP.val (v := (.int .i64 s_l1.2.2)) rfl (x_move) ?_)
            refine OW.cons (OP.val (v := (.int .i64 a1)) rfl (x_mv f798) ?_)
            refine OW.cons (OP.val (v := (.bool (decide (s_l1.2.2 < a1)))) rfl (x_lss rfl rfl) ?_)
            refine OW.cons (OP.val (v := (.bool (decide (s_l1.2.2 < a1)))) rfl (x_move) ?_)
            refine ifB_elim hm (fun hb1191 hm => ?_) (fun hb1191 hm => ?_)
            · refine OW.cons (OP.no' rfl rfl hb1191 rfl ?_)
              refine OW.cons (OP.no' rfl rfl hb1191 rfl ?_)
              refine OW.cons (OP.no' rfl rfl hb1191 rfl ?_)
              refine OW.cons (OP.no' rfl rfl hb1191 rfl ?_)
              refine OW.cons (OP.noU rfl rfl rfl ?_)
              refine OW.cons (OP.noU rfl rfl rfl ?_)
              refine OW.cons (OP.no' rfl rfl hb1191 rfl ?_)
              refine OW.cons (OP.val (v := (.bool true)) rfl (x_pickT' rfl hb1191 rfl) ?_)
              refine OW.cons (OP.val (v := (.bool true)) rfl (x_assign) ?_)
              refine OW.nil ?_
              exact ⟨true, hm, ⟨f798, f799, f800, f801, f802, f803, rfl, rfl, rfl, f804, f805, f806, hL⟩⟩
            · refine OW.cons (OP.yes' rfl rfl hb1191 (OP.val (v := (.int .i64 s_l1.2.2)) rfl (x_move) ?_))
              refine OW.cons (OP.yes' rfl rfl hb1191 (OP.val (v := (.int .i64 a1)) rfl (x_mv f798) ?_))
              refine OW.cons (OP.yes' rfl rfl hb1191 (OP.val (v := (.bool (decide (a1 < s_l1.2.2)))) rfl (x_gtr rfl rfl) ?_))
              refine OW.cons (OP.yes' rfl rfl hb1191 (OP.val (v := (.bool (decide (a1 < s_l1.2.2)))) rfl (x_move) ?_))
              refine ifB_elim hm (fun hb1192 hm => ?_) (fun hb1192 hm => ?_)
              · refine OW.cons (OP.yes' rfl rfl hb1192 (OP.val (v := (.int .i64 a3)) rfl (x_mv f800) ?_))
                refine OW.cons (OP.yes' rfl rfl hb1192 (OP.val (v := (.bool (a3 == 1))) rfl (x_eql rfl rfl) ?_))
                refine OW.cons (OP.yes' rfl rfl hb1191 (OP.val (v := (.bool (a3 == 1))) rfl (x_pickT' rfl hb1192 rfl) ?_))
                refine OW.cons (OP.val (v := (.bool (a3 == 1))) rfl (x_pickF' rfl hb1191 rfl) ?_)
                refine OW.cons (OP.val (v := (.bool (a3 == 1))) rfl (x_assign) ?_)
                refine OW.nil ?_
                exact ⟨a3 == 1, hm, ⟨f798, f799, f800, f801, f802, f803, rfl, rfl, rfl, f804, f805, f806, hL⟩⟩
              · refine OW.cons (OP.no' rfl rfl hb1192 rfl ?_)
                refine OW.cons (OP.no' rfl rfl hb1192 rfl ?_)
                refine OW.cons (OP.yes' rfl rfl hb1191 (OP.val (v := (.bool false)) rfl (x_pickF' rfl hb1192 rfl) ?_))
                refine OW.cons (OP.val (v := (.bool false)) rfl (x_pickF' rfl hb1191 rfl) ?_)
                refine OW.cons (OP.val (v := (.bool false)) rfl (x_assign) ?_)
                refine OW.nil ?_
                exact ⟨false, hm, ⟨f798, f799, f800, f801, f802, f803, rfl, rfl, rfl, f804, f805, f806, hL⟩⟩
          · intro s_j3 F1118 wd1119 hJ hm
            unfold M.impl_averagePoints_j3 at hm
            obtain ⟨f1120, f1121, f1122, f1123, f1124, f1125, f1126, f1127, f1128, f1129, f1130, f1131, hL⟩ := hJ
            refine CW.seqJ (fun (s_j4 : Bool) (F : Fr) (w : World) => F 1 = (.int .i64 a1) ∧ F 2 = (.int .i64 a2) ∧ F 3 = (.int .i64 a3) ∧ F 4 = (.pointer (some ⟨b6, 0, none⟩)) ∧ F 10 = (.int .i64 s_l1.1) ∧ F 11 = (.int .i64 s_l1.2.1) ∧ F 13 = v1110 ∧ F 16 = v1 ∧ F 17 = (.int .i64 (a0.Points.length : Int)) ∧ F 18 = (.int .i64 s_l1.2.2) ∧ F 46 = (.bool s_j4) ∧ Hp w0 [Ent.blk b6 29 #[(.int .i64 a0.Boats), v1, v3], Ent.snap w0 w0.heap.size] w) (fun s_j4 => M.impl_averagePoints_j4 a2 s_l1 x1105 s_j4 = some t779) ?_ ?_
            · refine CW.regionL ?_
              refine OW.cons (OP.val (v := (.bool s_j3)) rfl (x_mv f1128) ?_)
              refine OW.cons (OP.val (v := (.bool s_j3)) rfl (x_move) ?_)
              refine ifB_elim hm (fun hb1172 hm => ?_) (fun hb1172 hm => ?_)
              · refine OW.cons (OP.yes' rfl rfl hb1172 (OP.val (v := (.pointer (some ⟨b6, 2, none⟩))) rfl (x_fieldAddr (fsz := 1) 0 2 2 Try.underlying29 rfl Try_T22 rfl f1123 rfl) ?_))
                refine OW.cons (OP.yes' rfl rfl hb1172 (OP.val (v := v3) rfl (x_load1 Try.underlying22 rfl rfl (hL.cellB 0 rfl rfl)) ?_))
                refine OW.cons (OP.yes' rfl rfl hb1172 (OP.val (v := (.int .i64 s_l1.2.2)) rfl (x_mv f1126) ?_))
                obtain ⟨x1173, ha1174, hm⟩ := bndE hm
                obtain ⟨hz1175, ha1183⟩ := idxE ha1174
                obtain ⟨b1176, q1177, v1178, hix1179, hs1180, hc1181, hr1182⟩ := rdN_at h4 hz1175 ha1183
                refine OW.cons (OP.yes' rfl rfl hb1172 (OP.val (v := (.pointer (some ⟨b1176, q1177, none⟩))) rfl (x_ix Try.underlying22 Try_T25 rfl rfl hix1179) ?_))
                refine OW.cons (OP.yes' rfl rfl hb1172 (OP.val (v := v1178) rfl (x_load1 Try.underlying25 rfl rfl (hL.cellS 1 rfl hs1180 hc1181)) ?_))
                refine OW.cons (OP.yes' rfl rfl hb1172 (OP.val (v := (.int .i64 a2)) rfl (x_mv f1121) ?_))
                obtain ⟨x1184, ha1185, hm⟩ := bndE hm
                obtain ⟨hz1186, ha1190⟩ := idxE ha1185
                obtain ⟨b1187, q1188, hix1189⟩ := rdL_ix (hL.rdS 1 rfl hr1182) hz1186 ha1190
                refine OW.cons (OP.yes' rfl rfl hb1172 (OP.val (v := (.pointer (some ⟨b1187, q1188, none⟩))) rfl (x_ix Try.underlying25 Try_T2 rfl rfl hix1189) ?_))
                refine OW.cons (OP.yes' rfl rfl hb1172 (OP.val (v := (.int .i64 x1184)) rfl (x_load1 Try.underlying2 rfl rfl (rdF_cells (hL.rdS 1 rfl hr1182) hix1189 ha1190 0 _ rfl)) ?_))
                refine OW.cons (OP.yes' rfl rfl hb1172 (OP.val (v := (.bool (x1184 != 9))) rfl (x_neq rfl rfl) ?_))
                refine OW.cons (OP.val (v := (.bool (x1184 != 9))) rfl (x_pickT' rfl hb1172 rfl) ?_)
                refine OW.nil ?_
                exact ⟨x1184 != 9, hm, ⟨f1120, f1121, f1122, f1123, f1124, f1125, f1127, f1129, f1130, f1131, rfl, hL⟩⟩
              · refine OW.cons (OP.no' rfl rfl hb1172 rfl ?_)
                refine OW.cons (OP.no' rfl rfl hb1172 rfl ?_)
                refine OW.cons (OP.no' rfl rfl hb1172 rfl ?_)
                refine OW.cons (OP.no' rfl rfl hb1172 rfl ?_)
                refine OW.cons (OP.no' rfl rfl hb1172 rfl ?_)
                refine OW.cons (OP.no' rfl rfl hb1172 rfl ?_)
                refine OW.cons (OP.no' rfl rfl hb1172 rfl ?_)
                refine OW.cons (OP.no' rfl rfl hb1172 rfl ?_)
                refine OW.cons (OP.no' rfl rfl hb1172 rfl ?_)
                refine OW.cons (OP.val (v := (.bool false)) rfl (x_pickF' rfl hb1172 rfl) ?_)
                refine OW.nil ?_
                exact ⟨false, hm, ⟨f1120, f1121, f1122, f1123, f1124, f1125, f1127, f1129, f1130, f1131, rfl, hL⟩⟩
            · intro s_j4 F1151 wd1152 hJ hm
              unfold M.impl_averagePoints_j4 at hm
              obtain ⟨f1153, f1154, f1155, f1156, f1157, f1158, f1159, f1160, f1161, f1162, f1163, hL⟩ := hJ
              refine CW.condM (t := s_j4) f1163 hm (fun hb1164 hm => ?_) (fun hb1164 hm => ?_)
              · refine CW.seq ?_
                refine CW.regionL ?_
                refine OW.cons (OP.val (v := (.int .i64 s_l1.1)) rfl (x_mv f1157) ?_)
                refine OW.cons (OP.val (v := v1110) rfl (x_mv f1159) ?_)
                refine OW.cons (OP.val (v := (.int .i64 a2)) rfl (x_mv f1154) ?_)
                obtain ⟨x1165, ha1166, hm⟩ := bndE hm
                obtain ⟨hz1167, ha1171⟩ := idxE ha1166
                obtain ⟨b1168, q1169, hix1170⟩ := rdL_ix (hL.rdS 1 rfl hr1114) hz1167 ha1171
                refine OW.cons (OP.val (v := (.pointer (some ⟨b1168, q1169, none⟩))) rfl (x_ix Try.underlying25 Try_T2 rfl rfl hix1170) ?_)
                refine OW.cons (OP.val (v := (.int .i64 x1165)) rfl (x_load1 Try.underlying2 rfl rfl (rdF_cells (hL.rdS 1 rfl hr1114) hix1170 ha1171 0 _ rfl)) ?_)
                refine OW.cons (OP.val (v := (.int .i64 (w64 (s_l1.1 + x1165)))) rfl (x_add rfl rfl) ?_)
                refine OW.cons (OP.val (v := (.int .i64 (w64 (s_l1.1 + x1165)))) rfl (x_assign) ?_)
                refine OW.nil ?_
                refine CW.regionL ?_
                refine OW.cons (OP.val (v := (.int .i64 s_l1.2.1)) rfl (x_mv f1158) ?_)
                refine OW.cons (OP.val (v := (.int .i64 (w64 (s_l1.2.1 + 1)))) rfl (x_add rfl rfl) ?_)
                refine OW.cons (OP.val (v := (.int .i64 (w64 (s_l1.2.1 + 1)))) rfl (x_assign) ?_)
                refine OW.nil ?_
                exact ⟨(w64 (s_l1.1 + x1165), w64 (s_l1.2.1 + 1)), hm, ⟨f1153, f1154, f1155, f1156, rfl, rfl, f1160, f1161, f1162, hL⟩⟩
              · refine CW.skip ?_
                exact ⟨(s_l1.1, s_l1.2.1), hm, ⟨f1153, f1154, f1155, f1156, f1157, f1158, f1160, f1161, f1162, hL⟩⟩
        · intro s_j2 F1094 wd1095 hJ hm
          unfold M.impl_averagePoints_j2 at hm
          obtain ⟨f1096, f1097, f1098, f1099, f1100, f1101, f1102, f1103, f1104, hL⟩ := hJ
          exact ⟨(s_j2.1, s_j2.2), hm, ⟨f1096, f1097, f1098, f1099, f1100, f1101, f1102, f1103, f1104, hL⟩⟩
      · intro s_j1 F995 wd996 hJ hm
        unfold M.impl_averagePoints_j1 at hm
        obtain ⟨f997, f998, f999, f1000, f1001, f1002, f1003, f1004, f1005, hL⟩ := hJ
        refine CW.regionL ?_
        refine OW.cons (OP.val (v := (.int .i64 (w64 (s_l1.2.2 + 1)))) rfl (x_add f1005 rfl) ?_)
        refine OW.cons (OP.val (v := (.int .i64 (w64 (s_l1.2.2 + 1)))) rfl (x_move) ?_)
        refine OW.nil ?_
        obtain rfl := Option.some.inj hm
        exact ⟨_, rfl, ⟨f997, f998, f999, f1000, f1001, f1002, f1003, f1004, rfl, hL⟩⟩
    · refine CW.exit ?_
      refine XJ.hit ?_
      obtain rfl := Option.some.inj hm
      exact ⟨_, rfl, ⟨f798, f799, f800, f801, f802, f803, f804, f805, f806, hL⟩⟩

theorem M.impl_AveragePoints_ok (w0 : World) (a0 : Table) {v1 : Value} {v3 : Value} (h2 : rdL (· < w0.heap.size) w0 v1 a0.Points) (h4 : rdL (· < w0.heap.size) w0 v3 a0.Codes) (a1 : Int) (a2 : Int) (a3 : Int) {r : Int × Int} (hm : M.impl_AveragePoints a0 a1 a2 a3 = some r) :
    Calls Try.prog 31 #[(.agg #[(.int .i64 a0.Boats), v1, v3]), (.int .i64 a1), (.int .i64 a2), (.int .i64 a3)] w0 fun e w' => e = .returned (.tuple #[(.int .i64 r.1), (.int .i64 r.2)]) ∧ Fresh w0 w' [] := by
  unfold M.impl_AveragePoints at hm
  refine calls_CW (args := [(.agg #[(.int .i64 a0.Boats), v1, v3]), (.int .i64 a1), (.int .i64 a2), (.int .i64 a3)]) Try.func31 rfl rfl rfl ?_
  have hL := Hp.start w0
  refine CW.seq ?_
  refine CW.regionL ?_
  refine OW.cons (S_box (cs := #[(.int .i64 a0.Boats), v1, v3]) hL rfl rfl rfl ?_)
  intro wd5 b6 hL
  refine OW.cons (OP.val (v := (.int .i64 0)) rfl (x_assign) ?_)
  refine OW.cons (OP.val (v := (.int .i64 0)) rfl (x_assign) ?_)
  refine OW.nil ?_
  refine CW.seq ?_
  refine CW.seq ?_
  refine CW.regionL ?_
  refine OW.cons (OP.val (v := (.agg #[(.int .i64 a0.Boats), v1, v3])) rfl (x_loadN (cs := [(.int .i64 a0.Boats), v1, v3]) Try.underlying29 Try_T29 rfl rfl (hL.cellsB 0 rfl (o := 0) (l := [(.int .i64 a0.Boats), v1, v3]) (by intro j u hj; exact (by simpa using hj)))) ?_)
  obtain ⟨x7, hx8, hm⟩ := bndE hm
  refine OW.cons (OP.call rfl (x_call (vs := [(.agg #[(.int .i64 a0.Boats), v1, v3])]) Try_C50 ⟨rfl, trivial⟩) (M.impl_IsTable_ok _ a0 (hL.rdS 1 rfl h2) (hL.rdS 1 rfl h4) hx8) ?_)
  rintro e9 wd10 ⟨rfl, hF11⟩
  refine ⟨_, rfl, ?_⟩
  have hL := hL.pushAll hF11
  simp only [List.cons_append, List.nil_append, List.set_cons_zero, List.set_cons_succ] at hL
  refine OW.cons (OP.val (v := (.bool (!x7))) rfl (x_not rfl) ?_)
  refine OW.nil ?_
  refine CW.condM (t := !x7) rfl hm (fun hb12 hm => ?_) (fun hb12 hm => ?_)
  · refine CW.seq ?_
    refine CW.regionL ?_
    refine OW.cons (OP.val (v := (.int .i64 0)) rfl (x_assign) ?_)
    refine OW.cons (OP.val (v := (.int .i64 1)) rfl (x_assign) ?_)
    refine OW.nil ?_
    refine CW.ret ?_
    obtain rfl := Option.some.inj hm
    exact RR2 rfl rfl rfl ⟨rfl, hL.fresh 1 rfl [] (by decide) (by decide) rfl⟩
  · refine CW.skip ?_
    refine CW.seq ?_
    refine CW.seqJ (fun (s_j1 : Bool) (F : Fr) (w : World) => F 1 = (.int .i64 a1) ∧ F 2 = (.int .i64 a2) ∧ F 3 = (.int .i64 a3) ∧ F 4 = (.pointer (some ⟨b6, 0, none⟩)) ∧ F 34 = (.bool s_j1) ∧ Hp w0 [Ent.blk b6 29 #[(.int .i64 a0.Boats), v1, v3], Ent.snap w0 w0.heap.size] w) (fun s_j1 => M.impl_AveragePoints_j1 a0 a1 a2 a3 s_j1 = some r) ?_ ?_
    · refine CW.regionL ?_
      refine OW.cons (OP.val (v := (.int .i64 a1)) rfl (x_move) ?_)
      refine OW.cons (OP.val (v := (.pointer (some ⟨b6, 1, none⟩))) rfl (x_fieldAddr (fsz := 1) 0 1 1 Try.underlying29 rfl Try_T22 rfl rfl rfl) ?_)
      refine OW.cons (OP.val (v := v1) rfl (x_load1 Try.underlying22 rfl rfl (hL.cellB 0 rfl rfl)) ?_)
      refine OW.cons (OP.val (v := (.int .i64 (a0.Points.length : Int))) rfl (x_lenR Try.underlying22 rfl (hL.rdS 1 rfl h2)) ?_)
      refine OW.cons (OP.val (v := (.int .i64 (w64 ((a0.Points.length : Int) - 1)))) rfl (x_sub rfl rfl) ?_)
      obtain ⟨x44, hx45, hm⟩ := bndE hm
      refine OW.cons (OP.call rfl (x_call (vs := [(.int .i64 a1), (.int .i64 0), (.int .i64 (w64 ((a0.Points.length : Int) - 1)))]) Try_C51 ⟨rfl, rfl, rfl, trivial⟩) (M.impl_within_ok _ a1 0 (w64 ((a0.Points.length : Int) - 1)) hx45) ?_)
      rintro e46 wd47 ⟨rfl, hF48⟩
      refine ⟨_, rfl, ?_⟩
      have hL := hL.pushAll hF48
      simp only [List.cons_append, List.nil_append, List.set_cons_zero, List.set_cons_succ] at hL
      refine OW.cons (OP.val (v := (.bool (!x44))) rfl (x_not rfl) ?_)
      refine OW.cons (OP.val (v := (.bool (!x44))) rfl (x_move) ?_)
      refine ifB_elim hm (fun hb49 hm => ?_) (fun hb49 hm => ?_)
      · refine OW.cons (OP.no' rfl rfl hb49 rfl ?_)
        refine OW.cons (OP.no' rfl rfl hb49 rfl ?_)
        refine OW.cons (OP.no' rfl rfl hb49 rfl ?_)
        refine OW.cons (OP.no' rfl rfl hb49 rfl ?_)
        refine OW.cons (OP.no' rfl rfl hb49 rfl ?_)
        refine OW.cons (OP.no' rfl rfl hb49 rfl ?_)
        refine OW.cons (OP.val (v := (.bool true)) rfl (x_pickT' rfl hb49 rfl) ?_)
        refine OW.cons (OP.val (v := (.bool true)) rfl (x_move) ?_)
        refine OW.cons (OP.no' rfl rfl rfl rfl ?_)
        refine OW.cons (OP.no' rfl rfl rfl rfl ?_)
        refine OW.cons (OP.no' rfl rfl rfl rfl ?_)
        refine OW.cons (OP.val (v := (.bool true)) rfl (x_pickT' rfl rfl rfl) ?_)
        refine OW.nil ?_
        exact ⟨true, hm, ⟨rfl, rfl, rfl, rfl, rfl, hL⟩⟩
      · refine OW.cons (OP.yes' rfl rfl hb49 (OP.val (v := (.int .i64 a2)) rfl (x_move) ?_))
        refine OW.cons (OP.yes' rfl rfl hb49 (OP.val (v := (.pointer (some ⟨b6, 0, none⟩))) rfl (x_fieldAddr (fsz := 1) 0 0 0 Try.underlying29 rfl Try_T2 rfl rfl rfl) ?_))
        refine OW.cons (OP.yes' rfl rfl hb49 (OP.val (v := (.int .i64 a0.Boats)) rfl (x_load1 Try.underlying2 rfl rfl (hL.cellB 0 rfl rfl)) ?_))
        refine OW.cons (OP.yes' rfl rfl hb49 (OP.val (v := (.int .i64 (w64 (a0.Boats - 1)))) rfl (x_sub rfl rfl) ?_))
        obtain ⟨x50, hx51, hm⟩ := bndE hm
        refine OW.cons (OP.yes' rfl rfl hb49 (OP.call rfl (x_call (vs := [(.int .i64 a2), (.int .i64 0), (.int .i64 (w64 (a0.Boats - 1)))]) Try_C51 ⟨rfl, rfl, rfl, trivial⟩) (M.impl_within_ok _ a2 0 (w64 (a0.Boats - 1)) hx51) ?_))
        rintro e52 wd53 ⟨rfl, hF54⟩
        refine ⟨_, rfl, ?_⟩
        have hL := hL.pushAll hF54
        simp only [List.cons_append, List.nil_append, List.set_cons_zero, List.set_cons_succ] at hL
        refine OW.cons (OP.yes' rfl rfl hb49 (OP.val (v := (.bool (!x50))) rfl (x_not rfl) ?_))
        refine OW.cons (OP.val (v := (.bool (!x50))) rfl (x_pickF' rfl hb49 rfl) ?_)
        refine OW.cons (OP.val (v := (.bool (!x50))) rfl (x_move) ?_)
        refine ifB_elim hm (fun hb55 hm => ?_) (fun hb55 hm => ?_)
        · refine OW.cons (OP.no' rfl rfl hb55 rfl ?_)
          refine OW.cons (OP.no' rfl rfl hb55 rfl ?_)
          refine OW.cons (OP.no' rfl rfl hb55 rfl ?_)
          refine OW.cons (OP.val (v := (.bool true)) rfl (x_pickT' rfl hb55 rfl) ?_)
          refine OW.nil ?_
          exact ⟨true, hm, ⟨rfl, rfl, rfl, rfl, rfl, hL⟩⟩
        · refine OW.cons (OP.yes' rfl rfl hb55 (OP.val (v := (.int .i64 a3)) rfl (x_move) ?_))
          obtain ⟨x56, hx57, hm⟩ := bndE hm
          refine OW.cons (OP.yes' rfl rfl hb55 (OP.call rfl (x_call (vs := [(.int .i64 a3), (.int .i64 1), (.int .i64 2)]) Try_C51 ⟨rfl, rfl, rfl, trivial⟩) (M.impl_within_ok _ a3 1 2 hx57) ?_))
          rintro e58 wd59 ⟨rfl, hF60⟩
          refine ⟨_, rfl, ?_⟩
          have hL := hL.pushAll hF60
          simp only [List.cons_append, List.nil_append, List.set_cons_zero, List.set_cons_succ] at hL
          refine OW.cons (OP.yes' rfl rfl hb55 (OP.val (v := (.bool (!x56))) rfl (x_not rfl) ?_))
          refine OW.cons (OP.val (v := (.bool (!x56))) rfl (x_pickF' rfl hb55 rfl) ?_)
          refine OW.nil ?_
          exact ⟨!x56, hm, ⟨rfl, rfl, rfl, rfl, rfl, hL⟩⟩
    · intro s_j1 F30 wd31 hJ hm
      unfold M.impl_AveragePoints_j1 at hm
      obtain ⟨f32, f33, f34, f35, f36, hL⟩ := hJ
      refine CW.condM (t := s_j1) f36 hm (fun hb37 hm => ?_) (fun hb37 hm => ?_)
      · refine CW.seq ?_
        refine CW.regionL ?_
        refine OW.cons (OP.val (v := (.int .i64 0)) rfl (x_assign) ?_)
        refine OW.cons (OP.val (v := (.int .i64 2)) rfl (x_assign) ?_)
        refine OW.nil ?_
        refine CW.ret ?_
        obtain rfl := Option.some.inj hm
        exact RR2 rfl rfl rfl ⟨rfl, hL.fresh 1 rfl [] (by decide) (by decide) rfl⟩
      · refine CW.skip ?_
        refine CW.seq ?_
        refine CW.regionL ?_
        refine OW.cons (OP.val (v := (.agg #[(.int .i64 a0.Boats), v1, v3])) rfl (x_loadN (cs := [(.int .i64 a0.Boats), v1, v3]) Try.underlying29 Try_T29 rfl f35 (hL.cellsB 0 rfl (o := 0) (l := [(.int .i64 a0.Boats), v1, v3]) (by intro j u hj; exact (by simpa using hj)))) ?_)
        refine OW.cons (OP.val (v := (.int .i64 a1)) rfl (x_mv f32) ?_)
        refine OW.cons (OP.val (v := (.int .i64 a2)) rfl (x_mv f33) ?_)
        refine OW.cons (OP.val (v := (.int .i64 a3)) rfl (x_mv f34) ?_)
        obtain ⟨x38, hx39, hm⟩ := bndE hm
        refine OW.cons (OP.call rfl (x_call (vs := [(.agg #[(.int .i64 a0.Boats), v1, v3]), (.int .i64 a1), (.int .i64 a2), (.int .i64 a3)]) Try_C52 ⟨rfl, rfl, rfl, rfl, trivial⟩) (M.impl_averagePoints_ok _ a0 (hL.rdS 1 rfl h2) (hL.rdS 1 rfl h4) a1 a2 a3 hx39) ?_)
        rintro e40 wd41 ⟨rfl, hF42⟩
        refine ⟨_, rfl, ?_⟩
        have hL := hL.pushAll hF42
        simp only [List.cons_append, List.nil_append, List.set_cons_zero, List.set_cons_succ] at hL
        refine OW.cons (OP.val (v := (.tuple #[(.int .i64 x38.1), (.bool x38.2)])) rfl (x_move) ?_)
        refine OW.cons (OP.val (v := (.int .i64 x38.1)) rfl (x_extract rfl rfl) ?_)
        refine OW.cons (OP.val (v := (.bool x38.2)) rfl (x_extract rfl rfl) ?_)
        refine OW.cons (OP.val (v := (.int .i64 x38.1)) rfl (x_assign) ?_)
        refine OW.cons (OP.val (v := (.bool x38.2)) rfl (x_assign) ?_)
        refine OW.nil ?_
        refine CW.seq ?_
        refine CW.seq ?_
        refine CW.regionL ?_
        refine OW.cons (OP.val (v := (.bool x38.2)) rfl (x_move) ?_)
        refine OW.cons (OP.val (v := (.bool (!x38.2))) rfl (x_not rfl) ?_)
        refine OW.nil ?_
        refine CW.condM (t := !x38.2) rfl hm (fun hb43 hm => ?_) (fun hb43 hm => ?_)
        · refine CW.seq ?_
          refine CW.regionL ?_
          refine OW.cons (OP.val (v := (.int .i64 0)) rfl (x_assign) ?_)
          refine OW.cons (OP.val (v := (.int .i64 4)) rfl (x_assign) ?_)
          refine OW.nil ?_
          refine CW.ret ?_
          obtain rfl := Option.some.inj hm
          exact RR2 rfl rfl rfl ⟨rfl, hL.fresh 1 rfl [] (by decide) (by decide) rfl⟩
        · refine CW.skip ?_
          refine CW.seq ?_
          refine CW.regionL ?_
          refine OW.cons (OP.val (v := (.int .i64 x38.1)) rfl (x_move) ?_)
          refine OW.cons (OP.val (v := (.int .i64 x38.1)) rfl (x_assign) ?_)
          refine OW.cons (OP.val (v := (.int .i64 0)) rfl (x_assign) ?_)
          refine OW.nil ?_
          refine CW.ret ?_
          obtain rfl := Option.some.inj hm
          exact RR2 rfl rfl rfl ⟨rfl, hL.fresh 1 rfl [] (by decide) (by decide) rfl⟩

theorem M.laws_FnExactAveragePoints_ok (w0 : World) (a0 : Table) {v1 : Value} {v3 : Value} (h2 : rdL (· < w0.heap.size) w0 v1 a0.Points) (h4 : rdL (· < w0.heap.size) w0 v3 a0.Codes) (a1 : Int) (a2 : Int) (a3 : Int) {r : Bool} (hm : M.laws_FnExactAveragePoints a0 a1 a2 a3 = some r) :
    Calls Try.prog 9 #[(.agg #[(.int .i64 a0.Boats), v1, v3]), (.int .i64 a1), (.int .i64 a2), (.int .i64 a3)] w0 fun e w' => e = .returned (.bool r) ∧ Fresh w0 w' [] := by
  unfold M.laws_FnExactAveragePoints at hm
  refine calls_CW (args := [(.agg #[(.int .i64 a0.Boats), v1, v3]), (.int .i64 a1), (.int .i64 a2), (.int .i64 a3)]) Try.func9 rfl rfl rfl ?_
  have hL := Hp.start w0
  refine CW.seq ?_
  refine CW.regionL ?_
  refine OW.cons (S_box (cs := #[(.int .i64 a0.Boats), v1, v3]) hL rfl rfl rfl ?_)
  intro wd5 b6 hL
  refine OW.cons (OP.val (v := (.bool false)) rfl (x_assign) ?_)
  refine OW.nil ?_
  refine CW.seq ?_
  refine CW.regionL ?_
  refine OW.cons (OP.val (v := (.int .i64 1048576)) rfl (x_assign) ?_)
  refine OW.nil ?_
  refine CW.seq ?_
  refine CW.regionL ?_
  refine OW.cons (OP.val (v := (.agg #[(.int .i64 a0.Boats), v1, v3])) rfl (x_loadN (cs := [(.int .i64 a0.Boats), v1, v3]) Try.underlying24 Try_T24 rfl rfl (hL.cellsB 0 rfl (o := 0) (l := [(.int .i64 a0.Boats), v1, v3]) (by intro j u hj; exact (by simpa using hj)))) ?_)
  refine OW.cons (OP.val (v := (.int .i64 1048576)) rfl (x_move) ?_)
  obtain ⟨x7, hx8, hm⟩ := bndE hm
  refine OW.cons (OP.call rfl (x_call (vs := [(.agg #[(.int .i64 a0.Boats), v1, v3]), (.int .i64 1048576)]) Try_C10 ⟨rfl, rfl, trivial⟩) (M.laws_szTable_ok _ a0 (hL.rdS 1 rfl h2) (hL.rdS 1 rfl h4) 1048576 hx8) ?_)
  rintro e9 wd10 ⟨rfl, hF11⟩
  refine ⟨_, rfl, ?_⟩
  have hL := hL.pushAll hF11
  simp only [List.cons_append, List.nil_append, List.set_cons_zero, List.set_cons_succ] at hL
  refine OW.cons (OP.val (v := (.int .i64 x7)) rfl (x_assign) ?_)
  refine OW.nil ?_
  refine CW.seq ?_
  refine CW.seq ?_
  refine CW.regionL ?_
  refine OW.cons (OP.val (v := (.int .i64 x7)) rfl (x_move) ?_)
  refine OW.cons (OP.val (v := (.bool (decide (x7 < 0)))) rfl (x_lss rfl rfl) ?_)
  refine OW.nil ?_
  refine CW.condM (t := decide (x7 < 0)) rfl hm (fun hb12 hm => ?_) (fun hb12 hm => ?_)
  · refine CW.seq ?_
    refine CW.regionL ?_
    refine OW.cons (OP.val (v := (.bool true)) rfl (x_assign) ?_)
    refine OW.nil ?_
    refine CW.ret ?_
    obtain rfl := Option.some.inj hm
    exact RR1 rfl rfl ⟨rfl, hL.fresh 1 rfl [] (by decide) (by decide) rfl⟩
  · refine CW.skip ?_
    refine CW.seq ?_
    refine CW.regionL ?_
    refine OW.cons (OP.val (v := (.agg #[(.int .i64 a0.Boats), v1, v3])) rfl (x_loadN (cs := [(.int .i64 a0.Boats), v1, v3]) Try.underlying24 Try_T24 rfl rfl (hL.cellsB 0 rfl (o := 0) (l := [(.int .i64 a0.Boats), v1, v3]) (by intro j u hj; exact (by simpa using hj)))) ?_)
    obtain ⟨x13, hx14, hm⟩ := bndE hm
    refine OW.cons (OP.call rfl (x_call (vs := [(.agg #[(.int .i64 a0.Boats), v1, v3])]) Try_C12 ⟨rfl, trivial⟩) (M.laws_toTable_ok _ a0 (hL.rdS 1 rfl h2) (hL.rdS 1 rfl h4) hx14) ?_)
    rintro e19 wd20 ⟨v16, S15, v18, S17, rfl, hF21⟩
    refine ⟨_, rfl, ?_⟩
    have hL := hL.pushAll hF21
    simp only [List.cons_append, List.nil_append, List.set_cons_zero, List.set_cons_succ] at hL
    refine OW.cons (OP.val (v := (.int .i64 a1)) rfl (x_move) ?_)
    refine OW.cons (OP.val (v := (.int .i64 a2)) rfl (x_move) ?_)
    refine OW.cons (OP.val (v := (.int .i64 a3)) rfl (x_move) ?_)
    obtain ⟨x22, hx23, hm⟩ := bndE hm
    refine OW.cons (OP.call rfl (x_call (vs := [(.agg #[(.int .i64 x13.Boats), v16, v18]), (.int .i64 a1), (.int .i64 a2), (.int .i64 a3)]) Try_C30 ⟨rfl, rfl, rfl, rfl, trivial⟩) (M.spec_AveragePoints_ok _ x13 (hL.rdO 0 rfl) (hL.rdO 1 rfl) a1 a2 a3 hx23) ?_)
    rintro e24 wd25 ⟨rfl, hF26⟩
    refine ⟨_, rfl, ?_⟩
    have hL := hL.pushAll hF26
    simp only [List.cons_append, List.nil_append, List.set_cons_zero, List.set_cons_succ] at hL
    refine OW.cons (OP.val (v := (.tuple #[(.int .i64 x22.1), (.int .i64 x22.2)])) rfl (x_move) ?_)
    refine OW.cons (OP.val (v := (.int .i64 x22.1)) rfl (x_extract rfl rfl) ?_)
    refine OW.cons (OP.val (v := (.int .i64 x22.2)) rfl (x_extract rfl rfl) ?_)
    refine OW.cons (OP.val (v := (.int .i64 x22.1)) rfl (x_assign) ?_)
    refine OW.cons (OP.val (v := (.int .i64 x22.2)) rfl (x_assign) ?_)
    refine OW.nil ?_
    refine CW.seq ?_
    refine CW.regionL ?_
    refine OW.cons (OP.val (v := (.agg #[(.int .i64 a0.Boats), v1, v3])) rfl (x_loadN (cs := [(.int .i64 a0.Boats), v1, v3]) Try.underlying24 Try_T24 rfl rfl (hL.cellsB 2 rfl (o := 0) (l := [(.int .i64 a0.Boats), v1, v3]) (by intro j u hj; exact (by simpa using hj)))) ?_)
    obtain ⟨x27, hx28, hm⟩ := bndE hm
    refine OW.cons (OP.call rfl (x_call (vs := [(.agg #[(.int .i64 a0.Boats), v1, v3])]) Try_C12 ⟨rfl, trivial⟩) (M.laws_toTable_ok _ a0 (hL.rdS 3 rfl h2) (hL.rdS 3 rfl h4) hx28) ?_)
    rintro e33 wd34 ⟨v30, S29, v32, S31, rfl, hF35⟩
    refine ⟨_, rfl, ?_⟩
    have hL := hL.pushAll hF35
    simp only [List.cons_append, List.nil_append, List.set_cons_zero, List.set_cons_succ] at hL
    refine OW.cons (S_alloc (cs := #[(.int .i64 0), (.slice none 0 0), (.slice none 0 0)]) hL Try_T29 rfl rfl ?_)
    intro wd36 b37 hL
    refine OW.cons (S_storeN (l := [(.int .i64 x27.Boats), v30, v32]) (cs' := #[(.int .i64 x27.Boats), v30, v32]) hL 0 rfl Try_T29 rfl rfl (List.forall_mem_cons.2 ⟨rfl, (List.forall_mem_cons.2 ⟨rdL_one (hL.rdO 1 rfl), (List.forall_mem_cons.2 ⟨rdL_one (hL.rdO 2 rfl), (fun _ h => by cases h)⟩)⟩)⟩) rfl (Nat.le_of_ble_eq_true rfl) rfl ?_)
    intro wd38 hL
    refine OW.nil ?_
    refine CW.seq ?_
    refine CW.regionL ?_
    refine OW.cons (OP.val (v := (.agg #[(.int .i64 x27.Boats), v30, v32])) rfl (x_loadN (cs := [(.int .i64 x27.Boats), v30, v32]) Try.underlying29 Try_T29 rfl rfl (hL.cellsB 0 rfl (o := 0) (l := [(.int .i64 x27.Boats), v30, v32]) (by intro j u hj; exact (by simpa using hj)))) ?_)
    refine OW.cons (OP.val (v := (.int .i64 a1)) rfl (x_move) ?_)
    refine OW.cons (OP.val (v := (.int .i64 a2)) rfl (x_move) ?_)
    refine OW.cons (OP.val (v := (.int .i64 a3)) rfl (x_move) ?_)
    obtain ⟨x39, hx40, hm⟩ := bndE hm
    refine OW.cons (OP.call rfl (x_call (vs := [(.agg #[(.int .i64 x27.Boats), v30, v32]), (.int .i64 a1), (.int .i64 a2), (.int .i64 a3)]) Try_C31 ⟨rfl, rfl, rfl, rfl, trivial⟩) (M.impl_AveragePoints_ok _ x27 (hL.rdO 1 rfl) (hL.rdO 2 rfl) a1 a2 a3 hx40) ?_)
    rintro e41 wd42 ⟨rfl, hF43⟩
    refine ⟨_, rfl, ?_⟩
    have hL := hL.pushAll hF43
    simp only [List.cons_append, List.nil_append, List.set_cons_zero, List.set_cons_succ] at hL
    refine OW.cons (OP.val (v := (.tuple #[(.int .i64 x39.1), (.int .i64 x39.2)])) rfl (x_move) ?_)
    refine OW.cons (OP.val (v := (.int .i64 x39.1)) rfl (x_extract rfl rfl) ?_)
    refine OW.cons (OP.val (v := (.int .i64 x39.2)) rfl (x_extract rfl rfl) ?_)
    refine OW.cons (OP.val (v := (.int .i64 x39.1)) rfl (x_assign) ?_)
    refine OW.cons (OP.val (v := (.int .i64 x39.2)) rfl (x_assign) ?_)
    refine OW.nil ?_
    refine CW.seq ?_
    refine CW.seqJ (fun (s_j1 : Bool) (F : Fr) (w : World) => F 4 = (.pointer (some ⟨b6, 0, none⟩)) ∧ F 12 = (.pointer (some ⟨b37, 0, none⟩)) ∧ F 46 = (.bool s_j1) ∧ Hp w0 [Ent.blk b37 29 #[(.int .i64 x27.Boats), v30, v32], Ent.own 25 S29 v30 x27.Points, Ent.own 25 S31 v32 x27.Codes, Ent.blk b6 24 #[(.int .i64 a0.Boats), v1, v3], Ent.snap w0 w0.heap.size] w) (fun s_j1 => M.laws_FnExactAveragePoints_j1 a0 x27 s_j1 = some r) ?_ ?_
    · refine CW.regionL ?_
      refine OW.cons (OP.val (v := (.int .i64 x39.1)) rfl (x_move) ?_)
      refine OW.cons (OP.val (v := (.int .i64 x22.1)) rfl (x_move) ?_)
      refine OW.cons (OP.val (v := (.bool (x39.1 != x22.1))) rfl (x_neq rfl rfl) ?_)
      refine OW.cons (OP.val (v := (.bool (x39.1 != x22.1))) rfl (x_move) ?_)
      refine ifB_elim hm (fun hb80 hm => ?_) (fun hb80 hm => ?_)
      · refine OW.cons (OP.no' rfl rfl hb80 rfl ?_)
        refine OW.cons (OP.no' rfl rfl hb80 rfl ?_)
        refine OW.cons (OP.no' rfl rfl hb80 rfl ?_)
        refine OW.cons (OP.val (v := (.bool true)) rfl (x_pickT' rfl hb80 rfl) ?_)
        refine OW.nil ?_
        have hL := hL.sel [0, 1, 2, 5, 6] (by decide) rfl
        exact ⟨true, hm, ⟨rfl, rfl, rfl, hL⟩⟩
      · refine OW.cons (OP.yes' rfl rfl hb80 (OP.val (v := (.int .i64 x39.2)) rfl (x_move) ?_))
        refine OW.cons (OP.yes' rfl rfl hb80 (OP.val (v := (.int .i64 x22.2)) rfl (x_move) ?_))
        refine OW.cons (OP.yes' rfl rfl hb80 (OP.val (v := (.bool (x39.2 != x22.2))) rfl (x_neq rfl rfl) ?_))
        refine OW.cons (OP.val (v := (.bool (x39.2 != x22.2))) rfl (x_pickF' rfl hb80 rfl) ?_)
        refine OW.nil ?_
        have hL := hL.sel [0, 1, 2, 5, 6] (by decide) rfl
        exact ⟨x39.2 != x22.2, hm, ⟨rfl, rfl, rfl, hL⟩⟩
    · intro s_j1 F45 wd46 hJ hm
      unfold M.laws_FnExactAveragePoints_j1 at hm
      obtain ⟨f47, f48, f49, hL⟩ := hJ
      refine CW.condM (t := s_j1) f49 hm (fun hb50 hm => ?_) (fun hb50 hm => ?_)
      · refine CW.seq ?_
        refine CW.regionL ?_
        refine OW.cons (OP.val (v := (.bool false)) rfl (x_assign) ?_)
        refine OW.nil ?_
        refine CW.ret ?_
        obtain rfl := Option.some.inj hm
        exact RR1 rfl rfl ⟨rfl, hL.fresh 4 rfl [] (by decide) (by decide) rfl⟩
      · refine CW.skip ?_
        refine CW.seq ?_
        refine CW.seq ?_
        refine CW.drawH (fun w' => Hp w0 [Ent.blk b37 29 #[(.int .i64 x27.Boats), v30, v32], Ent.own 25 S29 v30 x27.Points, Ent.own 25 S31 v32 x27.Codes, Ent.blk b6 24 #[(.int .i64 a0.Boats), v1, v3], Ent.snap w0 w0.heap.size] w') Try_mixed ?_
        have hL := hL.call (Mod.drew _)
        have hS := (hL.sel [0, 1, 2, 3, 4] (by decide) rfl)
        refine DH.take 0 rfl (by kernel_rfl) (by kernel_rfl) (by kernel_rfl) rfl rfl hS (YH.val (v := (.agg #[(.int .i64 x27.Boats), v30, v32])) (fun w' hS' => x_loadN (cs := [(.int .i64 x27.Boats), v30, v32]) Try.underlying29 Try_T29 rfl f48 (hS'.cellsB 0 rfl (o := 0) (l := [(.int .i64 x27.Boats), v30, v32]) (by intro j u hj; exact (by simpa using hj))))) ?_
        have hS := (hL.sel [0, 1, 2, 3, 4] (by decide) rfl)
        refine DH.take 1 rfl (by kernel_rfl) (by kernel_rfl) (by kernel_rfl) rfl rfl hS (YH.val (v := (.agg #[(.int .i64 a0.Boats), v1, v3])) (fun w' hS' => x_loadN (cs := [(.int .i64 a0.Boats), v1, v3]) Try.underlying24 Try_T24 rfl f47 (hS'.cellsB 3 rfl (o := 0) (l := [(.int .i64 a0.Boats), v1, v3]) (by intro j u hj; exact (by simpa using hj))))) ?_
        obtain ⟨x65, hx66, hm⟩ := bndE hm
        refine DH.only 2 rfl (by kernel_rfl) (OP.call rfl (x_call (vs := [(.agg #[(.int .i64 a0.Boats), v1, v3])]) Try_C12 ⟨rfl, trivial⟩) (M.laws_toTable_ok _ a0 (hL.rdS 4 rfl h2) (hL.rdS 4 rfl h4) hx66) ?_)
        rintro e71 wd72 ⟨v68, S67, v70, S69, rfl, hF73⟩
        refine ⟨_, rfl, ?_⟩
        have hL := hL.pushAll hF73
        simp only [List.cons_append, List.nil_append, List.set_cons_zero, List.set_cons_succ] at hL
        refine ⟨(hL.sel [2, 3, 4, 5, 6] (by decide) rfl), ?_⟩
        obtain ⟨x74, hx75, hm⟩ := bndE hm
        refine DH.only 3 rfl (by kernel_rfl) (OP.call rfl (x_call (vs := [(.agg #[(.int .i64 x27.Boats), v30, v32]), (.agg #[(.int .i64 x65.Boats), v68, v70])]) Try_C16 ⟨rfl, rfl, trivial⟩) (M.laws_eqTable_ok _ x27 (hL.rdO 3 rfl) (hL.rdO 4 rfl) x65 (hL.rdO 0 rfl) (hL.rdO 1 rfl) hx75) ?_)
        rintro e76 wd77 ⟨rfl, hF78⟩
        refine ⟨_, rfl, ?_⟩
        have hL := hL.pushAll hF78
        simp only [List.cons_append, List.nil_append, List.set_cons_zero, List.set_cons_succ] at hL
        refine ⟨(hL.sel [2, 3, 4, 5, 6] (by decide) rfl), ?_⟩
        have hS := (hL.sel [2, 3, 4, 5, 6] (by decide) rfl)
        refine DH.take 4 rfl (by kernel_rfl) (by kernel_rfl) (by kernel_rfl) rfl rfl hS (YH.val (v := (.bool (!x74))) (fun w' hS' => x_not rfl)) ?_
        refine DH.done (by kernel_rfl) ?_
        refine CW.condM (t := !x74) rfl hm (fun hb79 hm => ?_) (fun hb79 hm => ?_)
        · refine CW.seq ?_
          refine CW.regionL ?_
          refine OW.cons (OP.val (v := (.bool false)) rfl (x_assign) ?_)
          refine OW.nil ?_
          refine CW.ret ?_
          obtain rfl := Option.some.inj hm
          exact RR1 rfl rfl ⟨rfl, hL.fresh 6 rfl [] (by decide) (by decide) rfl⟩
        · refine CW.skip ?_
          refine CW.seq ?_
          refine CW.regionL ?_
          refine OW.cons (OP.val (v := (.bool true)) rfl (x_assign) ?_)
          refine OW.nil ?_
          refine CW.ret ?_
          obtain rfl := Option.some.inj hm
          exact RR1 rfl rfl ⟨rfl, hL.fresh 6 rfl [] (by decide) (by decide) rfl⟩

end Go.Proofs.Ytgpdnpnmkboaoaa
