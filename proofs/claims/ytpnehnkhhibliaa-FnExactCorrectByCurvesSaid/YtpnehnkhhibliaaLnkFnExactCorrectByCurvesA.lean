/- Links: each Go function returns what its model computes and leaves what was there. Printed by my generator. -/
import Derived.Test.YtpnehnkhhibliaaMod3
import Derived.Test.YtpnehnkhhibliaaBase6
import Derived.Test.YtpnehnkhhibliaaProg
import Derived.KernelRfl
namespace Go.Proofs.Ytpnehnkhhibliaa
set_option maxRecDepth 10000
open Go Go.RowKit Go.ChangeShapes Go.WideShapes
set_option linter.unusedVariables false
set_option linter.unusedSimpArgs false

theorem Try_mixed : Try.prog.follows .mixedOrders = true := by kernel_rfl
theorem Try_T2 : TyI Try.prog 2 1 8 (.int .i64 0) := by unfold TyI; kernel_rfl
theorem Try_T3 : TyI Try.prog 3 1 8 (.int .i64 0) := by unfold TyI; kernel_rfl
theorem Try_T5 : TyI Try.prog 5 1 1 (.int .u8 0) := by unfold TyI; kernel_rfl
theorem Try_T22 : TyI Try.prog 22 1 24 (.slice none 0 0) := by unfold TyI; kernel_rfl
theorem Try_T31 : TyI Try.prog 31 3 24 (.agg #[.int .i64 0, .int .i64 0, .int .i64 0]) := by unfold TyI; kernel_rfl
theorem Try_T34 : TyI Try.prog 34 1 24 (.slice none 0 0) := by unfold TyI; kernel_rfl
theorem Try_T46 : TyI Try.prog 46 1 24 (.slice none 0 0) := by unfold TyI; kernel_rfl
theorem Try_T62 : TyI Try.prog 62 2 16 (.agg #[.int .i64 0, .int .i64 0]) := by unfold TyI; kernel_rfl
theorem Try_T70 : TyI Try.prog 70 3 24 (.agg #[.int .i64 0, .int .i64 0, .int .i64 0]) := by unfold TyI; kernel_rfl
theorem Try_T75 : TyI Try.prog 75 2 16 (.agg #[.int .i64 0, .int .i64 0]) := by unfold TyI; kernel_rfl
theorem Try_B31 : BuildI Try.prog 31 [(0, 1), (1, 1), (2, 1)] #[.int .i64 0, .int .i64 0, .int .i64 0] := by unfold BuildI; kernel_rfl
theorem Try_B62 : BuildI Try.prog 62 [(0, 1), (1, 1)] #[.int .i64 0, .int .i64 0] := by unfold BuildI; kernel_rfl
theorem Try_B83 : BuildI Try.prog 83 [(0, 1), (1, 1), (2, 1)] #[.slice none 0 0, .int .i64 0, .int .i64 0] := by unfold BuildI; kernel_rfl
theorem Try_C6 : CallOK Try.prog 6 := ⟨_, _, Try.func6, rfl, by kernel_rfl⟩
theorem Try_C7 : CallOK Try.prog 7 := ⟨_, _, Try.func7, rfl, by kernel_rfl⟩
theorem Try_C8 : CallOK Try.prog 8 := ⟨_, _, Try.func8, rfl, by kernel_rfl⟩
theorem Try_C9 : CallOK Try.prog 9 := ⟨_, _, Try.func9, rfl, by kernel_rfl⟩
theorem Try_C10 : CallOK Try.prog 10 := ⟨_, _, Try.func10, rfl, by kernel_rfl⟩
theorem Try_C11 : CallOK Try.prog 11 := ⟨_, _, Try.func11, rfl, by kernel_rfl⟩
theorem Try_C12 : CallOK Try.prog 12 := ⟨_, _, Try.func12, rfl, by kernel_rfl⟩
theorem Try_C13 : CallOK Try.prog 13 := ⟨_, _, Try.func13, rfl, by kernel_rfl⟩
theorem Try_C14 : CallOK Try.prog 14 := ⟨_, _, Try.func14, rfl, by kernel_rfl⟩
theorem Try_C15 : CallOK Try.prog 15 := ⟨_, _, Try.func15, rfl, by kernel_rfl⟩
theorem Try_C16 : CallOK Try.prog 16 := ⟨_, _, Try.func16, rfl, by kernel_rfl⟩
theorem Try_C17 : CallOK Try.prog 17 := ⟨_, _, Try.func17, rfl, by kernel_rfl⟩
theorem Try_C18 : CallOK Try.prog 18 := ⟨_, _, Try.func18, rfl, by kernel_rfl⟩
theorem Try_C19 : CallOK Try.prog 19 := ⟨_, _, Try.func19, rfl, by kernel_rfl⟩
theorem Try_C20 : CallOK Try.prog 20 := ⟨_, _, Try.func20, rfl, by kernel_rfl⟩
theorem Try_C21 : CallOK Try.prog 21 := ⟨_, _, Try.func21, rfl, by kernel_rfl⟩
theorem Try_C22 : CallOK Try.prog 22 := ⟨_, _, Try.func22, rfl, by kernel_rfl⟩
theorem Try_C24 : CallOK Try.prog 24 := ⟨_, _, Try.func24, rfl, by kernel_rfl⟩
theorem Try_C25 : CallOK Try.prog 25 := ⟨_, _, Try.func25, rfl, by kernel_rfl⟩
theorem Try_C27 : CallOK Try.prog 27 := ⟨_, _, Try.func27, rfl, by kernel_rfl⟩
theorem Try_C28 : CallOK Try.prog 28 := ⟨_, _, Try.func28, rfl, by kernel_rfl⟩
theorem Try_C29 : CallOK Try.prog 29 := ⟨_, _, Try.func29, rfl, by kernel_rfl⟩
theorem Try_C30 : CallOK Try.prog 30 := ⟨_, _, Try.func30, rfl, by kernel_rfl⟩
theorem Try_C31 : CallOK Try.prog 31 := ⟨_, _, Try.func31, rfl, by kernel_rfl⟩
theorem Try_C32 : CallOK Try.prog 32 := ⟨_, _, Try.func32, rfl, by kernel_rfl⟩
theorem Try_C33 : CallOK Try.prog 33 := ⟨_, _, Try.func33, rfl, by kernel_rfl⟩
theorem Try_C34 : CallOK Try.prog 34 := ⟨_, _, Try.func34, rfl, by kernel_rfl⟩
theorem Try_C35 : CallOK Try.prog 35 := ⟨_, _, Try.func35, rfl, by kernel_rfl⟩
theorem Try_C36 : CallOK Try.prog 36 := ⟨_, _, Try.func36, rfl, by kernel_rfl⟩
theorem Try_C37 : CallOK Try.prog 37 := ⟨_, _, Try.func37, rfl, by kernel_rfl⟩
theorem Try_C38 : CallOK Try.prog 38 := ⟨_, _, Try.func38, rfl, by kernel_rfl⟩
theorem Try_C39 : CallOK Try.prog 39 := ⟨_, _, Try.func39, rfl, by kernel_rfl⟩
theorem Try_C40 : CallOK Try.prog 40 := ⟨_, _, Try.func40, rfl, by kernel_rfl⟩
theorem Try_C41 : CallOK Try.prog 41 := ⟨_, _, Try.func41, rfl, by kernel_rfl⟩
theorem Try_C42 : CallOK Try.prog 42 := ⟨_, _, Try.func42, rfl, by kernel_rfl⟩
theorem Try_C43 : CallOK Try.prog 43 := ⟨_, _, Try.func43, rfl, by kernel_rfl⟩
theorem Try_C44 : CallOK Try.prog 44 := ⟨_, _, Try.func44, rfl, by kernel_rfl⟩
theorem Try_C45 : CallOK Try.prog 45 := ⟨_, _, Try.func45, rfl, by kernel_rfl⟩
theorem Try_C46 : CallOK Try.prog 46 := ⟨_, _, Try.func46, rfl, by kernel_rfl⟩
theorem Try_C47 : CallOK Try.prog 47 := ⟨_, _, Try.func47, rfl, by kernel_rfl⟩
theorem Try_C48 : CallOK Try.prog 48 := ⟨_, _, Try.func48, rfl, by kernel_rfl⟩
theorem Try_C51 : CallOK Try.prog 51 := ⟨_, _, Try.func51, rfl, by kernel_rfl⟩
theorem Try_C53 : CallOK Try.prog 53 := ⟨_, _, Try.func53, rfl, by kernel_rfl⟩
theorem Try_C54 : CallOK Try.prog 54 := ⟨_, _, Try.func54, rfl, by kernel_rfl⟩
theorem Try_C55 : CallOK Try.prog 55 := ⟨_, _, Try.func55, rfl, by kernel_rfl⟩
theorem Try_C56 : CallOK Try.prog 56 := ⟨_, _, Try.func56, rfl, by kernel_rfl⟩
theorem Try_C57 : CallOK Try.prog 57 := ⟨_, _, Try.func57, rfl, by kernel_rfl⟩
theorem Try_C58 : CallOK Try.prog 58 := ⟨_, _, Try.func58, rfl, by kernel_rfl⟩
theorem Try_C59 : CallOK Try.prog 59 := ⟨_, _, Try.func59, rfl, by kernel_rfl⟩
theorem Try_C60 : CallOK Try.prog 60 := ⟨_, _, Try.func60, rfl, by kernel_rfl⟩
theorem Try_C61 : CallOK Try.prog 61 := ⟨_, _, Try.func61, rfl, by kernel_rfl⟩
theorem Try_C62 : CallOK Try.prog 62 := ⟨_, _, Try.func62, rfl, by kernel_rfl⟩
theorem Try_C65 : CallOK Try.prog 65 := ⟨_, _, Try.func65, rfl, by kernel_rfl⟩
theorem Try_C66 : CallOK Try.prog 66 := ⟨_, _, Try.func66, rfl, by kernel_rfl⟩
theorem Try_C67 : CallOK Try.prog 67 := ⟨_, _, Try.func67, rfl, by kernel_rfl⟩
theorem Try_C68 : CallOK Try.prog 68 := ⟨_, _, Try.func68, rfl, by kernel_rfl⟩
theorem Try_C69 : CallOK Try.prog 69 := ⟨_, _, Try.func69, rfl, by kernel_rfl⟩

theorem M.spec_l01In_ok (w0 : World) (a0 : Int) (a1 : Int) (a2 : Int) {r : Bool} (hm : M.spec_l01In a0 a1 a2 = some r) :
    Calls Try.prog 41 #[(.int .i64 a0), (.int .i64 a1), (.int .i64 a2)] w0 fun e w' => e = .returned (.bool r) ∧ Fresh w0 w' [] := by
  unfold M.spec_l01In at hm
  refine calls_CW (args := [(.int .i64 a0), (.int .i64 a1), (.int .i64 a2)]) Try.func41 rfl rfl rfl ?_
  have hL := Hp.start w0
  refine CW.seq ?_
  refine CW.regionL ?_
  refine OW.cons (OP.val (v := (.bool false)) rfl (x_assign) ?_)
  refine OW.nil ?_
  refine CW.seqJ (fun (s_j1 : Bool) (F : Fr) (w : World) => F 6 = (.bool s_j1) ∧ Hp w0 [Ent.snap w0 w0.heap.size] w) (fun s_j1 => M.spec_l01In_j1 s_j1 = some r) ?_ ?_
  · refine CW.regionL ?_
    refine OW.cons (OP.val (v := (.int .i64 a0)) rfl (x_move) ?_)
    refine OW.cons (OP.val (v := (.int .i64 a1)) rfl (x_move) ?_)
    refine OW.cons (OP.val (v := (.bool (decide (a1 ≤ a0)))) rfl (x_geq rfl rfl) ?_)
    refine OW.cons (OP.val (v := (.bool (decide (a1 ≤ a0)))) rfl (x_move) ?_)
    refine ifB_elim hm (fun hb5 hm => ?_) (fun hb5 hm => ?_)
    · refine OW.cons (OP.yes' rfl rfl hb5 (OP.val (v := (.int .i64 a0)) rfl (x_move) ?_))
      refine OW.cons (OP.yes' rfl rfl hb5 (OP.val (v := (.int .i64 a2)) rfl (x_move) ?_))
      refine OW.cons (OP.yes' rfl rfl hb5 (OP.val (v := (.bool (decide (a0 ≤ a2)))) rfl (x_leq rfl rfl) ?_))
      refine OW.cons (OP.val (v := (.bool (decide (a0 ≤ a2)))) rfl (x_pickT' rfl hb5 rfl) ?_)
      refine OW.cons (OP.val (v := (.bool (decide (a0 ≤ a2)))) rfl (x_assign) ?_)
      refine OW.nil ?_
      exact ⟨decide (a0 ≤ a2), hm, ⟨rfl, hL⟩⟩
    · refine OW.cons (OP.no' rfl rfl hb5 rfl ?_)
      refine OW.cons (OP.no' rfl rfl hb5 rfl ?_)
      refine OW.cons (OP.no' rfl rfl hb5 rfl ?_)
      refine OW.cons (OP.val (v := (.bool false)) rfl (x_pickF' rfl hb5 rfl) ?_)
      refine OW.cons (OP.val (v := (.bool false)) rfl (x_assign) ?_)
      refine OW.nil ?_
      exact ⟨false, hm, ⟨rfl, hL⟩⟩
  · intro s_j1 F2 wd3 hJ hm
    unfold M.spec_l01In_j1 at hm
    obtain ⟨f4, hL⟩ := hJ
    refine CW.ret ?_
    obtain rfl := Option.some.inj hm
    exact RR1 rfl f4 ⟨rfl, hL.fresh 0 rfl [] (by decide) (by decide) rfl⟩

theorem M.spec_IsCurve_ok (w0 : World) (a0 : List CurvePoint) {v1 : Value} (h2 : rdL (· < w0.heap.size) w0 v1 a0) {r : Bool} (hm : M.spec_IsCurve a0 = some r) :
    Calls Try.prog 31 #[v1] w0 fun e w' => e = .returned (.bool r) ∧ Fresh w0 w' [] := by
  unfold M.spec_IsCurve at hm
  refine calls_CW (args := [v1]) Try.func31 rfl rfl rfl ?_
  have hL := Hp.start w0
  refine CW.seq ?_
  refine CW.regionL ?_
  refine OW.cons (OP.val (v := (.bool false)) rfl (x_assign) ?_)
  refine OW.nil ?_
  refine CW.seq ?_
  refine CW.seqJ (fun (s_j1 : Bool) (F : Fr) (w : World) => F 0 = v1 ∧ F 11 = (.bool s_j1) ∧ Hp w0 [Ent.snap w0 w0.heap.size] w) (fun s_j1 => M.spec_IsCurve_j1 a0 s_j1 = some r) ?_ ?_
  · refine CW.regionL ?_
    refine OW.cons (OP.val (v := v1) rfl (x_move) ?_)
    refine OW.cons (OP.val (v := (.int .i64 (a0.length : Int))) rfl (x_lenR Try.underlying34 rfl (hL.rdS 0 rfl h2)) ?_)
    refine OW.cons (OP.val (v := (.bool (decide ((a0.length : Int) < 2)))) rfl (x_lss rfl rfl) ?_)
    refine OW.cons (OP.val (v := (.bool (decide ((a0.length : Int) < 2)))) rfl (x_move) ?_)
    refine ifB_elim hm (fun hb408 hm => ?_) (fun hb408 hm => ?_)
    · refine OW.cons (OP.no' rfl rfl hb408 rfl ?_)
      refine OW.cons (OP.no' rfl rfl hb408 rfl ?_)
      refine OW.cons (OP.no' rfl rfl hb408 rfl ?_)
      refine OW.cons (OP.val (v := (.bool true)) rfl (x_pickT' rfl hb408 rfl) ?_)
      refine OW.nil ?_
      exact ⟨true, hm, ⟨rfl, rfl, hL⟩⟩
    · refine OW.cons (OP.yes' rfl rfl hb408 (OP.val (v := v1) rfl (x_move) ?_))
      refine OW.cons (OP.yes' rfl rfl hb408 (OP.val (v := (.int .i64 (a0.length : Int))) rfl (x_lenR Try.underlying34 rfl (hL.rdS 0 rfl h2)) ?_))
      refine OW.cons (OP.yes' rfl rfl hb408 (OP.val (v := (.bool (decide (12 < (a0.length : Int))))) rfl (x_gtr rfl rfl) ?_))
      refine OW.cons (OP.val (v := (.bool (decide (12 < (a0.length : Int))))) rfl (x_pickF' rfl hb408 rfl) ?_)
      refine OW.nil ?_
      exact ⟨decide (12 < (a0.length : Int)), hm, ⟨rfl, rfl, hL⟩⟩
  · intro s_j1 F4 wd5 hJ hm
    unfold M.spec_IsCurve_j1 at hm
    obtain ⟨f6, f7, hL⟩ := hJ
    refine CW.condM (t := s_j1) f7 hm (fun hb8 hm => ?_) (fun hb8 hm => ?_)
    · refine CW.seq ?_
      refine CW.regionL ?_
      refine OW.cons (OP.val (v := (.bool false)) rfl (x_assign) ?_)
      refine OW.nil ?_
      refine CW.ret ?_
      obtain rfl := Option.some.inj hm
      exact RR1 rfl rfl ⟨rfl, hL.fresh 0 rfl [] (by decide) (by decide) rfl⟩
    · refine CW.skip ?_
      refine CW.seq ?_
      refine CW.seq ?_
      refine CW.regionL ?_
      refine OW.cons (OP.val (v := (.int .i64 0)) rfl (x_assign) ?_)
      refine OW.nil ?_
      obtain ⟨o269, ho270, hm⟩ := bndE hm
      refine CW.loopB (fun (s_l1 : Int) (F : Fr) (w : World) => F 0 = v1 ∧ F 3 = (.int .i64 s_l1) ∧ Hp w0 [Ent.snap w0 w0.heap.size] w) (fun o => outc o (fun x => some x) (fun s => M.spec_IsCurve_a1 s) = some r) ho270 hm ⟨f6, rfl, hL⟩ ?_ ?_
      · intro s_l1 F271 wd272 hJ hm
        have hm := outcE hm
        have hm : M.spec_IsCurve_a1 s_l1 = some r := hm
        unfold M.spec_IsCurve_a1 at hm
        obtain ⟨f273, f274, hL⟩ := hJ
        refine CW.seq ?_
        refine CW.regionL ?_
        refine OW.cons (OP.val (v := (.bool true)) rfl (x_assign) ?_)
        refine OW.nil ?_
        refine CW.ret ?_
        obtain rfl := Option.some.inj hm
        exact RR1 rfl rfl ⟨rfl, hL.fresh 0 rfl [] (by decide) (by decide) rfl⟩
      · intro s_l1 F275 wd276 t267 hJ hm hr268
        unfold M.spec_IsCurve_l1 at hm
        obtain ⟨f277, f278, hL⟩ := hJ
        refine CW.seq ?_
        refine CW.seq ?_
        refine CW.regionL ?_
        refine OW.cons (OP.val (v := (.int .i64 s_l1)) rfl (x_mv f278) ?_)
        refine OW.cons (OP.val (v := v1) rfl (x_mv f277) ?_)
        refine OW.cons (OP.val (v := (.int .i64 (a0.length : Int))) rfl (x_lenR Try.underlying34 rfl (hL.rdS 0 rfl h2)) ?_)
        refine OW.cons (OP.val (v := (.bool (decide (s_l1 < (a0.length : Int))))) rfl (x_lss rfl rfl) ?_)
        refine OW.nil ?_
        refine CW.condM (t := decide (s_l1 < (a0.length : Int))) rfl hm (fun hb279 hm => ?_) (fun hb279 hm => ?_)
        · refine CW.skip ?_
          refine CW.seq ?_
          refine CW.block ?_
          refine CW.seq ?_
          refine CW.seqJ (fun (s_j2 : Bool) (F : Fr) (w : World) => F 0 = v1 ∧ F 3 = (.int .i64 s_l1) ∧ F 33 = (.bool s_j2) ∧ Hp w0 [Ent.snap w0 w0.heap.size] w) (fun s_j2 => M.spec_IsCurve_j2 a0 s_l1 s_j2 = some t267) ?_ ?_
          · refine CW.regionL ?_
            refine OW.cons (OP.val (v := v1) rfl (x_mv f277) ?_)
            refine OW.cons (OP.val (v := (.int .i64 s_l1)) rfl (x_mv f278) ?_)
            obtain ⟨x383, ha384, hm⟩ := bndE hm
            obtain ⟨hz385, ha389⟩ := idxE ha384
            obtain ⟨b386, q387, hix388⟩ := rdL_ix (hL.rdS 0 rfl h2) hz385 ha389
            refine OW.cons (OP.val (v := (.pointer (some ⟨b386, q387, none⟩))) rfl (x_ix Try.underlying34 Try_T62 rfl rfl hix388) ?_)
            refine OW.cons (OP.val (v := (.pointer (some ⟨b386, q387, none⟩))) rfl (x_fieldAddr (fsz := 1) q387 0 q387 Try.underlying62 rfl Try_T2 rfl rfl rfl) ?_)
            refine OW.cons (OP.val (v := (.int .i64 x383.Wind)) rfl (x_load1 Try.underlying2 rfl rfl (rdF_cells (hL.rdS 0 rfl h2) hix388 ha389 0 _ rfl)) ?_)
            obtain ⟨x390, hx391, hm⟩ := bndE hm
            refine OW.cons (OP.call rfl (x_call (vs := [(.int .i64 x383.Wind), (.int .i64 0), (.int .i64 1000)]) Try_C41 ⟨rfl, rfl, rfl, trivial⟩) (M.spec_l01In_ok _ x383.Wind 0 1000 hx391) ?_)
            rintro e392 wd393 ⟨rfl, hF394⟩
            refine ⟨_, rfl, ?_⟩
            have hL := hL.pushAll hF394
            simp only [lA, lB, lC, lD] at hL
            refine OW.cons (OP.val (v := (.bool (!x390))) rfl (x_not rfl) ?_)
            refine OW.cons (OP.val (v := (.bool (!x390))) rfl (x_move) ?_)
            refine ifB_elim hm (fun hb395 hm => ?_) (fun hb395 hm => ?_)
            · refine OW.cons (OP.no' rfl rfl hb395 rfl ?_)
              refine OW.cons (OP.no' rfl rfl hb395 rfl ?_)
              refine OW.cons (OP.no' rfl rfl hb395 rfl ?_)
              refine OW.cons (OP.no' rfl rfl hb395 rfl ?_)
              refine OW.cons (OP.no' rfl rfl hb395 rfl ?_)
              refine OW.cons (OP.no' rfl rfl hb395 rfl ?_)
              refine OW.cons (OP.no' rfl rfl hb395 rfl ?_)
              refine OW.cons (OP.val (v := (.bool true)) rfl (x_pickT' rfl hb395 rfl) ?_)
              refine OW.nil ?_
              exact ⟨true, hm, ⟨f277, f278, rfl, hL⟩⟩
            · refine OW.cons (OP.yes' rfl rfl hb395 (OP.val (v := v1) rfl (x_mv f277) ?_))
              refine OW.cons (OP.yes' rfl rfl hb395 (OP.val (v := (.int .i64 s_l1)) rfl (x_mv f278) ?_))
              obtain ⟨x396, ha397, hm⟩ := bndE hm
              obtain ⟨hz398, ha402⟩ := idxE ha397
              obtain ⟨b399, q400, hix401⟩ := rdL_ix (hL.rdS 0 rfl h2) hz398 ha402
              refine OW.cons (OP.yes' rfl rfl hb395 (OP.val (v := (.pointer (some ⟨b399, q400, none⟩))) rfl (x_ix Try.underlying34 Try_T62 rfl rfl hix401) ?_))
              refine OW.cons (OP.yes' rfl rfl hb395 (OP.val (v := (.pointer (some ⟨b399, q400 + 1, none⟩))) rfl (x_fieldAddr (fsz := 1) q400 1 (q400 + 1) Try.underlying62 rfl Try_T2 rfl rfl rfl) ?_))
              refine OW.cons (OP.yes' rfl rfl hb395 (OP.val (v := (.int .i64 x396.Pace)) rfl (x_load1 Try.underlying2 rfl rfl (rdF_cells (hL.rdS 0 rfl h2) hix401 ha402 1 _ rfl)) ?_))
              obtain ⟨x403, hx404, hm⟩ := bndE hm
              refine OW.cons (OP.yes' rfl rfl hb395 (OP.call rfl (x_call (vs := [(.int .i64 x396.Pace), (.int .i64 1), (.int .i64 1000000)]) Try_C41 ⟨rfl, rfl, rfl, trivial⟩) (M.spec_l01In_ok _ x396.Pace 1 1000000 hx404) ?_))
              rintro e405 wd406 ⟨rfl, hF407⟩
              refine ⟨_, rfl, ?_⟩
              have hL := hL.pushAll hF407
              simp only [lA, lB, lC, lD] at hL
              refine OW.cons (OP.yes' rfl rfl hb395 (OP.val (v := (.bool (!x403))) rfl (x_not rfl) ?_))
              refine OW.cons (OP.val (v := (.bool (!x403))) rfl (x_pickF' rfl hb395 rfl) ?_)
              refine OW.nil ?_
              exact ⟨!x403, hm, ⟨f277, f278, rfl, hL⟩⟩
          · intro s_j2 F305 wd306 hJ hm
            unfold M.spec_IsCurve_j2 at hm
            obtain ⟨f307, f308, f309, hL⟩ := hJ
            refine CW.condM (t := s_j2) f309 hm (fun hb310 hm => ?_) (fun hb310 hm => ?_)
            · refine CW.seq ?_
              refine CW.regionL ?_
              refine OW.cons (OP.val (v := (.bool false)) rfl (x_assign) ?_)
              refine OW.nil ?_
              refine CW.ret ?_
              obtain rfl := Option.some.inj hm
              have hm := hr268 _ rfl
              obtain rfl := Option.some.inj hm
              exact RR1 rfl rfl ⟨rfl, hL.fresh 0 rfl [] (by decide) (by decide) rfl⟩
            · refine CW.skip ?_
              refine CW.seqJ (fun (s_j3 : Bool) (F : Fr) (w : World) => F 0 = v1 ∧ F 3 = (.int .i64 s_l1) ∧ F 63 = (.bool s_j3) ∧ Hp w0 [Ent.snap w0 w0.heap.size] w) (fun s_j3 => M.spec_IsCurve_j3 s_l1 s_j3 = some t267) ?_ ?_
              · refine CW.draw Try_mixed ?_
                have hL := hL.call (Mod.drew _)
                refine DW.pre (fuel := 0) (fin := (((((((((((((((((((((((((((((((Array.replicate 30 false).setIfInBounds 0 true).setIfInBounds 1 true).setIfInBounds 2 true).setIfInBounds 3 true).setIfInBounds 4 true).setIfInBounds 5 true).setIfInBounds 6 true).setIfInBounds 7 true).setIfInBounds 8 true).setIfInBounds 9 true).setIfInBounds 10 true).setIfInBounds 11 true).setIfInBounds 12 true).setIfInBounds 13 true).setIfInBounds 14 true).setIfInBounds 15 true).setIfInBounds 16 true).setIfInBounds 17 true).setIfInBounds 18 true).setIfInBounds 19 true).setIfInBounds 20 true).setIfInBounds 21 true).setIfInBounds 22 true).setIfInBounds 23 true).setIfInBounds 24 true).setIfInBounds 25 true).setIfInBounds 26 true).setIfInBounds 27 true).setIfInBounds 28 true).setIfInBounds 29 true)) (C := fun w' => Mod None_ _ w') [0, 1, 2, 3, 4, 5, 6, 7, 8, 9, 10, 11, 12, 13, 14, 15, 16, 17, 18, 19, 20, 21, 22, 23, 24, 25, 26, 27, 28, 29] (Mod.refl _ _) (by kernel_rfl) (by kernel_rfl) ?_
                refine QW.cons rfl (QP.val (v := (.int .i64 s_l1)) rfl (fun w' hm' => x_mv f308) ?_)
                refine QW.cons rfl (QP.val (v := (.bool (decide (0 < s_l1)))) rfl (fun w' hm' => x_gtr rfl rfl) ?_)
                refine QW.cons rfl (QP.val (v := (.bool (decide (0 < s_l1)))) rfl (fun w' hm' => x_move) ?_)
                refine ifB_elim hm (fun hb350 hm => ?_) (fun hb350 hm => ?_)
                · refine QW.cons rfl (QP.yes' rfl rfl hb350 (QP.val (v := v1) rfl (fun w' hm' => x_mv f307) ?_))
                  refine QW.cons rfl (QP.yes' rfl rfl hb350 (QP.val (v := (.int .i64 s_l1)) rfl (fun w' hm' => x_mv f308) ?_))
                  obtain ⟨x351, ha352, hm⟩ := bndE hm
                  obtain ⟨hz353, ha357⟩ := idxE ha352
                  obtain ⟨b354, q355, hix356⟩ := rdL_ix (hL.rdS 0 rfl h2) hz353 ha357
                  refine QW.cons rfl (QP.yes' rfl rfl hb350 (QP.val (v := (.pointer (some ⟨b354, q355, none⟩))) rfl (fun w' hm' => x_ix Try.underlying34 Try_T62 rfl rfl hix356) ?_))
                  refine QW.cons rfl (QP.yes' rfl rfl hb350 (QP.val (v := (.pointer (some ⟨b354, q355, none⟩))) rfl (fun w' hm' => x_fieldAddr (fsz := 1) q355 0 q355 Try.underlying62 rfl Try_T2 rfl rfl rfl) ?_))
                  refine QW.cons rfl (QP.yes' rfl rfl hb350 (QP.val (v := (.int .i64 x351.Wind)) rfl (fun w' hm' => x_load1 Try.underlying2 rfl rfl (rdF_cells ((hL.call hm').rdS 0 rfl h2) hix356 ha357 0 _ rfl)) ?_))
                  refine QW.cons rfl (QP.yes' rfl rfl hb350 (QP.val (v := v1) rfl (fun w' hm' => x_mv f307) ?_))
                  refine QW.cons rfl (QP.yes' rfl rfl hb350 (QP.val (v := (.int .i64 s_l1)) rfl (fun w' hm' => x_mv f308) ?_))
                  refine QW.cons rfl (QP.yes' rfl rfl hb350 (QP.val (v := (.int .i64 (w64 (s_l1 - 1)))) rfl (fun w' hm' => x_sub rfl rfl) ?_))
                  obtain ⟨x358, ha359, hm⟩ := bndE hm
                  obtain ⟨hz360, ha364⟩ := idxE ha359
                  obtain ⟨b361, q362, hix363⟩ := rdL_ix (hL.rdS 0 rfl h2) hz360 ha364
                  refine QW.cons rfl (QP.yes' rfl rfl hb350 (QP.val (v := (.pointer (some ⟨b361, q362, none⟩))) rfl (fun w' hm' => x_ix Try.underlying34 Try_T62 rfl rfl hix363) ?_))
                  refine QW.cons rfl (QP.yes' rfl rfl hb350 (QP.val (v := (.pointer (some ⟨b361, q362, none⟩))) rfl (fun w' hm' => x_fieldAddr (fsz := 1) q362 0 q362 Try.underlying62 rfl Try_T2 rfl rfl rfl) ?_))
                  refine QW.cons rfl (QP.yes' rfl rfl hb350 (QP.val (v := (.int .i64 x358.Wind)) rfl (fun w' hm' => x_load1 Try.underlying2 rfl rfl (rdF_cells ((hL.call hm').rdS 0 rfl h2) hix363 ha364 0 _ rfl)) ?_))
                  refine QW.cons rfl (QP.yes' rfl rfl hb350 (QP.val (v := (.bool (decide (x351.Wind ≤ x358.Wind)))) rfl (fun w' hm' => x_leq rfl rfl) ?_))
                  refine QW.cons rfl (QP.yes' rfl rfl hb350 (QP.val (v := (.bool (decide (x351.Wind ≤ x358.Wind)))) rfl (fun w' hm' => x_move) ?_))
                  refine ifB_elim hm (fun hb365 hm => ?_) (fun hb365 hm => ?_)
                  · refine QW.cons rfl (QP.no' rfl rfl hb365 rfl ?_)
                    refine QW.cons rfl (QP.no' rfl rfl hb365 rfl ?_)
                    refine QW.cons rfl (QP.no' rfl rfl hb365 rfl ?_)
                    refine QW.cons rfl (QP.no' rfl rfl hb365 rfl ?_)
                    refine QW.cons rfl (QP.no' rfl rfl hb365 rfl ?_)
                    refine QW.cons rfl (QP.no' rfl rfl hb365 rfl ?_)
                    refine QW.cons rfl (QP.no' rfl rfl hb365 rfl ?_)
                    refine QW.cons rfl (QP.no' rfl rfl hb365 rfl ?_)
                    refine QW.cons rfl (QP.no' rfl rfl hb365 rfl ?_)
                    refine QW.cons rfl (QP.no' rfl rfl hb365 rfl ?_)
                    refine QW.cons rfl (QP.no' rfl rfl hb365 rfl ?_)
                    refine QW.cons rfl (QP.no' rfl rfl hb365 rfl ?_)
                    refine QW.cons rfl (QP.yes' rfl rfl hb350 (QP.val (v := (.bool true)) rfl (fun w' hm' => x_pickT' rfl hb365 rfl) ?_))
                    refine QW.cons rfl (QP.val (v := (.bool true)) rfl (fun w' hm' => x_pickT' rfl hb350 rfl) ?_)
                    refine QW.nil ?_
                    intro wd366 hmod
                    have hL := hL.call hmod
                    refine DW.done (by kernel_rfl) ?_
                    exact ⟨true, hm, ⟨f307, f308, rfl, hL⟩⟩
                  · refine QW.cons rfl (QP.yes' rfl rfl hb365 (QP.val (v := v1) rfl (fun w' hm' => x_mv f307) ?_))
                    refine QW.cons rfl (QP.yes' rfl rfl hb365 (QP.val (v := (.int .i64 s_l1)) rfl (fun w' hm' => x_mv f308) ?_))
                    obtain ⟨x367, ha368, hm⟩ := bndE hm
                    obtain ⟨hz369, ha373⟩ := idxE ha368
                    obtain ⟨b370, q371, hix372⟩ := rdL_ix (hL.rdS 0 rfl h2) hz369 ha373
                    refine QW.cons rfl (QP.yes' rfl rfl hb365 (QP.val (v := (.pointer (some ⟨b370, q371, none⟩))) rfl (fun w' hm' => x_ix Try.underlying34 Try_T62 rfl rfl hix372) ?_))
                    refine QW.cons rfl (QP.yes' rfl rfl hb365 (QP.val (v := (.pointer (some ⟨b370, q371 + 1, none⟩))) rfl (fun w' hm' => x_fieldAddr (fsz := 1) q371 1 (q371 + 1) Try.underlying62 rfl Try_T2 rfl rfl rfl) ?_))
                    refine QW.cons rfl (QP.yes' rfl rfl hb365 (QP.val (v := (.int .i64 x367.Pace)) rfl (fun w' hm' => x_load1 Try.underlying2 rfl rfl (rdF_cells ((hL.call hm').rdS 0 rfl h2) hix372 ha373 1 _ rfl)) ?_))
                    refine QW.cons rfl (QP.yes' rfl rfl hb365 (QP.val (v := v1) rfl (fun w' hm' => x_mv f307) ?_))
                    refine QW.cons rfl (QP.yes' rfl rfl hb365 (QP.val (v := (.int .i64 s_l1)) rfl (fun w' hm' => x_mv f308) ?_))
                    refine QW.cons rfl (QP.yes' rfl rfl hb365 (QP.val (v := (.int .i64 (w64 (s_l1 - 1)))) rfl (fun w' hm' => x_sub rfl rfl) ?_))
                    obtain ⟨x374, ha375, hm⟩ := bndE hm
                    obtain ⟨hz376, ha380⟩ := idxE ha375
                    obtain ⟨b377, q378, hix379⟩ := rdL_ix (hL.rdS 0 rfl h2) hz376 ha380
                    refine QW.cons rfl (QP.yes' rfl rfl hb365 (QP.val (v := (.pointer (some ⟨b377, q378, none⟩))) rfl (fun w' hm' => x_ix Try.underlying34 Try_T62 rfl rfl hix379) ?_))
                    refine QW.cons rfl (QP.yes' rfl rfl hb365 (QP.val (v := (.pointer (some ⟨b377, q378 + 1, none⟩))) rfl (fun w' hm' => x_fieldAddr (fsz := 1) q378 1 (q378 + 1) Try.underlying62 rfl Try_T2 rfl rfl rfl) ?_))
                    refine QW.cons rfl (QP.yes' rfl rfl hb365 (QP.val (v := (.int .i64 x374.Pace)) rfl (fun w' hm' => x_load1 Try.underlying2 rfl rfl (rdF_cells ((hL.call hm').rdS 0 rfl h2) hix379 ha380 1 _ rfl)) ?_))
                    refine QW.cons rfl (QP.yes' rfl rfl hb365 (QP.val (v := (.bool (decide (x374.Pace ≤ x367.Pace)))) rfl (fun w' hm' => x_geq rfl rfl) ?_))
                    refine QW.cons rfl (QP.yes' rfl rfl hb350 (QP.val (v := (.bool (decide (x374.Pace ≤ x367.Pace)))) rfl (fun w' hm' => x_pickF' rfl hb365 rfl) ?_))
                    refine QW.cons rfl (QP.val (v := (.bool (decide (x374.Pace ≤ x367.Pace)))) rfl (fun w' hm' => x_pickT' rfl hb350 rfl) ?_)
                    refine QW.nil ?_
                    intro wd381 hmod
                    have hL := hL.call hmod
                    refine DW.done (by kernel_rfl) ?_
                    exact ⟨decide (x374.Pace ≤ x367.Pace), hm, ⟨f307, f308, rfl, hL⟩⟩
                · refine QW.cons rfl (QP.no' rfl rfl hb350 rfl ?_)
                  refine QW.cons rfl (QP.no' rfl rfl hb350 rfl ?_)
                  refine QW.cons rfl (QP.no' rfl rfl hb350 rfl ?_)
                  refine QW.cons rfl (QP.no' rfl rfl hb350 rfl ?_)
                  refine QW.cons rfl (QP.no' rfl rfl hb350 rfl ?_)
                  refine QW.cons rfl (QP.no' rfl rfl hb350 rfl ?_)
                  refine QW.cons rfl (QP.no' rfl rfl hb350 rfl ?_)
                  refine QW.cons rfl (QP.no' rfl rfl hb350 rfl ?_)
                  refine QW.cons rfl (QP.no' rfl rfl hb350 rfl ?_)
                  refine QW.cons rfl (QP.no' rfl rfl hb350 rfl ?_)
                  refine QW.cons rfl (QP.no' rfl rfl hb350 rfl ?_)
                  refine QW.cons rfl (QP.no' rfl rfl hb350 rfl ?_)
                  refine QW.cons rfl (QP.no' rfl rfl hb350 rfl ?_)
                  refine QW.cons rfl (QP.noU rfl rfl rfl ?_)
                  refine QW.cons rfl (QP.noU rfl rfl rfl ?_)
                  refine QW.cons rfl (QP.noU rfl rfl rfl ?_)
                  refine QW.cons rfl (QP.noU rfl rfl rfl ?_)
                  refine QW.cons rfl (QP.noU rfl rfl rfl ?_)
                  refine QW.cons rfl (QP.noU rfl rfl rfl ?_)
                  refine QW.cons rfl (QP.noU rfl rfl rfl ?_)
                  refine QW.cons rfl (QP.noU rfl rfl rfl ?_)
                  refine QW.cons rfl (QP.noU rfl rfl rfl ?_)
                  refine QW.cons rfl (QP.noU rfl rfl rfl ?_)
                  refine QW.cons rfl (QP.noU rfl rfl rfl ?_)
                  refine QW.cons rfl (QP.noU rfl rfl rfl ?_)
                  refine QW.cons rfl (QP.no' rfl rfl hb350 rfl ?_)
                  refine QW.cons rfl (QP.val (v := (.bool false)) rfl (fun w' hm' => x_pickF' rfl hb350 rfl) ?_)
                  refine QW.nil ?_
                  intro wd382 hmod
                  have hL := hL.call hmod
                  refine DW.done (by kernel_rfl) ?_
                  exact ⟨false, hm, ⟨f307, f308, rfl, hL⟩⟩
              · intro s_j3 F344 wd345 hJ hm
                unfold M.spec_IsCurve_j3 at hm
                obtain ⟨f346, f347, f348, hL⟩ := hJ
                refine CW.condM (t := s_j3) f348 hm (fun hb349 hm => ?_) (fun hb349 hm => ?_)
                · refine CW.seq ?_
                  refine CW.regionL ?_
                  refine OW.cons (OP.val (v := (.bool false)) rfl (x_assign) ?_)
                  refine OW.nil ?_
                  refine CW.ret ?_
                  obtain rfl := Option.some.inj hm
                  have hm := hr268 _ rfl
                  obtain rfl := Option.some.inj hm
                  exact RR1 rfl rfl ⟨rfl, hL.fresh 0 rfl [] (by decide) (by decide) rfl⟩
                · refine CW.skip ?_
                  refine CW.regionL ?_
                  refine OW.cons (OP.val (v := (.int .i64 s_l1)) rfl (x_mv f347) ?_)
                  refine OW.cons (OP.val (v := (.int .i64 (w64 (s_l1 + 1)))) rfl (x_add rfl rfl) ?_)
                  refine OW.cons (OP.val (v := (.int .i64 (w64 (s_l1 + 1)))) rfl (x_assign) ?_)
                  refine OW.nil ?_
                  obtain rfl := Option.some.inj hm
                  exact ⟨_, rfl, ⟨f346, rfl, hL⟩⟩
        · refine CW.exit ?_
          refine XJ.hit ?_
          obtain rfl := Option.some.inj hm
          exact ⟨_, rfl, ⟨f277, f278, hL⟩⟩

theorem M.impl_within_ok (w0 : World) (a0 : Int) (a1 : Int) (a2 : Int) {r : Bool} (hm : M.impl_within a0 a1 a2 = some r) :
    Calls Try.prog 37 #[(.int .i64 a0), (.int .i64 a1), (.int .i64 a2)] w0 fun e w' => e = .returned (.bool r) ∧ Fresh w0 w' [] := by
  unfold M.impl_within at hm
  refine calls_CW (args := [(.int .i64 a0), (.int .i64 a1), (.int .i64 a2)]) Try.func37 rfl rfl rfl ?_
  have hL := Hp.start w0
  refine CW.seq ?_
  refine CW.regionL ?_
  refine OW.cons (OP.val (v := (.bool false)) rfl (x_assign) ?_)
  refine OW.nil ?_
  refine CW.seqJ (fun (s_j1 : Bool) (F : Fr) (w : World) => F 6 = (.bool s_j1) ∧ Hp w0 [Ent.snap w0 w0.heap.size] w) (fun s_j1 => M.impl_within_j1 s_j1 = some r) ?_ ?_
  · refine CW.regionL ?_
    refine OW.cons (OP.val (v := (.int .i64 a0)) rfl (x_move) ?_)
    refine OW.cons (OP.val (v := (.int .i64 a1)) rfl (x_move) ?_)
    refine OW.cons (OP.val (v := (.bool (decide (a1 ≤ a0)))) rfl (x_geq rfl rfl) ?_)
    refine OW.cons (OP.val (v := (.bool (decide (a1 ≤ a0)))) rfl (x_move) ?_)
    refine ifB_elim hm (fun hb5 hm => ?_) (fun hb5 hm => ?_)
    · refine OW.cons (OP.yes' rfl rfl hb5 (OP.val (v := (.int .i64 a0)) rfl (x_move) ?_))
      refine OW.cons (OP.yes' rfl rfl hb5 (OP.val (v := (.int .i64 a2)) rfl (x_move) ?_))
      refine OW.cons (OP.yes' rfl rfl hb5 (OP.val (v := (.bool (decide (a0 ≤ a2)))) rfl (x_leq rfl rfl) ?_))
      refine OW.cons (OP.val (v := (.bool (decide (a0 ≤ a2)))) rfl (x_pickT' rfl hb5 rfl) ?_)
      refine OW.cons (OP.val (v := (.bool (decide (a0 ≤ a2)))) rfl (x_assign) ?_)
      refine OW.nil ?_
      exact ⟨decide (a0 ≤ a2), hm, ⟨rfl, hL⟩⟩
    · refine OW.cons (OP.no' rfl rfl hb5 rfl ?_)
      refine OW.cons (OP.no' rfl rfl hb5 rfl ?_)
      refine OW.cons (OP.no' rfl rfl hb5 rfl ?_)
      refine OW.cons (OP.val (v := (.bool false)) rfl (x_pickF' rfl hb5 rfl) ?_)
      refine OW.cons (OP.val (v := (.bool false)) rfl (x_assign) ?_)
      refine OW.nil ?_
      exact ⟨false, hm, ⟨rfl, hL⟩⟩
  · intro s_j1 F2 wd3 hJ hm
    unfold M.impl_within_j1 at hm
    obtain ⟨f4, hL⟩ := hJ
    refine CW.ret ?_
    obtain rfl := Option.some.inj hm
    exact RR1 rfl f4 ⟨rfl, hL.fresh 0 rfl [] (by decide) (by decide) rfl⟩

theorem M.impl_isBoat_ok (w0 : World) (a0 : Int) {r : Bool} (hm : M.impl_isBoat a0 = some r) :
    Calls Try.prog 67 #[(.int .i64 a0)] w0 fun e w' => e = .returned (.bool r) ∧ Fresh w0 w' [] := by
  unfold M.impl_isBoat at hm
  refine calls_CW (args := [(.int .i64 a0)]) Try.func67 rfl rfl rfl ?_
  have hL := Hp.start w0
  refine CW.seq ?_
  refine CW.regionL ?_
  refine OW.cons (OP.val (v := (.bool false)) rfl (x_assign) ?_)
  refine OW.nil ?_
  refine CW.seq ?_
  refine CW.regionL ?_
  refine OW.cons (OP.val (v := (.int .i64 a0)) rfl (x_move) ?_)
  obtain ⟨x1, hx2, hm⟩ := bndE hm
  refine OW.cons (OP.call rfl (x_call (vs := [(.int .i64 a0), (.int .i64 0), (.int .i64 15)]) Try_C37 ⟨rfl, rfl, rfl, trivial⟩) (M.impl_within_ok _ a0 0 15 hx2) ?_)
  rintro e3 wd4 ⟨rfl, hF5⟩
  refine ⟨_, rfl, ?_⟩
  have hL := hL.pushAll hF5
  simp only [lA, lB, lC, lD] at hL
  refine OW.cons (OP.val (v := (.bool x1)) rfl (x_assign) ?_)
  refine OW.nil ?_
  refine CW.ret ?_
  obtain rfl := Option.some.inj hm
  exact RR1 rfl rfl ⟨rfl, hL.fresh 0 rfl [] (by decide) (by decide) rfl⟩

theorem M.impl_IsFinish_ok (w0 : World) (a0 : Finish) {r : Bool} (hm : M.impl_IsFinish a0 = some r) :
    Calls Try.prog 54 #[(.agg #[(.int .i64 a0.Boat), (.int .i64 a0.Code), (.int .i64 a0.Time)])] w0 fun e w' => e = .returned (.bool r) ∧ Fresh w0 w' [] := by
  unfold M.impl_IsFinish at hm
  refine calls_CW (args := [(.agg #[(.int .i64 a0.Boat), (.int .i64 a0.Code), (.int .i64 a0.Time)])]) Try.func54 rfl rfl rfl ?_
  have hL := Hp.start w0
  refine CW.seq ?_
  refine CW.regionL ?_
  refine OW.cons (S_box (cs := #[(.int .i64 a0.Boat), (.int .i64 a0.Code), (.int .i64 a0.Time)]) hL rfl rfl rfl ?_)
  intro wd1 b2 hL
  refine OW.cons (OP.val (v := (.bool false)) rfl (x_assign) ?_)
  refine OW.nil ?_
  refine CW.seq ?_
  refine CW.seq ?_
  refine CW.regionL ?_
  refine OW.cons (OP.val (v := (.pointer (some ⟨b2, 1, none⟩))) rfl (x_fieldAddr (fsz := 1) 0 1 1 Try.underlying31 rfl Try_T2 rfl rfl rfl) ?_)
  refine OW.cons (OP.val (v := (.int .i64 a0.Code)) rfl (x_load1 Try.underlying2 rfl rfl (hL.cellB 0 rfl rfl)) ?_)
  refine OW.cons (OP.val (v := (.bool (a0.Code == 0))) rfl (x_eql rfl rfl) ?_)
  refine OW.nil ?_
  refine CW.condM (t := a0.Code == 0) rfl hm (fun hb3 hm => ?_) (fun hb3 hm => ?_)
  · refine CW.seqJ (fun (s_j1 : Bool) (F : Fr) (w : World) => F 2 = (.bool s_j1) ∧ Hp w0 [Ent.blk b2 31 #[(.int .i64 a0.Boat), (.int .i64 a0.Code), (.int .i64 a0.Time)], Ent.snap w0 w0.heap.size] w) (fun s_j1 => M.impl_IsFinish_j1 s_j1 = some r) ?_ ?_
    · refine CW.regionL ?_
      refine OW.cons (OP.val (v := (.pointer (some ⟨b2, 0, none⟩))) rfl (x_fieldAddr (fsz := 1) 0 0 0 Try.underlying31 rfl Try_T2 rfl rfl rfl) ?_)
      refine OW.cons (OP.val (v := (.int .i64 a0.Boat)) rfl (x_load1 Try.underlying2 rfl rfl (hL.cellB 0 rfl rfl)) ?_)
      obtain ⟨x18, hx19, hm⟩ := bndE hm
      refine OW.cons (OP.call rfl (x_call (vs := [(.int .i64 a0.Boat)]) Try_C67 ⟨rfl, trivial⟩) (M.impl_isBoat_ok _ a0.Boat hx19) ?_)
      rintro e20 wd21 ⟨rfl, hF22⟩
      refine ⟨_, rfl, ?_⟩
      have hL := hL.pushAll hF22
      simp only [lA, lB, lC, lD] at hL
      refine OW.cons (OP.val (v := (.bool x18)) rfl (x_move) ?_)
      refine ifB_elim hm (fun hb23 hm => ?_) (fun hb23 hm => ?_)
      · refine OW.cons (OP.yes' rfl rfl hb23 (OP.val (v := (.pointer (some ⟨b2, 2, none⟩))) rfl (x_fieldAddr (fsz := 1) 0 2 2 Try.underlying31 rfl Try_T2 rfl rfl rfl) ?_))
        refine OW.cons (OP.yes' rfl rfl hb23 (OP.val (v := (.int .i64 a0.Time)) rfl (x_load1 Try.underlying2 rfl rfl (hL.cellB 0 rfl rfl)) ?_))
        obtain ⟨x24, hx25, hm⟩ := bndE hm
        refine OW.cons (OP.yes' rfl rfl hb23 (OP.call rfl (x_call (vs := [(.int .i64 a0.Time), (.int .i64 1), (.int .i64 1000000000)]) Try_C37 ⟨rfl, rfl, rfl, trivial⟩) (M.impl_within_ok _ a0.Time 1 1000000000 hx25) ?_))
        rintro e26 wd27 ⟨rfl, hF28⟩
        refine ⟨_, rfl, ?_⟩
        have hL := hL.pushAll hF28
        simp only [lA, lB, lC, lD] at hL
        refine OW.cons (OP.val (v := (.bool x24)) rfl (x_pickT' rfl hb23 rfl) ?_)
        refine OW.cons (OP.val (v := (.bool x24)) rfl (x_assign) ?_)
        refine OW.nil ?_
        exact ⟨x24, hm, ⟨rfl, hL⟩⟩
      · refine OW.cons (OP.no' rfl rfl hb23 rfl ?_)
        refine OW.cons (OP.no' rfl rfl hb23 rfl ?_)
        refine OW.cons (OP.no' rfl rfl hb23 rfl ?_)
        refine OW.cons (OP.val (v := (.bool false)) rfl (x_pickF' rfl hb23 rfl) ?_)
        refine OW.cons (OP.val (v := (.bool false)) rfl (x_assign) ?_)
        refine OW.nil ?_
        exact ⟨false, hm, ⟨rfl, hL⟩⟩
    · intro s_j1 F15 wd16 hJ hm
      unfold M.impl_IsFinish_j1 at hm
      obtain ⟨f17, hL⟩ := hJ
      refine CW.ret ?_
      obtain rfl := Option.some.inj hm
      exact RR1 rfl f17 ⟨rfl, hL.fresh 1 rfl [] (by decide) (by decide) rfl⟩
  · refine CW.skip ?_
    refine CW.seqJ (fun (s_j2 : Bool) (F : Fr) (w : World) => F 2 = (.bool s_j2) ∧ Hp w0 [Ent.blk b2 31 #[(.int .i64 a0.Boat), (.int .i64 a0.Code), (.int .i64 a0.Time)], Ent.snap w0 w0.heap.size] w) (fun s_j2 => M.impl_IsFinish_j2 s_j2 = some r) ?_ ?_
    · refine CW.regionL ?_
      refine OW.cons (OP.val (v := (.pointer (some ⟨b2, 0, none⟩))) rfl (x_fieldAddr (fsz := 1) 0 0 0 Try.underlying31 rfl Try_T2 rfl rfl rfl) ?_)
      refine OW.cons (OP.val (v := (.int .i64 a0.Boat)) rfl (x_load1 Try.underlying2 rfl rfl (hL.cellB 0 rfl rfl)) ?_)
      obtain ⟨x44, hx45, hm⟩ := bndE hm
      refine OW.cons (OP.call rfl (x_call (vs := [(.int .i64 a0.Boat)]) Try_C67 ⟨rfl, trivial⟩) (M.impl_isBoat_ok _ a0.Boat hx45) ?_)
      rintro e46 wd47 ⟨rfl, hF48⟩
      refine ⟨_, rfl, ?_⟩
      have hL := hL.pushAll hF48
      simp only [lA, lB, lC, lD] at hL
      refine OW.cons (OP.val (v := (.bool x44)) rfl (x_move) ?_)
      refine ifB_elim hm (fun hb49 hm => ?_) (fun hb49 hm => ?_)
      · refine OW.cons (OP.yes' rfl rfl hb49 (OP.val (v := (.pointer (some ⟨b2, 1, none⟩))) rfl (x_fieldAddr (fsz := 1) 0 1 1 Try.underlying31 rfl Try_T2 rfl rfl rfl) ?_))
        refine OW.cons (OP.yes' rfl rfl hb49 (OP.val (v := (.int .i64 a0.Code)) rfl (x_load1 Try.underlying2 rfl rfl (hL.cellB 0 rfl rfl)) ?_))
        obtain ⟨x50, hx51, hm⟩ := bndE hm
        refine OW.cons (OP.yes' rfl rfl hb49 (OP.call rfl (x_call (vs := [(.int .i64 a0.Code), (.int .i64 1), (.int .i64 9)]) Try_C37 ⟨rfl, rfl, rfl, trivial⟩) (M.impl_within_ok _ a0.Code 1 9 hx51) ?_))
        rintro e52 wd53 ⟨rfl, hF54⟩
        refine ⟨_, rfl, ?_⟩
        have hL := hL.pushAll hF54
        simp only [lA, lB, lC, lD] at hL
        refine OW.cons (OP.val (v := (.bool x50)) rfl (x_pickT' rfl hb49 rfl) ?_)
        refine OW.cons (OP.val (v := (.bool x50)) rfl (x_move) ?_)
        refine ifB_elim hm (fun hb55 hm => ?_) (fun hb55 hm => ?_)
        · refine OW.cons (OP.yes' rfl rfl hb55 (OP.val (v := (.pointer (some ⟨b2, 2, none⟩))) rfl (x_fieldAddr (fsz := 1) 0 2 2 Try.underlying31 rfl Try_T2 rfl rfl rfl) ?_))
          refine OW.cons (OP.yes' rfl rfl hb55 (OP.val (v := (.int .i64 a0.Time)) rfl (x_load1 Try.underlying2 rfl rfl (hL.cellB 0 rfl rfl)) ?_))
          refine OW.cons (OP.yes' rfl rfl hb55 (OP.val (v := (.bool (a0.Time == 0))) rfl (x_eql rfl rfl) ?_))
          refine OW.cons (OP.val (v := (.bool (a0.Time == 0))) rfl (x_pickT' rfl hb55 rfl) ?_)
          refine OW.cons (OP.val (v := (.bool (a0.Time == 0))) rfl (x_assign) ?_)
          refine OW.nil ?_
          exact ⟨a0.Time == 0, hm, ⟨rfl, hL⟩⟩
        · refine OW.cons (OP.no' rfl rfl hb55 rfl ?_)
          refine OW.cons (OP.no' rfl rfl hb55 rfl ?_)
          refine OW.cons (OP.no' rfl rfl hb55 rfl ?_)
          refine OW.cons (OP.val (v := (.bool false)) rfl (x_pickF' rfl hb55 rfl) ?_)
          refine OW.cons (OP.val (v := (.bool false)) rfl (x_assign) ?_)
          refine OW.nil ?_
          exact ⟨false, hm, ⟨rfl, hL⟩⟩
      · refine OW.cons (OP.no' rfl rfl hb49 rfl ?_)
        refine OW.cons (OP.no' rfl rfl hb49 rfl ?_)
        refine OW.cons (OP.no' rfl rfl hb49 rfl ?_)
        refine OW.cons (OP.val (v := (.bool false)) rfl (x_pickF' rfl hb49 rfl) ?_)
        refine OW.cons (OP.val (v := (.bool false)) rfl (x_move) ?_)
        refine OW.cons (OP.no' rfl rfl rfl rfl ?_)
        refine OW.cons (OP.no' rfl rfl rfl rfl ?_)
        refine OW.cons (OP.no' rfl rfl rfl rfl ?_)
        refine OW.cons (OP.val (v := (.bool false)) rfl (x_pickF' rfl rfl rfl) ?_)
        refine OW.cons (OP.val (v := (.bool false)) rfl (x_assign) ?_)
        refine OW.nil ?_
        exact ⟨false, hm, ⟨rfl, hL⟩⟩
    · intro s_j2 F41 wd42 hJ hm
      unfold M.impl_IsFinish_j2 at hm
      obtain ⟨f43, hL⟩ := hJ
      refine CW.ret ?_
      obtain rfl := Option.some.inj hm
      exact RR1 rfl f43 ⟨rfl, hL.fresh 1 rfl [] (by decide) (by decide) rfl⟩

theorem M.impl_areFinishes_ok (w0 : World) (a0 : Int) (a1 : List Finish) {v1 : Value} (h2 : rdL (· < w0.heap.size) w0 v1 a1) {r : Bool} (hm : M.impl_areFinishes a0 a1 = some r) :
    Calls Try.prog 33 #[(.int .i64 a0), v1] w0 fun e w' => e = .returned (.bool r) ∧ Fresh w0 w' [] := by
  unfold M.impl_areFinishes at hm
  refine calls_CW (args := [(.int .i64 a0), v1]) Try.func33 rfl rfl rfl ?_
  have hL := Hp.start w0
  refine CW.seq ?_
  refine CW.regionL ?_
  refine OW.cons (OP.val (v := (.bool false)) rfl (x_assign) ?_)
  refine OW.nil ?_
  refine CW.seq ?_
  refine CW.seqJ (fun (s_j1 : Bool) (F : Fr) (w : World) => F 1 = v1 ∧ F 15 = (.bool s_j1) ∧ Hp w0 [Ent.snap w0 w0.heap.size] w) (fun s_j1 => M.impl_areFinishes_j1 a1 s_j1 = some r) ?_ ?_
  · refine CW.regionL ?_
    refine OW.cons (OP.val (v := (.int .i64 a0)) rfl (x_move) ?_)
    obtain ⟨x118, hx119, hm⟩ := bndE hm
    refine OW.cons (OP.call rfl (x_call (vs := [(.int .i64 a0), (.int .i64 1), (.int .i64 16)]) Try_C37 ⟨rfl, rfl, rfl, trivial⟩) (M.impl_within_ok _ a0 1 16 hx119) ?_)
    rintro e120 wd121 ⟨rfl, hF122⟩
    refine ⟨_, rfl, ?_⟩
    have hL := hL.pushAll hF122
    simp only [lA, lB, lC, lD] at hL
    refine OW.cons (OP.val (v := (.bool (!x118))) rfl (x_not rfl) ?_)
    refine OW.cons (OP.val (v := (.bool (!x118))) rfl (x_move) ?_)
    refine ifB_elim hm (fun hb123 hm => ?_) (fun hb123 hm => ?_)
    · refine OW.cons (OP.no' rfl rfl hb123 rfl ?_)
      refine OW.cons (OP.no' rfl rfl hb123 rfl ?_)
      refine OW.cons (OP.no' rfl rfl hb123 rfl ?_)
      refine OW.cons (OP.no' rfl rfl hb123 rfl ?_)
      refine OW.cons (OP.val (v := (.bool true)) rfl (x_pickT' rfl hb123 rfl) ?_)
      refine OW.nil ?_
      exact ⟨true, hm, ⟨rfl, rfl, hL⟩⟩
    · refine OW.cons (OP.yes' rfl rfl hb123 (OP.val (v := v1) rfl (x_move) ?_))
      refine OW.cons (OP.yes' rfl rfl hb123 (OP.val (v := (.int .i64 (a1.length : Int))) rfl (x_lenR Try.underlying24 rfl (hL.rdS 0 rfl h2)) ?_))
      refine OW.cons (OP.yes' rfl rfl hb123 (OP.val (v := (.int .i64 a0)) rfl (x_move) ?_))
      refine OW.cons (OP.yes' rfl rfl hb123 (OP.val (v := (.bool ((a1.length : Int) != a0))) rfl (x_neq rfl rfl) ?_))
      refine OW.cons (OP.val (v := (.bool ((a1.length : Int) != a0))) rfl (x_pickF' rfl hb123 rfl) ?_)
      refine OW.nil ?_
      exact ⟨(a1.length : Int) != a0, hm, ⟨rfl, rfl, hL⟩⟩
  · intro s_j1 F9 wd10 hJ hm
    unfold M.impl_areFinishes_j1 at hm
    obtain ⟨f11, f12, hL⟩ := hJ
    refine CW.condM (t := s_j1) f12 hm (fun hb13 hm => ?_) (fun hb13 hm => ?_)
    · refine CW.seq ?_
      refine CW.regionL ?_
      refine OW.cons (OP.val (v := (.bool false)) rfl (x_assign) ?_)
      refine OW.nil ?_
      refine CW.ret ?_
      obtain rfl := Option.some.inj hm
      exact RR1 rfl rfl ⟨rfl, hL.fresh 0 rfl [] (by decide) (by decide) rfl⟩
    · refine CW.skip ?_
      refine CW.seq ?_
      refine CW.seq ?_
      refine CW.regionL ?_
      refine OW.cons (OP.val (v := v1) rfl (x_mv f11) ?_)
      refine OW.cons (OP.val (v := (.int .i64 (a1.length : Int))) rfl (x_lenR Try.underlying24 rfl (hL.rdS 0 rfl h2)) ?_)
      refine OW.cons (OP.val (v := (.int .i64 0)) rfl (x_move) ?_)
      refine OW.nil ?_
      obtain ⟨o76, ho77, hm⟩ := bndE hm
      refine CW.loopB (fun (s_l1 : Int) (F : Fr) (w : World) => F 16 = v1 ∧ F 17 = (.int .i64 (a1.length : Int)) ∧ F 18 = (.int .i64 s_l1) ∧ Hp w0 [Ent.snap w0 w0.heap.size] w) (fun o => outc o (fun x => some x) (fun s => M.impl_areFinishes_a1 s) = some r) ho77 hm ⟨rfl, rfl, rfl, hL⟩ ?_ ?_
      · intro s_l1 F78 wd79 hJ hm
        have hm := outcE hm
        have hm : M.impl_areFinishes_a1 s_l1 = some r := hm
        unfold M.impl_areFinishes_a1 at hm
        obtain ⟨f80, f81, f82, hL⟩ := hJ
        refine CW.seq ?_
        refine CW.regionL ?_
        refine OW.cons (OP.val (v := (.bool true)) rfl (x_assign) ?_)
        refine OW.nil ?_
        refine CW.ret ?_
        obtain rfl := Option.some.inj hm
        exact RR1 rfl rfl ⟨rfl, hL.fresh 0 rfl [] (by decide) (by decide) rfl⟩
      · intro s_l1 F83 wd84 t74 hJ hm hr75
        unfold M.impl_areFinishes_l1 at hm
        obtain ⟨f85, f86, f87, hL⟩ := hJ
        refine CW.seq ?_
        refine CW.regionL ?_
        refine OW.cons (OP.val (v := (.bool (decide (s_l1 < (a1.length : Int))))) rfl (x_lss f87 f86) ?_)
        refine OW.nil ?_
        refine CW.seq ?_
        refine CW.condM (t := decide (s_l1 < (a1.length : Int))) rfl hm (fun hb88 hm => ?_) (fun hb88 hm => ?_)
        · refine CW.skip ?_
          refine CW.seq ?_
          refine CW.block ?_
          refine CW.seq ?_
          refine CW.regionL ?_
          refine OW.cons (OP.val (v := (.int .i64 s_l1)) rfl (x_mv f87) ?_)
          obtain ⟨x89, ha90, hm⟩ := bndE hm
          obtain ⟨hz91, ha95⟩ := idxE ha90
          obtain ⟨b92, q93, hix94⟩ := rdL_ix (hL.rdS 0 rfl h2) hz91 ha95
          refine OW.cons (OP.val (v := (.pointer (some ⟨b92, q93, none⟩))) rfl (x_ix Try.underlying24 Try_T31 f85 f87 hix94) ?_)
          refine OW.cons (OP.val (v := (.agg #[(.int .i64 x89.Boat), (.int .i64 x89.Code), (.int .i64 x89.Time)])) rfl (x_loadN (cs := [(.int .i64 x89.Boat), (.int .i64 x89.Code), (.int .i64 x89.Time)]) Try.underlying31 Try_T31 rfl rfl (rdF_cells (hL.rdS 0 rfl h2) hix94 ha95)) ?_)
          refine OW.cons (S_alloc (cs := #[(.int .i64 0), (.int .i64 0), (.int .i64 0)]) hL Try_T31 rfl rfl ?_)
          intro wd96 b97 hL
          refine OW.cons (OP.val (v := (.int .i64 s_l1)) rfl (x_assign) ?_)
          refine OW.cons (S_storeN (l := [(.int .i64 x89.Boat), (.int .i64 x89.Code), (.int .i64 x89.Time)]) (cs' := #[(.int .i64 x89.Boat), (.int .i64 x89.Code), (.int .i64 x89.Time)]) hL 0 rfl Try_T31 rfl rfl (List.forall_mem_cons.2 ⟨rfl, (List.forall_mem_cons.2 ⟨rfl, (List.forall_mem_cons.2 ⟨rfl, (fun _ h => by cases h)⟩)⟩)⟩) rfl (Nat.le_of_ble_eq_true rfl) rfl ?_)
          intro wd98 hL
          refine OW.nil ?_
          refine CW.seqJ (fun (s_j2 : Bool) (F : Fr) (w : World) => F 16 = v1 ∧ F 17 = (.int .i64 (a1.length : Int)) ∧ F 18 = (.int .i64 s_l1) ∧ F 31 = (.bool s_j2) ∧ Hp w0 [Ent.blk b97 31 #[(.int .i64 x89.Boat), (.int .i64 x89.Code), (.int .i64 x89.Time)], Ent.snap w0 w0.heap.size] w) (fun s_j2 => M.impl_areFinishes_j2 s_l1 s_j2 = some t74) ?_ ?_
          · refine CW.regionL ?_
            refine OW.cons (OP.val (v := (.pointer (some ⟨b97, 0, none⟩))) rfl (x_fieldAddr (fsz := 1) 0 0 0 Try.underlying31 rfl Try_T2 rfl rfl rfl) ?_)
            refine OW.cons (OP.val (v := (.int .i64 x89.Boat)) rfl (x_load1 Try.underlying2 rfl rfl (hL.cellB 0 rfl rfl)) ?_)
            refine OW.cons (OP.val (v := (.int .i64 s_l1)) rfl (x_move) ?_)
            refine OW.cons (OP.val (v := (.bool (x89.Boat != s_l1))) rfl (x_neq rfl rfl) ?_)
            refine OW.cons (OP.val (v := (.bool (x89.Boat != s_l1))) rfl (x_move) ?_)
            refine ifB_elim hm (fun hb112 hm => ?_) (fun hb112 hm => ?_)
            · refine OW.cons (OP.no' rfl rfl hb112 rfl ?_)
              refine OW.cons (OP.no' rfl rfl hb112 rfl ?_)
              refine OW.cons (OP.no' rfl rfl hb112 rfl ?_)
              refine OW.cons (OP.val (v := (.bool true)) rfl (x_pickT' rfl hb112 rfl) ?_)
              refine OW.nil ?_
              exact ⟨true, hm, ⟨f85, f86, f87, rfl, hL⟩⟩
            · refine OW.cons (OP.yes' rfl rfl hb112 (OP.val (v := (.agg #[(.int .i64 x89.Boat), (.int .i64 x89.Code), (.int .i64 x89.Time)])) rfl (x_loadN (cs := [(.int .i64 x89.Boat), (.int .i64 x89.Code), (.int .i64 x89.Time)]) Try.underlying31 Try_T31 rfl rfl (hL.cellsB 0 rfl (o := 0) (l := [(.int .i64 x89.Boat), (.int .i64 x89.Code), (.int .i64 x89.Time)]) (by intro j u hj; exact (by simpa using hj)))) ?_))
              obtain ⟨x113, hx114, hm⟩ := bndE hm
              refine OW.cons (OP.yes' rfl rfl hb112 (OP.call rfl (x_call (vs := [(.agg #[(.int .i64 x89.Boat), (.int .i64 x89.Code), (.int .i64 x89.Time)])]) Try_C54 ⟨rfl, trivial⟩) (M.impl_IsFinish_ok _ x89 hx114) ?_))
              rintro e115 wd116 ⟨rfl, hF117⟩
              refine ⟨_, rfl, ?_⟩
              have hL := hL.pushAll hF117
              simp only [lA, lB, lC, lD] at hL
              refine OW.cons (OP.yes' rfl rfl hb112 (OP.val (v := (.bool (!x113))) rfl (x_not rfl) ?_))
              refine OW.cons (OP.val (v := (.bool (!x113))) rfl (x_pickF' rfl hb112 rfl) ?_)
              refine OW.nil ?_
              exact ⟨!x113, hm, ⟨f85, f86, f87, rfl, hL⟩⟩
          · intro s_j2 F105 wd106 hJ hm
            unfold M.impl_areFinishes_j2 at hm
            obtain ⟨f107, f108, f109, f110, hL⟩ := hJ
            refine CW.condM (t := s_j2) f110 hm (fun hb111 hm => ?_) (fun hb111 hm => ?_)
            · refine CW.seq ?_
              refine CW.regionL ?_
              refine OW.cons (OP.val (v := (.bool false)) rfl (x_assign) ?_)
              refine OW.nil ?_
              refine CW.ret ?_
              obtain rfl := Option.some.inj hm
              have hm := hr75 _ rfl
              obtain rfl := Option.some.inj hm
              exact RR1 rfl rfl ⟨rfl, hL.fresh 1 rfl [] (by decide) (by decide) rfl⟩
            · refine CW.skip ?_
              refine CW.regionL ?_
              refine OW.cons (OP.val (v := (.int .i64 (w64 (s_l1 + 1)))) rfl (x_add f109 rfl) ?_)
              refine OW.cons (OP.val (v := (.int .i64 (w64 (s_l1 + 1)))) rfl (x_move) ?_)
              refine OW.nil ?_
              have hL := hL.sel [1] (by decide) rfl
              obtain rfl := Option.some.inj hm
              exact ⟨_, rfl, ⟨f107, f108, rfl, hL⟩⟩
        · refine CW.exit ?_
          refine XJ.hit ?_
          obtain rfl := Option.some.inj hm
          exact ⟨_, rfl, ⟨f85, f86, f87, hL⟩⟩

theorem M.slices_IndexFunc_____impl_CurvePoint___impl_CurvePoint__ok (w0 : World) (a0 : List (List CurvePoint)) {v1 : Value} (h2 : rdL (· < w0.heap.size) w0 v1 a0) (a1 : (List CurvePoint) → Option Bool) {fk3 : FuncId} {cp4 : List Value} (hq5 : FnQ Try.prog fk3 cp4 (· < w0.heap.size) w0 (fun yw yvs yv => ∃ (y0 : List CurvePoint) (yu0 : Value) (yr : Bool), yvs = [yu0] ∧ rdL (· < yw.heap.size) yw yu0 y0 ∧ a1 y0 = some yr ∧ yv = (.bool yr))) {r : Int} (hm : M.slices_IndexFunc_____impl_CurvePoint___impl_CurvePoint_ a0 a1 = some r) :
    Calls Try.prog 55 #[v1, (.func (.func fk3) #[] cp4.toArray)] w0 fun e w' => e = .returned (.int .i64 r) ∧ Fresh w0 w' [] := by
  unfold M.slices_IndexFunc_____impl_CurvePoint___impl_CurvePoint_ at hm
  refine calls_CW (args := [v1, (.func (.func fk3) #[] cp4.toArray)]) Try.func55 rfl rfl rfl ?_
  have hL := Hp.start w0
  refine CW.seq ?_
  refine CW.regionL ?_
  refine OW.cons (OP.val (v := (.int .i64 0)) rfl (x_assign) ?_)
  refine OW.nil ?_
  refine CW.seq ?_
  refine CW.seq ?_
  refine CW.regionL ?_
  refine OW.cons (OP.val (v := v1) rfl (x_move) ?_)
  refine OW.cons (OP.val (v := (.int .i64 (a0.length : Int))) rfl (x_lenR Try.underlying25 rfl (hL.rdS 0 rfl h2)) ?_)
  refine OW.cons (OP.val (v := (.int .i64 0)) rfl (x_move) ?_)
  refine OW.nil ?_
  obtain ⟨o44, ho45, hm⟩ := bndE hm
  refine CW.loopB (fun (s_l1 : Int) (F : Fr) (w : World) => F 0 = v1 ∧ F 1 = (.func (.func fk3) #[] cp4.toArray) ∧ F 7 = (.int .i64 (a0.length : Int)) ∧ F 8 = (.int .i64 s_l1) ∧ Hp w0 [Ent.snap w0 w0.heap.size] w) (fun o => outc o (fun x => some x) (fun s => M.slices_IndexFunc_____impl_CurvePoint___impl_CurvePoint__a1 s) = some r) ho45 hm ⟨rfl, rfl, rfl, rfl, hL⟩ ?_ ?_
  · intro s_l1 F46 wd47 hJ hm
    have hm := outcE hm
    have hm : M.slices_IndexFunc_____impl_CurvePoint___impl_CurvePoint__a1 s_l1 = some r := hm
    unfold M.slices_IndexFunc_____impl_CurvePoint___impl_CurvePoint__a1 at hm
    obtain ⟨f48, f49, f50, f51, hL⟩ := hJ
    refine CW.seq ?_
    refine CW.regionL ?_
    refine OW.cons (OP.val (v := (.int .i64 (-1))) rfl (x_assign) ?_)
    refine OW.nil ?_
    refine CW.ret ?_
    obtain rfl := Option.some.inj hm
    exact RR1 rfl rfl ⟨rfl, hL.fresh 0 rfl [] (by decide) (by decide) rfl⟩
  · intro s_l1 F52 wd53 t42 hJ hm hr43
    unfold M.slices_IndexFunc_____impl_CurvePoint___impl_CurvePoint__l1 at hm
    obtain ⟨f54, f55, f56, f57, hL⟩ := hJ
    refine CW.seq ?_
    refine CW.regionL ?_
    refine OW.cons (OP.val (v := (.bool (decide (s_l1 < (a0.length : Int))))) rfl (x_lss f57 f56) ?_)
    refine OW.nil ?_
    refine CW.seq ?_
    refine CW.condM (t := decide (s_l1 < (a0.length : Int))) rfl hm (fun hb58 hm => ?_) (fun hb58 hm => ?_)
    · refine CW.skip ?_
      refine CW.seq ?_
      refine CW.block ?_
      refine CW.seq ?_
      refine CW.regionL ?_
      refine OW.cons (OP.val (v := (.int .i64 s_l1)) rfl (x_mv f57) ?_)
      refine OW.cons (OP.val (v := (.int .i64 s_l1)) rfl (x_assign) ?_)
      refine OW.nil ?_
      refine CW.seq ?_
      refine CW.regionL ?_
      refine OW.cons (OP.val (v := (.func (.func fk3) #[] cp4.toArray)) rfl (x_mv f55) ?_)
      refine OW.cons (OP.val (v := v1) rfl (x_mv f54) ?_)
      refine OW.cons (OP.val (v := (.int .i64 s_l1)) rfl (x_move) ?_)
      obtain ⟨x59, ha60, hm⟩ := bndE hm
      obtain ⟨hz61, ha69⟩ := idxE ha60
      obtain ⟨b62, q63, v64, hix65, hs66, hc67, hr68⟩ := rdN_at h2 hz61 ha69
      refine OW.cons (OP.val (v := (.pointer (some ⟨b62, q63, none⟩))) rfl (x_ix Try.underlying25 Try_T34 rfl rfl hix65) ?_)
      refine OW.cons (OP.val (v := v64) rfl (x_load1 Try.underlying34 rfl rfl (hL.cellS 0 rfl hs66 hc67)) ?_)
      obtain ⟨x70, hx71, hm⟩ := bndE hm
      refine OW.cons (OP.call rfl (x_callV (vs := [v64]) (cap := cp4) hq5.1 rfl ⟨rfl, trivial⟩) (hq5.2 _ (hL.agS 0 rfl) [v64] _ ⟨x59, v64, x70, rfl, (hL.rdS 0 rfl hr68), hx71, rfl⟩) ?_)
      rintro e72 wd73 ⟨rfl, hF74⟩
      refine ⟨_, rfl, ?_⟩
      have hL := hL.pushAll hF74
      simp only [lA, lB, lC, lD] at hL
      refine OW.nil ?_
      refine CW.condM (t := x70) rfl hm (fun hb75 hm => ?_) (fun hb75 hm => ?_)
      · refine CW.seq ?_
        refine CW.regionL ?_
        refine OW.cons (OP.val (v := (.int .i64 s_l1)) rfl (x_move) ?_)
        refine OW.cons (OP.val (v := (.int .i64 s_l1)) rfl (x_assign) ?_)
        refine OW.nil ?_
        refine CW.ret ?_
        obtain rfl := Option.some.inj hm
        have hm := hr43 _ rfl
        obtain rfl := Option.some.inj hm
        exact RR1 rfl rfl ⟨rfl, hL.fresh 0 rfl [] (by decide) (by decide) rfl⟩
      · refine CW.skip ?_
        refine CW.regionL ?_
        refine OW.cons (OP.val (v := (.int .i64 (w64 (s_l1 + 1)))) rfl (x_add f57 rfl) ?_)
        refine OW.cons (OP.val (v := (.int .i64 (w64 (s_l1 + 1)))) rfl (x_move) ?_)
        refine OW.nil ?_
        obtain rfl := Option.some.inj hm
        exact ⟨_, rfl, ⟨f54, f55, f56, rfl, hL⟩⟩
    · refine CW.exit ?_
      refine XJ.hit ?_
      obtain rfl := Option.some.inj hm
      exact ⟨_, rfl, ⟨f54, f55, f56, f57, hL⟩⟩

theorem M.slices_ContainsFunc_____impl_CurvePoint___impl_CurvePoint__ok (w0 : World) (a0 : List (List CurvePoint)) {v1 : Value} (h2 : rdL (· < w0.heap.size) w0 v1 a0) (a1 : (List CurvePoint) → Option Bool) {fk3 : FuncId} {cp4 : List Value} (hq5 : FnQ Try.prog fk3 cp4 (· < w0.heap.size) w0 (fun yw yvs yv => ∃ (y0 : List CurvePoint) (yu0 : Value) (yr : Bool), yvs = [yu0] ∧ rdL (· < yw.heap.size) yw yu0 y0 ∧ a1 y0 = some yr ∧ yv = (.bool yr))) {r : Bool} (hm : M.slices_ContainsFunc_____impl_CurvePoint___impl_CurvePoint_ a0 a1 = some r) :
    Calls Try.prog 34 #[v1, (.func (.func fk3) #[] cp4.toArray)] w0 fun e w' => e = .returned (.bool r) ∧ Fresh w0 w' [] := by
  unfold M.slices_ContainsFunc_____impl_CurvePoint___impl_CurvePoint_ at hm
  refine calls_CW (args := [v1, (.func (.func fk3) #[] cp4.toArray)]) Try.func34 rfl rfl rfl ?_
  have hL := Hp.start w0
  refine CW.seq ?_
  refine CW.regionL ?_
  refine OW.cons (OP.val (v := (.bool false)) rfl (x_assign) ?_)
  refine OW.nil ?_
  refine CW.seq ?_
  refine CW.regionL ?_
  refine OW.cons (OP.val (v := v1) rfl (x_move) ?_)
  refine OW.cons (OP.val (v := (.func (.func fk3) #[] cp4.toArray)) rfl (x_move) ?_)
  obtain ⟨x6, hx7, hm⟩ := bndE hm
  refine OW.cons (OP.call rfl (x_call (vs := [v1, (.func (.func fk3) #[] cp4.toArray)]) Try_C55 ⟨rfl, rfl, trivial⟩) (M.slices_IndexFunc_____impl_CurvePoint___impl_CurvePoint__ok _ a0 (hL.rdS 0 rfl h2) a1 (hL.fnS 0 rfl hq5) hx7) ?_)
  rintro e8 wd9 ⟨rfl, hF10⟩
  refine ⟨_, rfl, ?_⟩
  have hL := hL.pushAll hF10
  simp only [lA, lB, lC, lD] at hL
  refine OW.cons (OP.val (v := (.bool (decide (0 ≤ x6)))) rfl (x_geq rfl rfl) ?_)
  refine OW.cons (OP.val (v := (.bool (decide (0 ≤ x6)))) rfl (x_assign) ?_)
  refine OW.nil ?_
  refine CW.ret ?_
  obtain rfl := Option.some.inj hm
  exact RR1 rfl rfl ⟨rfl, hL.fresh 0 rfl [] (by decide) (by decide) rfl⟩

theorem M.impl_IsCurve_ok (w0 : World) (a0 : List CurvePoint) {v1 : Value} (h2 : rdL (· < w0.heap.size) w0 v1 a0) {r : Bool} (hm : M.impl_IsCurve a0 = some r) :
    Calls Try.prog 36 #[v1] w0 fun e w' => e = .returned (.bool r) ∧ Fresh w0 w' [] := by
  unfold M.impl_IsCurve at hm
  refine calls_CW (args := [v1]) Try.func36 rfl rfl rfl ?_
  have hL := Hp.start w0
  refine CW.seq ?_
  refine CW.regionL ?_
  refine OW.cons (OP.val (v := (.bool false)) rfl (x_assign) ?_)
  refine OW.nil ?_
  refine CW.seq ?_
  refine CW.seq ?_
  refine CW.regionL ?_
  refine OW.cons (OP.val (v := v1) rfl (x_move) ?_)
  refine OW.cons (OP.val (v := (.int .i64 (a0.length : Int))) rfl (x_lenR Try.underlying34 rfl (hL.rdS 0 rfl h2)) ?_)
  refine OW.cons (OP.val (v := (.int .i64 0)) rfl (x_move) ?_)
  refine OW.nil ?_
  obtain ⟨o151, ho152, hm⟩ := bndE hm
  refine CW.loopB (fun (s_l1 : Int) (F : Fr) (w : World) => F 0 = v1 ∧ F 5 = v1 ∧ F 6 = (.int .i64 (a0.length : Int)) ∧ F 7 = (.int .i64 s_l1) ∧ Hp w0 [Ent.snap w0 w0.heap.size] w) (fun o => outc o (fun x => some x) (fun s => M.impl_IsCurve_a1 a0 s) = some r) ho152 hm ⟨rfl, rfl, rfl, rfl, hL⟩ ?_ ?_
  · intro s_l1 F153 wd154 hJ hm
    have hm := outcE hm
    have hm : M.impl_IsCurve_a1 a0 s_l1 = some r := hm
    unfold M.impl_IsCurve_a1 at hm
    obtain ⟨f155, f156, f157, f158, hL⟩ := hJ
    refine CW.seqJ (fun (s_j1 : Bool) (F : Fr) (w : World) => F 2 = (.bool s_j1) ∧ Hp w0 [Ent.snap w0 w0.heap.size] w) (fun s_j1 => M.impl_IsCurve_j1 s_j1 = some r) ?_ ?_
    · refine CW.regionL ?_
      refine OW.cons (OP.val (v := v1) rfl (x_mv f155) ?_)
      refine OW.cons (OP.val (v := (.int .i64 (a0.length : Int))) rfl (x_lenR Try.underlying34 rfl (hL.rdS 0 rfl h2)) ?_)
      refine OW.cons (OP.val (v := (.bool (decide (2 ≤ (a0.length : Int))))) rfl (x_geq rfl rfl) ?_)
      refine OW.cons (OP.val (v := (.bool (decide (2 ≤ (a0.length : Int))))) rfl (x_move) ?_)
      refine ifB_elim hm (fun hb163 hm => ?_) (fun hb163 hm => ?_)
      · refine OW.cons (OP.yes' rfl rfl hb163 (OP.val (v := v1) rfl (x_mv f155) ?_))
        refine OW.cons (OP.yes' rfl rfl hb163 (OP.val (v := (.int .i64 (a0.length : Int))) rfl (x_lenR Try.underlying34 rfl (hL.rdS 0 rfl h2)) ?_))
        refine OW.cons (OP.yes' rfl rfl hb163 (OP.val (v := (.bool (decide ((a0.length : Int) ≤ 12)))) rfl (x_leq rfl rfl) ?_))
        refine OW.cons (OP.val (v := (.bool (decide ((a0.length : Int) ≤ 12)))) rfl (x_pickT' rfl hb163 rfl) ?_)
        refine OW.cons (OP.val (v := (.bool (decide ((a0.length : Int) ≤ 12)))) rfl (x_assign) ?_)
        refine OW.nil ?_
        exact ⟨decide ((a0.length : Int) ≤ 12), hm, ⟨rfl, hL⟩⟩
      · refine OW.cons (OP.no' rfl rfl hb163 rfl ?_)
        refine OW.cons (OP.no' rfl rfl hb163 rfl ?_)
        refine OW.cons (OP.no' rfl rfl hb163 rfl ?_)
        refine OW.cons (OP.val (v := (.bool false)) rfl (x_pickF' rfl hb163 rfl) ?_)
        refine OW.cons (OP.val (v := (.bool false)) rfl (x_assign) ?_)
        refine OW.nil ?_
        exact ⟨false, hm, ⟨rfl, hL⟩⟩
    · intro s_j1 F160 wd161 hJ hm
      unfold M.impl_IsCurve_j1 at hm
      obtain ⟨f162, hL⟩ := hJ
      refine CW.ret ?_
      obtain rfl := Option.some.inj hm
      exact RR1 rfl f162 ⟨rfl, hL.fresh 0 rfl [] (by decide) (by decide) rfl⟩
  · intro s_l1 F164 wd165 t149 hJ hm hr150
    unfold M.impl_IsCurve_l1 at hm
    obtain ⟨f166, f167, f168, f169, hL⟩ := hJ
    refine CW.seq ?_
    refine CW.regionL ?_
    refine OW.cons (OP.val (v := (.bool (decide (s_l1 < (a0.length : Int))))) rfl (x_lss f169 f168) ?_)
    refine OW.nil ?_
    refine CW.seq ?_
    refine CW.condM (t := decide (s_l1 < (a0.length : Int))) rfl hm (fun hb170 hm => ?_) (fun hb170 hm => ?_)
    · refine CW.skip ?_
      refine CW.seq ?_
      refine CW.block ?_
      refine CW.seq ?_
      refine CW.regionL ?_
      refine OW.cons (OP.val (v := (.int .i64 s_l1)) rfl (x_mv f169) ?_)
      obtain ⟨x171, ha172, hm⟩ := bndE hm
      obtain ⟨hz173, ha177⟩ := idxE ha172
      obtain ⟨b174, q175, hix176⟩ := rdL_ix (hL.rdS 0 rfl h2) hz173 ha177
      refine OW.cons (OP.val (v := (.pointer (some ⟨b174, q175, none⟩))) rfl (x_ix Try.underlying34 Try_T62 f167 f169 hix176) ?_)
      refine OW.cons (OP.val (v := (.agg #[(.int .i64 x171.Wind), (.int .i64 x171.Pace)])) rfl (x_loadN (cs := [(.int .i64 x171.Wind), (.int .i64 x171.Pace)]) Try.underlying62 Try_T62 rfl rfl (rdF_cells (hL.rdS 0 rfl h2) hix176 ha177)) ?_)
      refine OW.cons (S_alloc (cs := #[(.int .i64 0), (.int .i64 0)]) hL Try_T62 rfl rfl ?_)
      intro wd178 b179 hL
      refine OW.cons (OP.val (v := (.int .i64 s_l1)) rfl (x_assign) ?_)
      refine OW.cons (S_storeN (l := [(.int .i64 x171.Wind), (.int .i64 x171.Pace)]) (cs' := #[(.int .i64 x171.Wind), (.int .i64 x171.Pace)]) hL 0 rfl Try_T62 rfl rfl (List.forall_mem_cons.2 ⟨rfl, (List.forall_mem_cons.2 ⟨rfl, (fun _ h => by cases h)⟩)⟩) rfl (Nat.le_of_ble_eq_true rfl) rfl ?_)
      intro wd180 hL
      refine OW.nil ?_
      refine CW.seqJ (fun (s_j2 : Bool) (F : Fr) (w : World) => F 0 = v1 ∧ F 5 = v1 ∧ F 6 = (.int .i64 (a0.length : Int)) ∧ F 7 = (.int .i64 s_l1) ∧ F 47 = (.bool s_j2) ∧ Hp w0 [Ent.blk b179 62 #[(.int .i64 x171.Wind), (.int .i64 x171.Pace)], Ent.snap w0 w0.heap.size] w) (fun s_j2 => M.impl_IsCurve_j2 s_l1 s_j2 = some t149) ?_ ?_
      · refine CW.draw Try_mixed ?_
        have hL := hL.call (Mod.drew _)
        refine DW.pre (fuel := 0) (fin := (((((((((((((((((((((((((((((((((((((Array.replicate 36 false).setIfInBounds 0 true).setIfInBounds 1 true).setIfInBounds 2 true).setIfInBounds 3 true).setIfInBounds 4 true).setIfInBounds 5 true).setIfInBounds 6 true).setIfInBounds 7 true).setIfInBounds 8 true).setIfInBounds 9 true).setIfInBounds 10 true).setIfInBounds 11 true).setIfInBounds 12 true).setIfInBounds 13 true).setIfInBounds 14 true).setIfInBounds 15 true).setIfInBounds 16 true).setIfInBounds 17 true).setIfInBounds 18 true).setIfInBounds 19 true).setIfInBounds 20 true).setIfInBounds 21 true).setIfInBounds 22 true).setIfInBounds 23 true).setIfInBounds 24 true).setIfInBounds 25 true).setIfInBounds 26 true).setIfInBounds 27 true).setIfInBounds 28 true).setIfInBounds 29 true).setIfInBounds 30 true).setIfInBounds 31 true).setIfInBounds 32 true).setIfInBounds 33 true).setIfInBounds 34 true).setIfInBounds 35 true)) (C := fun w' => Mod None_ _ w') [0, 1, 2, 3, 4, 5, 6, 7, 8, 9, 10, 11, 12, 13, 14, 15, 16, 17, 18, 19, 20, 21, 22, 23, 24, 25, 26, 27, 28, 29, 30, 31, 32, 33, 34, 35] (Mod.refl _ _) (by kernel_rfl) (by kernel_rfl) ?_
        refine QW.cons rfl (QP.val (v := (.pointer (some ⟨b179, 0, none⟩))) rfl (fun w' hm' => x_fieldAddr (fsz := 1) 0 0 0 Try.underlying62 rfl Try_T2 rfl rfl rfl) ?_)
        refine QW.cons rfl (QP.val (v := (.int .i64 x171.Wind)) rfl (fun w' hm' => x_load1 Try.underlying2 rfl rfl ((hL.call hm').cellB 0 rfl rfl)) ?_)
        obtain ⟨x216, hx217, hm⟩ := bndE hm
        refine QW.cons rfl (QP.call (v := (.bool x216)) rfl (fun w' hm' => x_call (vs := [(.int .i64 x171.Wind), (.int .i64 0), (.int .i64 1000)]) Try_C37 ⟨rfl, rfl, rfl, trivial⟩) (fun w' hm' => (M.impl_within_ok w' x171.Wind 0 1000 hx217).mono (fun e w'' h => ⟨h.1, hm'.trans h.2.mod⟩)) ?_)
        refine QW.cons rfl (QP.val (v := (.bool (!x216))) rfl (fun w' hm' => x_not rfl) ?_)
        refine QW.cons rfl (QP.val (v := (.bool (!x216))) rfl (fun w' hm' => x_move) ?_)
        refine ifB_elim hm (fun hb218 hm => ?_) (fun hb218 hm => ?_)
        · refine QW.cons rfl (QP.no' rfl rfl hb218 rfl ?_)
          refine QW.cons rfl (QP.no' rfl rfl hb218 rfl ?_)
          refine QW.cons rfl (QP.no' rfl rfl hb218 rfl ?_)
          refine QW.cons rfl (QP.no' rfl rfl hb218 rfl ?_)
          refine QW.cons rfl (QP.val (v := (.bool true)) rfl (fun w' hm' => x_pickT' rfl hb218 rfl) ?_)
          refine QW.cons rfl (QP.val (v := (.bool true)) rfl (fun w' hm' => x_move) ?_)
          refine QW.cons rfl (QP.no' rfl rfl rfl rfl ?_)
          refine QW.cons rfl (QP.no' rfl rfl rfl rfl ?_)
          refine QW.cons rfl (QP.no' rfl rfl rfl rfl ?_)
          refine QW.cons rfl (QP.noU rfl rfl rfl ?_)
          refine QW.cons rfl (QP.noU rfl rfl rfl ?_)
          refine QW.cons rfl (QP.noU rfl rfl rfl ?_)
          refine QW.cons rfl (QP.noU rfl rfl rfl ?_)
          refine QW.cons rfl (QP.noU rfl rfl rfl ?_)
          refine QW.cons rfl (QP.noU rfl rfl rfl ?_)
          refine QW.cons rfl (QP.noU rfl rfl rfl ?_)
          refine QW.cons rfl (QP.noU rfl rfl rfl ?_)
          refine QW.cons rfl (QP.noU rfl rfl rfl ?_)
          refine QW.cons rfl (QP.noU rfl rfl rfl ?_)
          refine QW.cons rfl (QP.noU rfl rfl rfl ?_)
          refine QW.cons rfl (QP.noU rfl rfl rfl ?_)
          refine QW.cons rfl (QP.noU rfl rfl rfl ?_)
          refine QW.cons rfl (QP.noU rfl rfl rfl ?_)
          refine QW.cons rfl (QP.noU rfl rfl rfl ?_)
          refine QW.cons rfl (QP.noU rfl rfl rfl ?_)
          refine QW.cons rfl (QP.noU rfl rfl rfl ?_)
          refine QW.cons rfl (QP.noU rfl rfl rfl ?_)
          refine QW.cons rfl (QP.noU rfl rfl rfl ?_)
          refine QW.cons rfl (QP.noU rfl rfl rfl ?_)
          refine QW.cons rfl (QP.no' rfl rfl rfl rfl ?_)
          refine QW.cons rfl (QP.val (v := (.bool true)) rfl (fun w' hm' => x_pickT' rfl rfl rfl) ?_)
          refine QW.nil ?_
          intro wd219 hmod
          have hL := hL.call hmod
          refine DW.done (by kernel_rfl) ?_
          exact ⟨true, hm, ⟨f166, f167, f168, f169, rfl, hL⟩⟩
        · refine QW.cons rfl (QP.yes' rfl rfl hb218 (QP.val (v := (.pointer (some ⟨b179, 1, none⟩))) rfl (fun w' hm' => x_fieldAddr (fsz := 1) 0 1 1 Try.underlying62 rfl Try_T2 rfl rfl rfl) ?_))
          refine QW.cons rfl (QP.yes' rfl rfl hb218 (QP.val (v := (.int .i64 x171.Pace)) rfl (fun w' hm' => x_load1 Try.underlying2 rfl rfl ((hL.call hm').cellB 0 rfl rfl)) ?_))
          obtain ⟨x220, hx221, hm⟩ := bndE hm
          refine QW.cons rfl (QP.yes' rfl rfl hb218 (QP.call (v := (.bool x220)) rfl (fun w' hm' => x_call (vs := [(.int .i64 x171.Pace), (.int .i64 1), (.int .i64 1000000)]) Try_C37 ⟨rfl, rfl, rfl, trivial⟩) (fun w' hm' => (M.impl_within_ok w' x171.Pace 1 1000000 hx221).mono (fun e w'' h => ⟨h.1, hm'.trans h.2.mod⟩)) ?_))
          refine QW.cons rfl (QP.yes' rfl rfl hb218 (QP.val (v := (.bool (!x220))) rfl (fun w' hm' => x_not rfl) ?_))
          refine QW.cons rfl (QP.val (v := (.bool (!x220))) rfl (fun w' hm' => x_pickF' rfl hb218 rfl) ?_)
          refine QW.cons rfl (QP.val (v := (.bool (!x220))) rfl (fun w' hm' => x_move) ?_)
          refine ifB_elim hm (fun hb222 hm => ?_) (fun hb222 hm => ?_)
          · refine QW.cons rfl (QP.no' rfl rfl hb222 rfl ?_)
            refine QW.cons rfl (QP.no' rfl rfl hb222 rfl ?_)
            refine QW.cons rfl (QP.no' rfl rfl hb222 rfl ?_)
            refine QW.cons rfl (QP.noU rfl rfl rfl ?_)
            refine QW.cons rfl (QP.noU rfl rfl rfl ?_)
            refine QW.cons rfl (QP.noU rfl rfl rfl ?_)
            refine QW.cons rfl (QP.noU rfl rfl rfl ?_)
            refine QW.cons rfl (QP.noU rfl rfl rfl ?_)
            refine QW.cons rfl (QP.noU rfl rfl rfl ?_)
            refine QW.cons rfl (QP.noU rfl rfl rfl ?_)
            refine QW.cons rfl (QP.noU rfl rfl rfl ?_)
            refine QW.cons rfl (QP.noU rfl rfl rfl ?_)
            refine QW.cons rfl (QP.noU rfl rfl rfl ?_)
            refine QW.cons rfl (QP.noU rfl rfl rfl ?_)
            refine QW.cons rfl (QP.noU rfl rfl rfl ?_)
            refine QW.cons rfl (QP.noU rfl rfl rfl ?_)
            refine QW.cons rfl (QP.noU rfl rfl rfl ?_)
            refine QW.cons rfl (QP.noU rfl rfl rfl ?_)
            refine QW.cons rfl (QP.noU rfl rfl rfl ?_)
            refine QW.cons rfl (QP.noU rfl rfl rfl ?_)
            refine QW.cons rfl (QP.noU rfl rfl rfl ?_)
            refine QW.cons rfl (QP.noU rfl rfl rfl ?_)
            refine QW.cons rfl (QP.noU rfl rfl rfl ?_)
            refine QW.cons rfl (QP.no' rfl rfl hb222 rfl ?_)
            refine QW.cons rfl (QP.val (v := (.bool true)) rfl (fun w' hm' => x_pickT' rfl hb222 rfl) ?_)
            refine QW.nil ?_
            intro wd223 hmod
            have hL := hL.call hmod
            refine DW.done (by kernel_rfl) ?_
            exact ⟨true, hm, ⟨f166, f167, f168, f169, rfl, hL⟩⟩
          · refine QW.cons rfl (QP.yes' rfl rfl hb222 (QP.val (v := (.int .i64 s_l1)) rfl (fun w' hm' => x_move) ?_))
            refine QW.cons rfl (QP.yes' rfl rfl hb222 (QP.val (v := (.bool (decide (0 < s_l1)))) rfl (fun w' hm' => x_gtr rfl rfl) ?_))
            refine QW.cons rfl (QP.yes' rfl rfl hb222 (QP.val (v := (.bool (decide (0 < s_l1)))) rfl (fun w' hm' => x_move) ?_))
            refine ifB_elim hm (fun hb224 hm => ?_) (fun hb224 hm => ?_)
            · refine QW.cons rfl (QP.yes' rfl rfl hb224 (QP.val (v := v1) rfl (fun w' hm' => x_mv f166) ?_))
              refine QW.cons rfl (QP.yes' rfl rfl hb224 (QP.val (v := (.int .i64 s_l1)) rfl (fun w' hm' => x_move) ?_))
              refine QW.cons rfl (QP.yes' rfl rfl hb224 (QP.val (v := (.int .i64 (w64 (s_l1 - 1)))) rfl (fun w' hm' => x_sub rfl rfl) ?_))
              obtain ⟨x225, ha226, hm⟩ := bndE hm
              obtain ⟨hz227, ha231⟩ := idxE ha226
              obtain ⟨b228, q229, hix230⟩ := rdL_ix (hL.rdS 1 rfl h2) hz227 ha231
              refine QW.cons rfl (QP.yes' rfl rfl hb224 (QP.val (v := (.pointer (some ⟨b228, q229, none⟩))) rfl (fun w' hm' => x_ix Try.underlying34 Try_T62 rfl rfl hix230) ?_))
              refine QW.cons rfl (QP.yes' rfl rfl hb224 (QP.val (v := (.pointer (some ⟨b228, q229, none⟩))) rfl (fun w' hm' => x_fieldAddr (fsz := 1) q229 0 q229 Try.underlying62 rfl Try_T2 rfl rfl rfl) ?_))
              refine QW.cons rfl (QP.yes' rfl rfl hb224 (QP.val (v := (.int .i64 x225.Wind)) rfl (fun w' hm' => x_load1 Try.underlying2 rfl rfl (rdF_cells ((hL.call hm').rdS 1 rfl h2) hix230 ha231 0 _ rfl)) ?_))
              refine QW.cons rfl (QP.yes' rfl rfl hb224 (QP.val (v := (.pointer (some ⟨b179, 0, none⟩))) rfl (fun w' hm' => x_fieldAddr (fsz := 1) 0 0 0 Try.underlying62 rfl Try_T2 rfl rfl rfl) ?_))
              refine QW.cons rfl (QP.yes' rfl rfl hb224 (QP.val (v := (.int .i64 x171.Wind)) rfl (fun w' hm' => x_load1 Try.underlying2 rfl rfl ((hL.call hm').cellB 0 rfl rfl)) ?_))
              refine QW.cons rfl (QP.yes' rfl rfl hb224 (QP.val (v := (.bool (decide (x171.Wind ≤ x225.Wind)))) rfl (fun w' hm' => x_geq rfl rfl) ?_))
              refine QW.cons rfl (QP.yes' rfl rfl hb224 (QP.val (v := (.bool (decide (x171.Wind ≤ x225.Wind)))) rfl (fun w' hm' => x_move) ?_))
              refine ifB_elim hm (fun hb232 hm => ?_) (fun hb232 hm => ?_)
              · refine QW.cons rfl (QP.no' rfl rfl hb232 rfl ?_)
                refine QW.cons rfl (QP.no' rfl rfl hb232 rfl ?_)
                refine QW.cons rfl (QP.no' rfl rfl hb232 rfl ?_)
                refine QW.cons rfl (QP.no' rfl rfl hb232 rfl ?_)
                refine QW.cons rfl (QP.no' rfl rfl hb232 rfl ?_)
                refine QW.cons rfl (QP.no' rfl rfl hb232 rfl ?_)
                refine QW.cons rfl (QP.no' rfl rfl hb232 rfl ?_)
                refine QW.cons rfl (QP.no' rfl rfl hb232 rfl ?_)
                refine QW.cons rfl (QP.no' rfl rfl hb232 rfl ?_)
                refine QW.cons rfl (QP.yes' rfl rfl hb224 (QP.val (v := (.bool true)) rfl (fun w' hm' => x_pickT' rfl hb232 rfl) ?_))
                refine QW.cons rfl (QP.yes' rfl rfl hb222 (QP.val (v := (.bool true)) rfl (fun w' hm' => x_pickT' rfl hb224 rfl) ?_))
                refine QW.cons rfl (QP.val (v := (.bool true)) rfl (fun w' hm' => x_pickF' rfl hb222 rfl) ?_)
                refine QW.nil ?_
                intro wd233 hmod
                have hL := hL.call hmod
                refine DW.done (by kernel_rfl) ?_
                exact ⟨true, hm, ⟨f166, f167, f168, f169, rfl, hL⟩⟩
              · refine QW.cons rfl (QP.yes' rfl rfl hb232 (QP.val (v := v1) rfl (fun w' hm' => x_mv f166) ?_))
                refine QW.cons rfl (QP.yes' rfl rfl hb232 (QP.val (v := (.int .i64 s_l1)) rfl (fun w' hm' => x_move) ?_))
                refine QW.cons rfl (QP.yes' rfl rfl hb232 (QP.val (v := (.int .i64 (w64 (s_l1 - 1)))) rfl (fun w' hm' => x_sub rfl rfl) ?_))
                obtain ⟨x234, ha235, hm⟩ := bndE hm
                obtain ⟨hz236, ha240⟩ := idxE ha235
                obtain ⟨b237, q238, hix239⟩ := rdL_ix (hL.rdS 1 rfl h2) hz236 ha240
                refine QW.cons rfl (QP.yes' rfl rfl hb232 (QP.val (v := (.pointer (some ⟨b237, q238, none⟩))) rfl (fun w' hm' => x_ix Try.underlying34 Try_T62 rfl rfl hix239) ?_))
                refine QW.cons rfl (QP.yes' rfl rfl hb232 (QP.val (v := (.pointer (some ⟨b237, q238 + 1, none⟩))) rfl (fun w' hm' => x_fieldAddr (fsz := 1) q238 1 (q238 + 1) Try.underlying62 rfl Try_T2 rfl rfl rfl) ?_))
                refine QW.cons rfl (QP.yes' rfl rfl hb232 (QP.val (v := (.int .i64 x234.Pace)) rfl (fun w' hm' => x_load1 Try.underlying2 rfl rfl (rdF_cells ((hL.call hm').rdS 1 rfl h2) hix239 ha240 1 _ rfl)) ?_))
                refine QW.cons rfl (QP.yes' rfl rfl hb232 (QP.val (v := (.pointer (some ⟨b179, 1, none⟩))) rfl (fun w' hm' => x_fieldAddr (fsz := 1) 0 1 1 Try.underlying62 rfl Try_T2 rfl rfl rfl) ?_))
                refine QW.cons rfl (QP.yes' rfl rfl hb232 (QP.val (v := (.int .i64 x171.Pace)) rfl (fun w' hm' => x_load1 Try.underlying2 rfl rfl ((hL.call hm').cellB 0 rfl rfl)) ?_))
                refine QW.cons rfl (QP.yes' rfl rfl hb232 (QP.val (v := (.bool (decide (x234.Pace ≤ x171.Pace)))) rfl (fun w' hm' => x_leq rfl rfl) ?_))
                refine QW.cons rfl (QP.yes' rfl rfl hb224 (QP.val (v := (.bool (decide (x234.Pace ≤ x171.Pace)))) rfl (fun w' hm' => x_pickF' rfl hb232 rfl) ?_))
                refine QW.cons rfl (QP.yes' rfl rfl hb222 (QP.val (v := (.bool (decide (x234.Pace ≤ x171.Pace)))) rfl (fun w' hm' => x_pickT' rfl hb224 rfl) ?_))
                refine QW.cons rfl (QP.val (v := (.bool (decide (x234.Pace ≤ x171.Pace)))) rfl (fun w' hm' => x_pickF' rfl hb222 rfl) ?_)
                refine QW.nil ?_
                intro wd241 hmod
                have hL := hL.call hmod
                refine DW.done (by kernel_rfl) ?_
                exact ⟨decide (x234.Pace ≤ x171.Pace), hm, ⟨f166, f167, f168, f169, rfl, hL⟩⟩
            · refine QW.cons rfl (QP.no' rfl rfl hb224 rfl ?_)
              refine QW.cons rfl (QP.no' rfl rfl hb224 rfl ?_)
              refine QW.cons rfl (QP.no' rfl rfl hb224 rfl ?_)
              refine QW.cons rfl (QP.no' rfl rfl hb224 rfl ?_)
              refine QW.cons rfl (QP.no' rfl rfl hb224 rfl ?_)
              refine QW.cons rfl (QP.no' rfl rfl hb224 rfl ?_)
              refine QW.cons rfl (QP.no' rfl rfl hb224 rfl ?_)
              refine QW.cons rfl (QP.no' rfl rfl hb224 rfl ?_)
              refine QW.cons rfl (QP.no' rfl rfl hb224 rfl ?_)
              refine QW.cons rfl (QP.no' rfl rfl hb224 rfl ?_)
              refine QW.cons rfl (QP.noU rfl rfl rfl ?_)
              refine QW.cons rfl (QP.noU rfl rfl rfl ?_)
              refine QW.cons rfl (QP.noU rfl rfl rfl ?_)
              refine QW.cons rfl (QP.noU rfl rfl rfl ?_)
              refine QW.cons rfl (QP.noU rfl rfl rfl ?_)
              refine QW.cons rfl (QP.noU rfl rfl rfl ?_)
              refine QW.cons rfl (QP.noU rfl rfl rfl ?_)
              refine QW.cons rfl (QP.noU rfl rfl rfl ?_)
              refine QW.cons rfl (QP.noU rfl rfl rfl ?_)
              refine QW.cons rfl (QP.no' rfl rfl hb224 rfl ?_)
              refine QW.cons rfl (QP.yes' rfl rfl hb222 (QP.val (v := (.bool false)) rfl (fun w' hm' => x_pickF' rfl hb224 rfl) ?_))
              refine QW.cons rfl (QP.val (v := (.bool false)) rfl (fun w' hm' => x_pickF' rfl hb222 rfl) ?_)
              refine QW.nil ?_
              intro wd242 hmod
              have hL := hL.call hmod
              refine DW.done (by kernel_rfl) ?_
              exact ⟨false, hm, ⟨f166, f167, f168, f169, rfl, hL⟩⟩
      · intro s_j2 F208 wd209 hJ hm
        unfold M.impl_IsCurve_j2 at hm
        obtain ⟨f210, f211, f212, f213, f214, hL⟩ := hJ
        refine CW.condM (t := s_j2) f214 hm (fun hb215 hm => ?_) (fun hb215 hm => ?_)
        · refine CW.seq ?_
          refine CW.regionL ?_
          refine OW.cons (OP.val (v := (.bool false)) rfl (x_assign) ?_)
          refine OW.nil ?_
          refine CW.ret ?_
          obtain rfl := Option.some.inj hm
          have hm := hr150 _ rfl
          obtain rfl := Option.some.inj hm
          exact RR1 rfl rfl ⟨rfl, hL.fresh 1 rfl [] (by decide) (by decide) rfl⟩
        · refine CW.skip ?_
          refine CW.regionL ?_
          refine OW.cons (OP.val (v := (.int .i64 (w64 (s_l1 + 1)))) rfl (x_add f213 rfl) ?_)
          refine OW.cons (OP.val (v := (.int .i64 (w64 (s_l1 + 1)))) rfl (x_move) ?_)
          refine OW.nil ?_
          have hL := hL.sel [1] (by decide) rfl
          obtain rfl := Option.some.inj hm
          exact ⟨_, rfl, ⟨f210, f211, f212, rfl, hL⟩⟩
    · refine CW.exit ?_
      refine XJ.hit ?_
      obtain rfl := Option.some.inj hm
      exact ⟨_, rfl, ⟨f166, f167, f168, f169, hL⟩⟩

theorem M.impl_CorrectByCurves_1_ok (w0 : World) (a0 : List CurvePoint) {v1 : Value} (h2 : rdL (· < w0.heap.size) w0 v1 a0) {r : Bool} (hm : M.impl_CorrectByCurves_1 a0 = some r) :
    Calls Try.prog 35 #[v1] w0 fun e w' => e = .returned (.bool r) ∧ Fresh w0 w' [] := by
  unfold M.impl_CorrectByCurves_1 at hm
  refine calls_CW (args := [v1]) Try.func35 rfl rfl rfl ?_
  have hL := Hp.start w0
  refine CW.seq ?_
  refine CW.regionL ?_
  refine OW.cons (OP.val (v := (.bool false)) rfl (x_assign) ?_)
  refine OW.nil ?_
  refine CW.seq ?_
  refine CW.regionL ?_
  refine OW.cons (OP.val (v := v1) rfl (x_move) ?_)
  obtain ⟨x3, hx4, hm⟩ := bndE hm
  refine OW.cons (OP.call rfl (x_call (vs := [v1]) Try_C36 ⟨rfl, trivial⟩) (M.impl_IsCurve_ok _ a0 (hL.rdS 0 rfl h2) hx4) ?_)
  rintro e5 wd6 ⟨rfl, hF7⟩
  refine ⟨_, rfl, ?_⟩
  have hL := hL.pushAll hF7
  simp only [lA, lB, lC, lD] at hL
  refine OW.cons (OP.val (v := (.bool (!x3))) rfl (x_not rfl) ?_)
  refine OW.cons (OP.val (v := (.bool (!x3))) rfl (x_assign) ?_)
  refine OW.nil ?_
  refine CW.ret ?_
  obtain rfl := Option.some.inj hm
  exact RR1 rfl rfl ⟨rfl, hL.fresh 0 rfl [] (by decide) (by decide) rfl⟩

theorem M.impl_isDistance_ok (w0 : World) (a0 : Int) {r : Bool} (hm : M.impl_isDistance a0 = some r) :
    Calls Try.prog 38 #[(.int .i64 a0)] w0 fun e w' => e = .returned (.bool r) ∧ Fresh w0 w' [] := by
  unfold M.impl_isDistance at hm
  refine calls_CW (args := [(.int .i64 a0)]) Try.func38 rfl rfl rfl ?_
  have hL := Hp.start w0
  refine CW.seq ?_
  refine CW.regionL ?_
  refine OW.cons (OP.val (v := (.bool false)) rfl (x_assign) ?_)
  refine OW.nil ?_
  refine CW.seq ?_
  refine CW.regionL ?_
  refine OW.cons (OP.val (v := (.int .i64 a0)) rfl (x_move) ?_)
  obtain ⟨x1, hx2, hm⟩ := bndE hm
  refine OW.cons (OP.call rfl (x_call (vs := [(.int .i64 a0), (.int .i64 1), (.int .i64 10000000)]) Try_C37 ⟨rfl, rfl, rfl, trivial⟩) (M.impl_within_ok _ a0 1 10000000 hx2) ?_)
  rintro e3 wd4 ⟨rfl, hF5⟩
  refine ⟨_, rfl, ?_⟩
  have hL := hL.pushAll hF5
  simp only [lA, lB, lC, lD] at hL
  refine OW.cons (OP.val (v := (.bool x1)) rfl (x_assign) ?_)
  refine OW.nil ?_
  refine CW.ret ?_
  obtain rfl := Option.some.inj hm
  exact RR1 rfl rfl ⟨rfl, hL.fresh 0 rfl [] (by decide) (by decide) rfl⟩

theorem M.impl_floorDiv_ok (w0 : World) (a0 : Int) (a1 : Int) {r : Int} (hm : M.impl_floorDiv a0 a1 = some r) :
    Calls Try.prog 65 #[(.int .i64 a0), (.int .i64 a1)] w0 fun e w' => e = .returned (.int .i64 r) ∧ Fresh w0 w' [] := by
  unfold M.impl_floorDiv at hm
  refine calls_CW (args := [(.int .i64 a0), (.int .i64 a1)]) Try.func65 rfl rfl rfl ?_
  have hL := Hp.start w0
  refine CW.seq ?_
  refine CW.regionL ?_
  refine OW.cons (OP.val (v := (.int .i64 0)) rfl (x_assign) ?_)
  refine OW.nil ?_
  refine CW.seq ?_
  refine CW.regionL ?_
  refine OW.cons (OP.val (v := (.int .i64 a0)) rfl (x_move) ?_)
  refine OW.cons (OP.val (v := (.int .i64 a1)) rfl (x_move) ?_)
  obtain ⟨hc1, hm⟩ := chkE hm
  refine OW.cons (OP.val (v := (.int .i64 (w64 (a0.tdiv a1)))) rfl (x_quo rfl rfl hc1) ?_)
  refine OW.cons (OP.val (v := (.int .i64 (w64 (a0.tdiv a1)))) rfl (x_assign) ?_)
  refine OW.nil ?_
  refine CW.seqJ (fun (s_j1 : Int) (F : Fr) (w : World) => F 5 = (.int .i64 s_j1) ∧ Hp w0 [Ent.snap w0 w0.heap.size] w) (fun s_j1 => M.impl_floorDiv_j1 s_j1 = some r) ?_ ?_
  · refine CW.seq ?_
    refine CW.regionL ?_
    refine OW.cons (OP.val (v := (.int .i64 a0)) rfl (x_move) ?_)
    refine OW.cons (OP.val (v := (.int .i64 a1)) rfl (x_move) ?_)
    obtain ⟨hc7, hm⟩ := chkE hm
    refine OW.cons (OP.val (v := (.int .i64 (a0.tmod a1))) rfl (x_rem rfl rfl hc7) ?_)
    refine OW.cons (OP.val (v := (.bool (decide ((a0.tmod a1) < 0)))) rfl (x_lss rfl rfl) ?_)
    refine OW.nil ?_
    refine CW.condM (t := decide ((a0.tmod a1) < 0)) rfl hm (fun hb8 hm => ?_) (fun hb8 hm => ?_)
    · refine CW.regionL ?_
      refine OW.cons (OP.val (v := (.int .i64 (w64 (a0.tdiv a1)))) rfl (x_move) ?_)
      refine OW.cons (OP.val (v := (.int .i64 (w64 ((w64 (a0.tdiv a1)) - 1)))) rfl (x_sub rfl rfl) ?_)
      refine OW.cons (OP.val (v := (.int .i64 (w64 ((w64 (a0.tdiv a1)) - 1)))) rfl (x_assign) ?_)
      refine OW.nil ?_
      exact ⟨w64 ((w64 (a0.tdiv a1)) - 1), hm, ⟨rfl, hL⟩⟩
    · refine CW.skip ?_
      exact ⟨w64 (a0.tdiv a1), hm, ⟨rfl, hL⟩⟩
  · intro s_j1 F4 wd5 hJ hm
    unfold M.impl_floorDiv_j1 at hm
    obtain ⟨f6, hL⟩ := hJ
    refine CW.seq ?_
    refine CW.regionL ?_
    refine OW.cons (OP.val (v := (.int .i64 s_j1)) rfl (x_mv f6) ?_)
    refine OW.cons (OP.val (v := (.int .i64 s_j1)) rfl (x_assign) ?_)
    refine OW.nil ?_
    refine CW.ret ?_
    obtain rfl := Option.some.inj hm
    exact RR1 rfl rfl ⟨rfl, hL.fresh 0 rfl [] (by decide) (by decide) rfl⟩

theorem M.impl_paceAt_ok (w0 : World) (a0 : List CurvePoint) {v1 : Value} (h2 : rdL (· < w0.heap.size) w0 v1 a0) (a1 : Int) {r : Int} (hm : M.impl_paceAt a0 a1 = some r) :
    Calls Try.prog 51 #[v1, (.int .i64 a1)] w0 fun e w' => e = .returned (.int .i64 r) ∧ Fresh w0 w' [] := by
  unfold M.impl_paceAt at hm
  refine calls_CW (args := [v1, (.int .i64 a1)]) Try.func51 rfl rfl rfl ?_
  have hL := Hp.start w0
  refine CW.seq ?_
  refine CW.regionL ?_
  refine OW.cons (OP.val (v := (.int .i64 0)) rfl (x_assign) ?_)
  refine OW.nil ?_
  refine CW.seq ?_
  refine CW.seq ?_
  refine CW.regionL ?_
  refine OW.cons (OP.val (v := v1) rfl (x_move) ?_)
  refine OW.cons (OP.val (v := (.int .i64 (a0.length : Int))) rfl (x_lenR Try.underlying34 rfl (hL.rdS 0 rfl h2)) ?_)
  refine OW.cons (OP.val (v := (.int .i64 0)) rfl (x_move) ?_)
  refine OW.nil ?_
  obtain ⟨o57, ho58, hm⟩ := bndE hm
  refine CW.loopB (fun (s_l1 : Int) (F : Fr) (w : World) => F 0 = v1 ∧ F 1 = (.int .i64 a1) ∧ F 8 = v1 ∧ F 9 = (.int .i64 (a0.length : Int)) ∧ F 10 = (.int .i64 s_l1) ∧ Hp w0 [Ent.snap w0 w0.heap.size] w) (fun o => outc o (fun x => some x) (fun s => M.impl_paceAt_a1 a0 s) = some r) ho58 hm ⟨rfl, rfl, rfl, rfl, rfl, hL⟩ ?_ ?_
  · intro s_l1 F59 wd60 hJ hm
    have hm := outcE hm
    have hm : M.impl_paceAt_a1 a0 s_l1 = some r := hm
    unfold M.impl_paceAt_a1 at hm
    obtain ⟨f61, f62, f63, f64, f65, hL⟩ := hJ
    refine CW.seq ?_
    refine CW.regionL ?_
    refine OW.cons (OP.val (v := v1) rfl (x_mv f61) ?_)
    refine OW.cons (OP.val (v := v1) rfl (x_mv f61) ?_)
    refine OW.cons (OP.val (v := (.int .i64 (a0.length : Int))) rfl (x_lenR Try.underlying34 rfl (hL.rdS 0 rfl h2)) ?_)
    refine OW.cons (OP.val (v := (.int .i64 (w64 ((a0.length : Int) - 1)))) rfl (x_sub rfl rfl) ?_)
    obtain ⟨x66, ha67, hm⟩ := bndE hm
    obtain ⟨hz68, ha72⟩ := idxE ha67
    obtain ⟨b69, q70, hix71⟩ := rdL_ix (hL.rdS 0 rfl h2) hz68 ha72
    refine OW.cons (OP.val (v := (.pointer (some ⟨b69, q70, none⟩))) rfl (x_ix Try.underlying34 Try_T62 rfl rfl hix71) ?_)
    refine OW.cons (OP.val (v := (.pointer (some ⟨b69, q70 + 1, none⟩))) rfl (x_fieldAddr (fsz := 1) q70 1 (q70 + 1) Try.underlying62 rfl Try_T2 rfl rfl rfl) ?_)
    refine OW.cons (OP.val (v := (.int .i64 x66.Pace)) rfl (x_load1 Try.underlying2 rfl rfl (rdF_cells (hL.rdS 0 rfl h2) hix71 ha72 1 _ rfl)) ?_)
    refine OW.cons (OP.val (v := (.int .i64 x66.Pace)) rfl (x_assign) ?_)
    refine OW.nil ?_
    refine CW.ret ?_
    obtain rfl := Option.some.inj hm
    exact RR1 rfl rfl ⟨rfl, hL.fresh 0 rfl [] (by decide) (by decide) rfl⟩
  · intro s_l1 F73 wd74 t55 hJ hm hr56
    unfold M.impl_paceAt_l1 at hm
    obtain ⟨f75, f76, f77, f78, f79, hL⟩ := hJ
    refine CW.seq ?_
    refine CW.regionL ?_
    refine OW.cons (OP.val (v := (.bool (decide (s_l1 < (a0.length : Int))))) rfl (x_lss f79 f78) ?_)
    refine OW.nil ?_
    refine CW.seq ?_
    refine CW.condM (t := decide (s_l1 < (a0.length : Int))) rfl hm (fun hb80 hm => ?_) (fun hb80 hm => ?_)
    · refine CW.skip ?_
      refine CW.seq ?_
      refine CW.block ?_
      refine CW.seq ?_
      refine CW.regionL ?_
      refine OW.cons (OP.val (v := (.int .i64 s_l1)) rfl (x_mv f79) ?_)
      obtain ⟨x81, ha82, hm⟩ := bndE hm
      obtain ⟨hz83, ha87⟩ := idxE ha82
      obtain ⟨b84, q85, hix86⟩ := rdL_ix (hL.rdS 0 rfl h2) hz83 ha87
      refine OW.cons (OP.val (v := (.pointer (some ⟨b84, q85, none⟩))) rfl (x_ix Try.underlying34 Try_T62 f77 f79 hix86) ?_)
      refine OW.cons (OP.val (v := (.agg #[(.int .i64 x81.Wind), (.int .i64 x81.Pace)])) rfl (x_loadN (cs := [(.int .i64 x81.Wind), (.int .i64 x81.Pace)]) Try.underlying62 Try_T62 rfl rfl (rdF_cells (hL.rdS 0 rfl h2) hix86 ha87)) ?_)
      refine OW.cons (S_alloc (cs := #[(.int .i64 0), (.int .i64 0)]) hL Try_T62 rfl rfl ?_)
      intro wd88 b89 hL
      refine OW.cons (OP.val (v := (.int .i64 s_l1)) rfl (x_assign) ?_)
      refine OW.cons (S_storeN (l := [(.int .i64 x81.Wind), (.int .i64 x81.Pace)]) (cs' := #[(.int .i64 x81.Wind), (.int .i64 x81.Pace)]) hL 0 rfl Try_T62 rfl rfl (List.forall_mem_cons.2 ⟨rfl, (List.forall_mem_cons.2 ⟨rfl, (fun _ h => by cases h)⟩)⟩) rfl (Nat.le_of_ble_eq_true rfl) rfl ?_)
      intro wd90 hL
      refine OW.nil ?_
      refine CW.seq ?_
      refine CW.seq ?_
      refine CW.regionL ?_
      refine OW.cons (OP.val (v := (.int .i64 a1)) rfl (x_mv f76) ?_)
      refine OW.cons (OP.val (v := (.pointer (some ⟨b89, 0, none⟩))) rfl (x_fieldAddr (fsz := 1) 0 0 0 Try.underlying62 rfl Try_T2 rfl rfl rfl) ?_)
      refine OW.cons (OP.val (v := (.int .i64 x81.Wind)) rfl (x_load1 Try.underlying2 rfl rfl (hL.cellB 0 rfl rfl)) ?_)
      refine OW.cons (OP.val (v := (.bool (decide (x81.Wind < a1)))) rfl (x_gtr rfl rfl) ?_)
      refine OW.nil ?_
      refine CW.condM (t := decide (x81.Wind < a1)) rfl hm (fun hb91 hm => ?_) (fun hb91 hm => ?_)
      · refine CW.exit ?_
        refine XX.hit ?_
        refine CW.regionL ?_
        refine OW.cons (OP.val (v := (.int .i64 (w64 (s_l1 + 1)))) rfl (x_add f79 rfl) ?_)
        refine OW.cons (OP.val (v := (.int .i64 (w64 (s_l1 + 1)))) rfl (x_move) ?_)
        refine OW.nil ?_
        have hL := hL.sel [1] (by decide) rfl
        obtain rfl := Option.some.inj hm
        exact ⟨_, rfl, ⟨f75, f76, f77, f78, rfl, hL⟩⟩
      · refine CW.skip ?_
        refine CW.seq ?_
        refine CW.seq ?_
        refine CW.regionL ?_
        refine OW.cons (OP.val (v := (.int .i64 s_l1)) rfl (x_move) ?_)
        refine OW.cons (OP.val (v := (.bool (s_l1 == 0))) rfl (x_eql rfl rfl) ?_)
        refine OW.nil ?_
        refine CW.condM (t := s_l1 == 0) rfl hm (fun hb92 hm => ?_) (fun hb92 hm => ?_)
        · refine CW.seq ?_
          refine CW.regionL ?_
          refine OW.cons (OP.val (v := (.pointer (some ⟨b89, 1, none⟩))) rfl (x_fieldAddr (fsz := 1) 0 1 1 Try.underlying62 rfl Try_T2 rfl rfl rfl) ?_)
          refine OW.cons (OP.val (v := (.int .i64 x81.Pace)) rfl (x_load1 Try.underlying2 rfl rfl (hL.cellB 0 rfl rfl)) ?_)
          refine OW.cons (OP.val (v := (.int .i64 x81.Pace)) rfl (x_assign) ?_)
          refine OW.nil ?_
          refine CW.ret ?_
          obtain rfl := Option.some.inj hm
          have hm := hr56 _ rfl
          obtain rfl := Option.some.inj hm
          exact RR1 rfl rfl ⟨rfl, hL.fresh 1 rfl [] (by decide) (by decide) rfl⟩
        · refine CW.skip ?_
          refine CW.seq ?_
          refine CW.regionL ?_
          refine OW.cons (OP.val (v := v1) rfl (x_mv f75) ?_)
          refine OW.cons (OP.val (v := (.int .i64 s_l1)) rfl (x_move) ?_)
          refine OW.cons (OP.val (v := (.int .i64 (w64 (s_l1 - 1)))) rfl (x_sub rfl rfl) ?_)
          obtain ⟨x93, ha94, hm⟩ := bndE hm
          obtain ⟨hz95, ha99⟩ := idxE ha94
          obtain ⟨b96, q97, hix98⟩ := rdL_ix (hL.rdS 1 rfl h2) hz95 ha99
          refine OW.cons (OP.val (v := (.pointer (some ⟨b96, q97, none⟩))) rfl (x_ix Try.underlying34 Try_T62 rfl rfl hix98) ?_)
          refine OW.cons (OP.val (v := (.agg #[(.int .i64 x93.Wind), (.int .i64 x93.Pace)])) rfl (x_loadN (cs := [(.int .i64 x93.Wind), (.int .i64 x93.Pace)]) Try.underlying62 Try_T62 rfl rfl (rdF_cells (hL.rdS 1 rfl h2) hix98 ha99)) ?_)
          refine OW.cons (S_alloc (cs := #[(.int .i64 0), (.int .i64 0)]) hL Try_T62 rfl rfl ?_)
          intro wd100 b101 hL
          refine OW.cons (S_storeN (l := [(.int .i64 x93.Wind), (.int .i64 x93.Pace)]) (cs' := #[(.int .i64 x93.Wind), (.int .i64 x93.Pace)]) hL 0 rfl Try_T62 rfl rfl (List.forall_mem_cons.2 ⟨rfl, (List.forall_mem_cons.2 ⟨rfl, (fun _ h => by cases h)⟩)⟩) rfl (Nat.le_of_ble_eq_true rfl) rfl ?_)
          intro wd102 hL
          refine OW.nil ?_
          refine CW.seq ?_
          refine CW.draw Try_mixed ?_
          have hL := hL.call (Mod.drew _)
          refine DW.pre (fuel := 0) (fin := (((((((((((((((((((((Array.replicate 20 false).setIfInBounds 0 true).setIfInBounds 1 true).setIfInBounds 2 true).setIfInBounds 3 true).setIfInBounds 4 true).setIfInBounds 5 true).setIfInBounds 6 true).setIfInBounds 7 true).setIfInBounds 8 true).setIfInBounds 9 true).setIfInBounds 10 true).setIfInBounds 11 true).setIfInBounds 12 true).setIfInBounds 13 true).setIfInBounds 14 true).setIfInBounds 15 true).setIfInBounds 16 true).setIfInBounds 17 true).setIfInBounds 18 true).setIfInBounds 19 true)) (C := fun w' => Mod None_ _ w') [0, 1, 2, 3, 4, 5, 6, 7, 8, 9, 10, 11, 12, 13, 14, 15, 16, 17, 18, 19] (Mod.refl _ _) (by kernel_rfl) (by kernel_rfl) ?_
          refine QW.cons rfl (QP.val (v := (.pointer (some ⟨b101, 1, none⟩))) rfl (fun w' hm' => x_fieldAddr (fsz := 1) 0 1 1 Try.underlying62 rfl Try_T2 rfl rfl rfl) ?_)
          refine QW.cons rfl (QP.val (v := (.int .i64 x93.Pace)) rfl (fun w' hm' => x_load1 Try.underlying2 rfl rfl ((hL.call hm').cellB 0 rfl rfl)) ?_)
          refine QW.cons rfl (QP.val (v := (.pointer (some ⟨b89, 1, none⟩))) rfl (fun w' hm' => x_fieldAddr (fsz := 1) 0 1 1 Try.underlying62 rfl Try_T2 rfl rfl rfl) ?_)
          refine QW.cons rfl (QP.val (v := (.int .i64 x81.Pace)) rfl (fun w' hm' => x_load1 Try.underlying2 rfl rfl ((hL.call hm').cellB 1 rfl rfl)) ?_)
          refine QW.cons rfl (QP.val (v := (.pointer (some ⟨b101, 1, none⟩))) rfl (fun w' hm' => x_fieldAddr (fsz := 1) 0 1 1 Try.underlying62 rfl Try_T2 rfl rfl rfl) ?_)
          refine QW.cons rfl (QP.val (v := (.int .i64 x93.Pace)) rfl (fun w' hm' => x_load1 Try.underlying2 rfl rfl ((hL.call hm').cellB 0 rfl rfl)) ?_)
          refine QW.cons rfl (QP.val (v := (.int .i64 (w64 (x81.Pace - x93.Pace)))) rfl (fun w' hm' => x_sub rfl rfl) ?_)
          refine QW.cons rfl (QP.val (v := (.int .i64 a1)) rfl (fun w' hm' => x_mv f76) ?_)
          refine QW.cons rfl (QP.val (v := (.pointer (some ⟨b101, 0, none⟩))) rfl (fun w' hm' => x_fieldAddr (fsz := 1) 0 0 0 Try.underlying62 rfl Try_T2 rfl rfl rfl) ?_)
          refine QW.cons rfl (QP.val (v := (.int .i64 x93.Wind)) rfl (fun w' hm' => x_load1 Try.underlying2 rfl rfl ((hL.call hm').cellB 0 rfl rfl)) ?_)
          refine QW.cons rfl (QP.val (v := (.int .i64 (w64 (a1 - x93.Wind)))) rfl (fun w' hm' => x_sub rfl rfl) ?_)
          refine QW.cons rfl (QP.val (v := (.int .i64 (w64 ((w64 (x81.Pace - x93.Pace)) * (w64 (a1 - x93.Wind)))))) rfl (fun w' hm' => x_mul rfl rfl) ?_)
          refine QW.cons rfl (QP.val (v := (.pointer (some ⟨b89, 0, none⟩))) rfl (fun w' hm' => x_fieldAddr (fsz := 1) 0 0 0 Try.underlying62 rfl Try_T2 rfl rfl rfl) ?_)
          refine QW.cons rfl (QP.val (v := (.int .i64 x81.Wind)) rfl (fun w' hm' => x_load1 Try.underlying2 rfl rfl ((hL.call hm').cellB 1 rfl rfl)) ?_)
          refine QW.cons rfl (QP.val (v := (.pointer (some ⟨b101, 0, none⟩))) rfl (fun w' hm' => x_fieldAddr (fsz := 1) 0 0 0 Try.underlying62 rfl Try_T2 rfl rfl rfl) ?_)
          refine QW.cons rfl (QP.val (v := (.int .i64 x93.Wind)) rfl (fun w' hm' => x_load1 Try.underlying2 rfl rfl ((hL.call hm').cellB 0 rfl rfl)) ?_)
          refine QW.cons rfl (QP.val (v := (.int .i64 (w64 (x81.Wind - x93.Wind)))) rfl (fun w' hm' => x_sub rfl rfl) ?_)
          obtain ⟨x103, hx104, hm⟩ := bndE hm
          refine QW.cons rfl (QP.call (v := (.int .i64 x103)) rfl (fun w' hm' => x_call (vs := [(.int .i64 (w64 ((w64 (x81.Pace - x93.Pace)) * (w64 (a1 - x93.Wind))))), (.int .i64 (w64 (x81.Wind - x93.Wind)))]) Try_C65 ⟨rfl, rfl, trivial⟩) (fun w' hm' => (M.impl_floorDiv_ok w' (w64 ((w64 (x81.Pace - x93.Pace)) * (w64 (a1 - x93.Wind)))) (w64 (x81.Wind - x93.Wind)) hx104).mono (fun e w'' h => ⟨h.1, hm'.trans h.2.mod⟩)) ?_)
          refine QW.cons rfl (QP.val (v := (.int .i64 (w64 (x93.Pace + x103)))) rfl (fun w' hm' => x_add rfl rfl) ?_)
          refine QW.cons rfl (QP.val (v := (.int .i64 (w64 (x93.Pace + x103)))) rfl (fun w' hm' => x_assign) ?_)
          refine QW.nil ?_
          intro wd105 hmod
          have hL := hL.call hmod
          refine DW.done (by kernel_rfl) ?_
          refine CW.ret ?_
          obtain rfl := Option.some.inj hm
          have hm := hr56 _ rfl
          obtain rfl := Option.some.inj hm
          exact RR1 rfl rfl ⟨rfl, hL.fresh 2 rfl [] (by decide) (by decide) rfl⟩
    · refine CW.exit ?_
      refine XJ.hit ?_
      obtain rfl := Option.some.inj hm
      exact ⟨_, rfl, ⟨f75, f76, f77, f78, f79, hL⟩⟩

theorem M.impl_ceilDiv_ok (w0 : World) (a0 : Int) (a1 : Int) {r : Int} (hm : M.impl_ceilDiv a0 a1 = some r) :
    Calls Try.prog 68 #[(.int .i64 a0), (.int .i64 a1)] w0 fun e w' => e = .returned (.int .i64 r) ∧ Fresh w0 w' [] := by
  unfold M.impl_ceilDiv at hm
  refine calls_CW (args := [(.int .i64 a0), (.int .i64 a1)]) Try.func68 rfl rfl rfl ?_
  have hL := Hp.start w0
  refine CW.seq ?_
  refine CW.regionL ?_
  refine OW.cons (OP.val (v := (.int .i64 0)) rfl (x_assign) ?_)
  refine OW.nil ?_
  refine CW.seq ?_
  refine CW.regionL ?_
  refine OW.cons (OP.val (v := (.int .i64 a0)) rfl (x_move) ?_)
  refine OW.cons (OP.val (v := (.int .i64 (w64 (0 - a0)))) rfl (x_neg rfl) ?_)
  refine OW.cons (OP.val (v := (.int .i64 a1)) rfl (x_move) ?_)
  obtain ⟨x1, hx2, hm⟩ := bndE hm
  refine OW.cons (OP.call rfl (x_call (vs := [(.int .i64 (w64 (0 - a0))), (.int .i64 a1)]) Try_C65 ⟨rfl, rfl, trivial⟩) (M.impl_floorDiv_ok _ (w64 (0 - a0)) a1 hx2) ?_)
  rintro e3 wd4 ⟨rfl, hF5⟩
  refine ⟨_, rfl, ?_⟩
  have hL := hL.pushAll hF5
  simp only [lA, lB, lC, lD] at hL
  refine OW.cons (OP.val (v := (.int .i64 (w64 (0 - x1)))) rfl (x_neg rfl) ?_)
  refine OW.cons (OP.val (v := (.int .i64 (w64 (0 - x1)))) rfl (x_assign) ?_)
  refine OW.nil ?_
  refine CW.ret ?_
  obtain rfl := Option.some.inj hm
  exact RR1 rfl rfl ⟨rfl, hL.fresh 0 rfl [] (by decide) (by decide) rfl⟩

theorem M.impl_curveTime_ok (w0 : World) (a0 : List CurvePoint) {v1 : Value} (h2 : rdL (· < w0.heap.size) w0 v1 a0) (a1 : Int) (a2 : Int) {r : Int} (hm : M.impl_curveTime a0 a1 a2 = some r) :
    Calls Try.prog 57 #[v1, (.int .i64 a1), (.int .i64 a2)] w0 fun e w' => e = .returned (.int .i64 r) ∧ Fresh w0 w' [] := by
  unfold M.impl_curveTime at hm
  refine calls_CW (args := [v1, (.int .i64 a1), (.int .i64 a2)]) Try.func57 rfl rfl rfl ?_
  have hL := Hp.start w0
  refine CW.seq ?_
  refine CW.regionL ?_
  refine OW.cons (OP.val (v := (.int .i64 0)) rfl (x_assign) ?_)
  refine OW.nil ?_
  refine CW.seq ?_
  refine CW.regionL ?_
  refine OW.cons (OP.val (v := v1) rfl (x_move) ?_)
  refine OW.cons (OP.val (v := (.int .i64 a1)) rfl (x_move) ?_)
  obtain ⟨x3, hx4, hm⟩ := bndE hm
  refine OW.cons (OP.call rfl (x_call (vs := [v1, (.int .i64 a1)]) Try_C51 ⟨rfl, rfl, trivial⟩) (M.impl_paceAt_ok _ a0 (hL.rdS 0 rfl h2) a1 hx4) ?_)
  rintro e5 wd6 ⟨rfl, hF7⟩
  refine ⟨_, rfl, ?_⟩
  have hL := hL.pushAll hF7
  simp only [lA, lB, lC, lD] at hL
  refine OW.cons (OP.val (v := (.int .i64 a2)) rfl (x_move) ?_)
  refine OW.cons (OP.val (v := (.int .i64 (w64 (x3 * a2)))) rfl (x_mul rfl rfl) ?_)
  obtain ⟨x8, hx9, hm⟩ := bndE hm
  refine OW.cons (OP.call rfl (x_call (vs := [(.int .i64 (w64 (x3 * a2))), (.int .i64 10000)]) Try_C68 ⟨rfl, rfl, trivial⟩) (M.impl_ceilDiv_ok _ (w64 (x3 * a2)) 10000 hx9) ?_)
  rintro e10 wd11 ⟨rfl, hF12⟩
  refine ⟨_, rfl, ?_⟩
  have hL := hL.pushAll hF12
  simp only [lA, lB, lC, lD] at hL
  refine OW.cons (OP.val (v := (.int .i64 x8)) rfl (x_assign) ?_)
  refine OW.nil ?_
  refine CW.ret ?_
  obtain rfl := Option.some.inj hm
  exact RR1 rfl rfl ⟨rfl, hL.fresh 0 rfl [] (by decide) (by decide) rfl⟩

theorem M.impl_impliedWind_ok (w0 : World) (a0 : List CurvePoint) {v1 : Value} (h2 : rdL (· < w0.heap.size) w0 v1 a0) (a1 : Int) (a2 : Int) {r : Int} (hm : M.impl_impliedWind a0 a1 a2 = some r) :
    Calls Try.prog 56 #[v1, (.int .i64 a1), (.int .i64 a2)] w0 fun e w' => e = .returned (.int .i64 r) ∧ Fresh w0 w' [] := by
  unfold M.impl_impliedWind at hm
  refine calls_CW (args := [v1, (.int .i64 a1), (.int .i64 a2)]) Try.func56 rfl rfl rfl ?_
  have hL := Hp.start w0
  refine CW.seq ?_
  refine CW.regionL ?_
  refine OW.cons (OP.val (v := (.int .i64 0)) rfl (x_assign) ?_)
  refine OW.nil ?_
  refine CW.seq ?_
  refine CW.seq ?_
  refine CW.regionL ?_
  refine OW.cons (OP.val (v := (.int .i64 0)) rfl (x_move) ?_)
  refine OW.nil ?_
  obtain ⟨o19, ho20, hm⟩ := bndE hm
  refine CW.loopB (fun (s_l1 : Int) (F : Fr) (w : World) => F 0 = v1 ∧ F 1 = (.int .i64 a1) ∧ F 2 = (.int .i64 a2) ∧ F 8 = (.int .i64 s_l1) ∧ Hp w0 [Ent.snap w0 w0.heap.size] w) (fun o => outc o (fun x => some x) (fun s => M.impl_impliedWind_a1 s) = some r) ho20 hm ⟨rfl, rfl, rfl, rfl, hL⟩ ?_ ?_
  · intro s_l1 F21 wd22 hJ hm
    have hm := outcE hm
    have hm : M.impl_impliedWind_a1 s_l1 = some r := hm
    unfold M.impl_impliedWind_a1 at hm
    obtain ⟨f23, f24, f25, f26, hL⟩ := hJ
    refine CW.seq ?_
    refine CW.regionL ?_
    refine OW.cons (OP.val (v := (.int .i64 (-1))) rfl (x_assign) ?_)
    refine OW.nil ?_
    refine CW.ret ?_
    obtain rfl := Option.some.inj hm
    exact RR1 rfl rfl ⟨rfl, hL.fresh 0 rfl [] (by decide) (by decide) rfl⟩
  · intro s_l1 F27 wd28 t17 hJ hm hr18
    unfold M.impl_impliedWind_l1 at hm
    obtain ⟨f29, f30, f31, f32, hL⟩ := hJ
    refine CW.seq ?_
    refine CW.regionL ?_
    refine OW.cons (OP.val (v := (.bool (decide (s_l1 < 1001)))) rfl (x_lss f32 rfl) ?_)
    refine OW.nil ?_
    refine CW.seq ?_
    refine CW.condM (t := decide (s_l1 < 1001)) rfl hm (fun hb33 hm => ?_) (fun hb33 hm => ?_)
    · refine CW.skip ?_
      refine CW.seq ?_
      refine CW.block ?_
      refine CW.seq ?_
      refine CW.regionL ?_
      refine OW.cons (OP.val (v := (.int .i64 s_l1)) rfl (x_mv f32) ?_)
      refine OW.cons (OP.val (v := (.int .i64 s_l1)) rfl (x_assign) ?_)
      refine OW.nil ?_
      refine CW.seq ?_
      refine CW.regionL ?_
      refine OW.cons (OP.val (v := v1) rfl (x_mv f29) ?_)
      refine OW.cons (OP.val (v := (.int .i64 s_l1)) rfl (x_move) ?_)
      refine OW.cons (OP.val (v := (.int .i64 a2)) rfl (x_mv f31) ?_)
      obtain ⟨x34, hx35, hm⟩ := bndE hm
      refine OW.cons (OP.call rfl (x_call (vs := [v1, (.int .i64 s_l1), (.int .i64 a2)]) Try_C57 ⟨rfl, rfl, rfl, trivial⟩) (M.impl_curveTime_ok _ a0 (hL.rdS 0 rfl h2) s_l1 a2 hx35) ?_)
      rintro e36 wd37 ⟨rfl, hF38⟩
      refine ⟨_, rfl, ?_⟩
      have hL := hL.pushAll hF38
      simp only [lA, lB, lC, lD] at hL
      refine OW.cons (OP.val (v := (.int .i64 a1)) rfl (x_mv f30) ?_)
      refine OW.cons (OP.val (v := (.bool (decide (x34 ≤ a1)))) rfl (x_leq rfl rfl) ?_)
      refine OW.nil ?_
      refine CW.condM (t := decide (x34 ≤ a1)) rfl hm (fun hb39 hm => ?_) (fun hb39 hm => ?_)
      · refine CW.seq ?_
        refine CW.regionL ?_
        refine OW.cons (OP.val (v := (.int .i64 s_l1)) rfl (x_move) ?_)
        refine OW.cons (OP.val (v := (.int .i64 s_l1)) rfl (x_assign) ?_)
        refine OW.nil ?_
        refine CW.ret ?_
        obtain rfl := Option.some.inj hm
        have hm := hr18 _ rfl
        obtain rfl := Option.some.inj hm
        exact RR1 rfl rfl ⟨rfl, hL.fresh 0 rfl [] (by decide) (by decide) rfl⟩
      · refine CW.skip ?_
        refine CW.regionL ?_
        refine OW.cons (OP.val (v := (.int .i64 (w64 (s_l1 + 1)))) rfl (x_add f32 rfl) ?_)
        refine OW.cons (OP.val (v := (.int .i64 (w64 (s_l1 + 1)))) rfl (x_move) ?_)
        refine OW.nil ?_
        obtain rfl := Option.some.inj hm
        exact ⟨_, rfl, ⟨f29, f30, f31, rfl, hL⟩⟩
    · refine CW.exit ?_
      refine XJ.hit ?_
      obtain rfl := Option.some.inj hm
      exact ⟨_, rfl, ⟨f29, f30, f31, f32, hL⟩⟩

theorem M.impl_curveCorrected_ok (w0 : World) (a0 : List CurvePoint) {v1 : Value} (h2 : rdL (· < w0.heap.size) w0 v1 a0) (a1 : List CurvePoint) {v3 : Value} (h4 : rdL (· < w0.heap.size) w0 v3 a1) (a2 : Int) (a3 : Int) {r : Int} (hm : M.impl_curveCorrected a0 a1 a2 a3 = some r) :
    Calls Try.prog 39 #[v1, v3, (.int .i64 a2), (.int .i64 a3)] w0 fun e w' => e = .returned (.int .i64 r) ∧ Fresh w0 w' [] := by
  unfold M.impl_curveCorrected at hm
  refine calls_CW (args := [v1, v3, (.int .i64 a2), (.int .i64 a3)]) Try.func39 rfl rfl rfl ?_
  have hL := Hp.start w0
  refine CW.seq ?_
  refine CW.regionL ?_
  refine OW.cons (OP.val (v := (.int .i64 0)) rfl (x_assign) ?_)
  refine OW.nil ?_
  refine CW.seq ?_
  refine CW.regionL ?_
  refine OW.cons (OP.val (v := v1) rfl (x_move) ?_)
  refine OW.cons (OP.val (v := (.int .i64 a2)) rfl (x_move) ?_)
  refine OW.cons (OP.val (v := (.int .i64 a3)) rfl (x_move) ?_)
  obtain ⟨x5, hx6, hm⟩ := bndE hm
  refine OW.cons (OP.call rfl (x_call (vs := [v1, (.int .i64 a2), (.int .i64 a3)]) Try_C56 ⟨rfl, rfl, rfl, trivial⟩) (M.impl_impliedWind_ok _ a0 (hL.rdS 0 rfl h2) a2 a3 hx6) ?_)
  rintro e7 wd8 ⟨rfl, hF9⟩
  refine ⟨_, rfl, ?_⟩
  have hL := hL.pushAll hF9
  simp only [lA, lB, lC, lD] at hL
  refine OW.cons (OP.val (v := (.int .i64 x5)) rfl (x_assign) ?_)
  refine OW.nil ?_
  refine CW.seq ?_
  refine CW.seq ?_
  refine CW.regionL ?_
  refine OW.cons (OP.val (v := (.int .i64 x5)) rfl (x_move) ?_)
  refine OW.cons (OP.val (v := (.bool (decide (x5 < 0)))) rfl (x_lss rfl rfl) ?_)
  refine OW.nil ?_
  refine CW.condM (t := decide (x5 < 0)) rfl hm (fun hb10 hm => ?_) (fun hb10 hm => ?_)
  · refine CW.seq ?_
    refine CW.regionL ?_
    refine OW.cons (OP.val (v := (.int .i64 a2)) rfl (x_move) ?_)
    refine OW.cons (OP.val (v := (.int .i64 a2)) rfl (x_assign) ?_)
    refine OW.nil ?_
    refine CW.ret ?_
    obtain rfl := Option.some.inj hm
    exact RR1 rfl rfl ⟨rfl, hL.fresh 0 rfl [] (by decide) (by decide) rfl⟩
  · refine CW.skip ?_
    refine CW.seq ?_
    refine CW.regionL ?_
    refine OW.cons (OP.val (v := v3) rfl (x_move) ?_)
    refine OW.cons (OP.val (v := (.int .i64 x5)) rfl (x_move) ?_)
    refine OW.cons (OP.val (v := (.int .i64 a3)) rfl (x_move) ?_)
    obtain ⟨x11, hx12, hm⟩ := bndE hm
    refine OW.cons (OP.call rfl (x_call (vs := [v3, (.int .i64 x5), (.int .i64 a3)]) Try_C57 ⟨rfl, rfl, rfl, trivial⟩) (M.impl_curveTime_ok _ a1 (hL.rdS 0 rfl h4) x5 a3 hx12) ?_)
    rintro e13 wd14 ⟨rfl, hF15⟩
    refine ⟨_, rfl, ?_⟩
    have hL := hL.pushAll hF15
    simp only [lA, lB, lC, lD] at hL
    refine OW.cons (OP.val (v := (.int .i64 x11)) rfl (x_assign) ?_)
    refine OW.nil ?_
    refine CW.ret ?_
    obtain rfl := Option.some.inj hm
    exact RR1 rfl rfl ⟨rfl, hL.fresh 0 rfl [] (by decide) (by decide) rfl⟩

theorem M.impl_CorrectByCurves_ok (w0 : World) (a0 : Int) (a1 : List Finish) {v1 : Value} (h2 : rdL (· < w0.heap.size) w0 v1 a1) (a2 : List (List CurvePoint)) {v3 : Value} (h4 : rdL (· < w0.heap.size) w0 v3 a2) (a3 : Int) (a4 : Int) {r : (List Finish) × Int} (hm : M.impl_CorrectByCurves a0 a1 a2 a3 a4 = some r) :
    Calls Try.prog 8 #[(.int .i64 a0), v1, v3, (.int .i64 a3), (.int .i64 a4)] w0 fun e w' => ∃ (rv0 : Value) (rS0 : Nat → Prop), e = .returned (.tuple #[rv0, (.int .i64 r.2)]) ∧ Fresh w0 w' [Ent.own 31 rS0 rv0 r.1] := by
  unfold M.impl_CorrectByCurves at hm
  refine calls_CW (args := [(.int .i64 a0), v1, v3, (.int .i64 a3), (.int .i64 a4)]) Try.func8 rfl rfl rfl ?_
  have hL := Hp.start w0
  refine CW.seq ?_
  refine CW.regionL ?_
  refine OW.cons (OP.val (v := (.slice none 0 0)) rfl (x_assign) ?_)
  refine OW.cons (OP.val (v := (.int .i64 0)) rfl (x_assign) ?_)
  refine OW.nil ?_
  refine CW.seq ?_
  refine CW.seqJ (fun (s_j1 : Bool) (F : Fr) (w : World) => F 0 = (.int .i64 a0) ∧ F 1 = v1 ∧ F 2 = v3 ∧ F 3 = (.int .i64 a3) ∧ F 4 = (.int .i64 a4) ∧ F 24 = (.bool s_j1) ∧ Hp w0 [Ent.snap w0 w0.heap.size] w) (fun s_j1 => M.impl_CorrectByCurves_j1 a0 a1 a2 a3 a4 s_j1 = some r) ?_ ?_
  · refine CW.regionL ?_
    refine OW.cons (OP.val (v := (.int .i64 a0)) rfl (x_move) ?_)
    refine OW.cons (OP.val (v := v1) rfl (x_move) ?_)
    obtain ⟨x334, hx335, hm⟩ := bndE hm
    refine OW.cons (OP.call rfl (x_call (vs := [(.int .i64 a0), v1]) Try_C33 ⟨rfl, rfl, trivial⟩) (M.impl_areFinishes_ok _ a0 a1 (hL.rdS 0 rfl h2) hx335) ?_)
    rintro e336 wd337 ⟨rfl, hF338⟩
    refine ⟨_, rfl, ?_⟩
    have hL := hL.pushAll hF338
    simp only [lA, lB, lC, lD] at hL
    refine OW.cons (OP.val (v := (.bool (!x334))) rfl (x_not rfl) ?_)
    refine OW.cons (OP.val (v := (.bool (!x334))) rfl (x_move) ?_)
    refine ifB_elim hm (fun hb339 hm => ?_) (fun hb339 hm => ?_)
    · refine OW.cons (OP.no' rfl rfl hb339 rfl ?_)
      refine OW.cons (OP.no' rfl rfl hb339 rfl ?_)
      refine OW.cons (OP.no' rfl rfl hb339 rfl ?_)
      refine OW.cons (OP.no' rfl rfl hb339 rfl ?_)
      refine OW.cons (OP.val (v := (.bool true)) rfl (x_pickT' rfl hb339 rfl) ?_)
      refine OW.nil ?_
      exact ⟨true, hm, ⟨rfl, rfl, rfl, rfl, rfl, rfl, hL⟩⟩
    · refine OW.cons (OP.yes' rfl rfl hb339 (OP.val (v := v3) rfl (x_move) ?_))
      refine OW.cons (OP.yes' rfl rfl hb339 (OP.val (v := (.int .i64 (a2.length : Int))) rfl (x_lenR Try.underlying25 rfl (hL.rdS 0 rfl h4)) ?_))
      refine OW.cons (OP.yes' rfl rfl hb339 (OP.val (v := (.int .i64 a0)) rfl (x_move) ?_))
      refine OW.cons (OP.yes' rfl rfl hb339 (OP.val (v := (.bool ((a2.length : Int) != a0))) rfl (x_neq rfl rfl) ?_))
      refine OW.cons (OP.val (v := (.bool ((a2.length : Int) != a0))) rfl (x_pickF' rfl hb339 rfl) ?_)
      refine OW.nil ?_
      exact ⟨(a2.length : Int) != a0, hm, ⟨rfl, rfl, rfl, rfl, rfl, rfl, hL⟩⟩
  · intro s_j1 F11 wd12 hJ hm
    unfold M.impl_CorrectByCurves_j1 at hm
    obtain ⟨f13, f14, f15, f16, f17, f18, hL⟩ := hJ
    refine CW.condM (t := s_j1) f18 hm (fun hb19 hm => ?_) (fun hb19 hm => ?_)
    · refine CW.seq ?_
      refine CW.regionL ?_
      refine OW.cons (OP.val (v := (.slice none 0 0)) rfl (x_assign) ?_)
      refine OW.cons (OP.val (v := (.int .i64 1)) rfl (x_assign) ?_)
      refine OW.nil ?_
      refine CW.ret ?_
      have hL := hL.pushNil Finish 31
      obtain rfl := Option.some.inj hm
      exact RR2 rfl rfl rfl ⟨(.slice none 0 0), None_, rfl, hL.fresh 1 rfl [0] (by decide) (by decide) rfl⟩
    · refine CW.skip ?_
      refine CW.seq ?_
      refine CW.seq ?_
      refine CW.regionL ?_
      refine OW.cons (OP.val (v := v3) rfl (x_mv f15) ?_)
      obtain ⟨x20, hx21, hm⟩ := bndE hm
      refine OW.cons (OP.call rfl (x_call (vs := [v3, (.func (.func 35) #[] #[])]) Try_C34 ⟨rfl, rfl, trivial⟩) (M.slices_ContainsFunc_____impl_CurvePoint___impl_CurvePoint__ok _ a2 (hL.rdS 0 rfl h4) (fun y0 => M.impl_CorrectByCurves_1 y0) ⟨Try_C35, fun yw hag yvs yv hR => by obtain ⟨y0, yu0, yr, rfl, yc0, hyf, rfl⟩ := hR; exact M.impl_CorrectByCurves_1_ok yw y0 yc0 hyf⟩ hx21) ?_)
      rintro e22 wd23 ⟨rfl, hF24⟩
      refine ⟨_, rfl, ?_⟩
      have hL := hL.pushAll hF24
      simp only [lA, lB, lC, lD] at hL
      refine OW.nil ?_
      refine CW.condM (t := x20) rfl hm (fun hb25 hm => ?_) (fun hb25 hm => ?_)
      · refine CW.seq ?_
        refine CW.regionL ?_
        refine OW.cons (OP.val (v := (.slice none 0 0)) rfl (x_assign) ?_)
        refine OW.cons (OP.val (v := (.int .i64 1)) rfl (x_assign) ?_)
        refine OW.nil ?_
        refine CW.ret ?_
        have hL := hL.pushNil Finish 31
        obtain rfl := Option.some.inj hm
        exact RR2 rfl rfl rfl ⟨(.slice none 0 0), None_, rfl, hL.fresh 1 rfl [0] (by decide) (by decide) rfl⟩
      · refine CW.skip ?_
        refine CW.seq ?_
        refine CW.seqJ (fun (s_j2 : Bool) (F : Fr) (w : World) => F 1 = v1 ∧ F 2 = v3 ∧ F 3 = (.int .i64 a3) ∧ F 4 = (.int .i64 a4) ∧ F 36 = (.bool s_j2) ∧ Hp w0 [Ent.snap w0 w0.heap.size] w) (fun s_j2 => M.impl_CorrectByCurves_j2 a1 a2 a3 a4 s_j2 = some r) ?_ ?_
        · refine CW.regionL ?_
          refine OW.cons (OP.val (v := (.int .i64 a3)) rfl (x_mv f16) ?_)
          refine OW.cons (OP.val (v := (.int .i64 a0)) rfl (x_mv f13) ?_)
          refine OW.cons (OP.val (v := (.int .i64 (w64 (a0 - 1)))) rfl (x_sub rfl rfl) ?_)
          obtain ⟨x323, hx324, hm⟩ := bndE hm
          refine OW.cons (OP.call rfl (x_call (vs := [(.int .i64 a3), (.int .i64 0), (.int .i64 (w64 (a0 - 1)))]) Try_C37 ⟨rfl, rfl, rfl, trivial⟩) (M.impl_within_ok _ a3 0 (w64 (a0 - 1)) hx324) ?_)
          rintro e325 wd326 ⟨rfl, hF327⟩
          refine ⟨_, rfl, ?_⟩
          have hL := hL.pushAll hF327
          simp only [lA, lB, lC, lD] at hL
          refine OW.cons (OP.val (v := (.bool (!x323))) rfl (x_not rfl) ?_)
          refine OW.cons (OP.val (v := (.bool (!x323))) rfl (x_move) ?_)
          refine ifB_elim hm (fun hb328 hm => ?_) (fun hb328 hm => ?_)
          · refine OW.cons (OP.no' rfl rfl hb328 rfl ?_)
            refine OW.cons (OP.no' rfl rfl hb328 rfl ?_)
            refine OW.cons (OP.no' rfl rfl hb328 rfl ?_)
            refine OW.cons (OP.val (v := (.bool true)) rfl (x_pickT' rfl hb328 rfl) ?_)
            refine OW.nil ?_
            exact ⟨true, hm, ⟨f14, f15, f16, f17, rfl, hL⟩⟩
          · refine OW.cons (OP.yes' rfl rfl hb328 (OP.val (v := (.int .i64 a4)) rfl (x_mv f17) ?_))
            obtain ⟨x329, hx330, hm⟩ := bndE hm
            refine OW.cons (OP.yes' rfl rfl hb328 (OP.call rfl (x_call (vs := [(.int .i64 a4)]) Try_C38 ⟨rfl, trivial⟩) (M.impl_isDistance_ok _ a4 hx330) ?_))
            rintro e331 wd332 ⟨rfl, hF333⟩
            refine ⟨_, rfl, ?_⟩
            have hL := hL.pushAll hF333
            simp only [lA, lB, lC, lD] at hL
            refine OW.cons (OP.yes' rfl rfl hb328 (OP.val (v := (.bool (!x329))) rfl (x_not rfl) ?_))
            refine OW.cons (OP.val (v := (.bool (!x329))) rfl (x_pickF' rfl hb328 rfl) ?_)
            refine OW.nil ?_
            exact ⟨!x329, hm, ⟨f14, f15, f16, f17, rfl, hL⟩⟩
        · intro s_j2 F37 wd38 hJ hm
          unfold M.impl_CorrectByCurves_j2 at hm
          obtain ⟨f39, f40, f41, f42, f43, hL⟩ := hJ
          refine CW.condM (t := s_j2) f43 hm (fun hb44 hm => ?_) (fun hb44 hm => ?_)
          · refine CW.seq ?_
            refine CW.regionL ?_
            refine OW.cons (OP.val (v := (.slice none 0 0)) rfl (x_assign) ?_)
            refine OW.cons (OP.val (v := (.int .i64 2)) rfl (x_assign) ?_)
            refine OW.nil ?_
            refine CW.ret ?_
            have hL := hL.pushNil Finish 31
            obtain rfl := Option.some.inj hm
            exact RR2 rfl rfl rfl ⟨(.slice none 0 0), None_, rfl, hL.fresh 1 rfl [0] (by decide) (by decide) rfl⟩
          · refine CW.skip ?_
            refine CW.seq ?_
            refine CW.regionL ?_
            refine OW.cons (S_lit ([] : List Finish) hL Try.underlying24 Try_T31 rfl (by decide) (by first | (simp [Instr.fill, madeCells, Value.cells, ev, upd, Flat.enc, Flat.sz]; done) | rfl | kernel_rfl) rfl rfl ?_)
            intro wd45 v46 S47 hL
            refine OW.cons (OP.val (v := v46) rfl (x_assign) ?_)
            refine OW.nil ?_
            refine CW.seq ?_
            refine CW.seq ?_
            refine CW.regionL ?_
            refine OW.cons (OP.val (v := v1) rfl (x_mv f39) ?_)
            refine OW.cons (OP.val (v := (.int .i64 (a1.length : Int))) rfl (x_lenR Try.underlying24 rfl (hL.rdS 1 rfl h2)) ?_)
            refine OW.cons (OP.val (v := (.int .i64 0)) rfl (x_move) ?_)
            refine OW.nil ?_
            obtain ⟨o220, ho221, hm⟩ := bndE hm
            refine CW.loopB (fun (s_l1 : (List Finish) × Int) (F : Fr) (w : World) => ∃ (v216 : Value) (S217 : Nat → Prop), F 2 = v3 ∧ F 3 = (.int .i64 a3) ∧ F 4 = (.int .i64 a4) ∧ F 12 = v216 ∧ F 38 = v1 ∧ F 39 = (.int .i64 (a1.length : Int)) ∧ F 40 = (.int .i64 s_l1.2) ∧ Hp w0 [Ent.own 31 S217 v216 s_l1.1, Ent.snap w0 w0.heap.size] w) (fun o => outc o (fun x => some x) (fun s => M.impl_CorrectByCurves_a1 s) = some r) ho221 hm ⟨v46, S47, f40, f41, f42, rfl, rfl, rfl, rfl, hL⟩ ?_ ?_
            · intro s_l1 F222 wd223 hJ hm
              have hm := outcE hm
              have hm : M.impl_CorrectByCurves_a1 s_l1 = some r := hm
              unfold M.impl_CorrectByCurves_a1 at hm
              obtain ⟨v216, S217, f224, f225, f226, f227, f228, f229, f230, hL⟩ := hJ
              refine CW.seq ?_
              refine CW.regionL ?_
              refine OW.cons (OP.val (v := v216) rfl (x_mv f227) ?_)
              refine OW.cons (OP.val (v := v216) rfl (x_assign) ?_)
              refine OW.cons (OP.val (v := (.int .i64 0)) rfl (x_assign) ?_)
              refine OW.nil ?_
              refine CW.ret ?_
              obtain rfl := Option.some.inj hm
              exact RR2 rfl rfl rfl ⟨v216, S217, rfl, hL.fresh 1 rfl [0] (by decide) (by decide) rfl⟩
            · intro s_l1 F231 wd232 t218 hJ hm hr219
              unfold M.impl_CorrectByCurves_l1 at hm
              obtain ⟨v216, S217, f233, f234, f235, f236, f237, f238, f239, hL⟩ := hJ
              refine CW.seq ?_
              refine CW.regionL ?_
              refine OW.cons (OP.val (v := (.bool (decide (s_l1.2 < (a1.length : Int))))) rfl (x_lss f239 f238) ?_)
              refine OW.nil ?_
              refine CW.seq ?_
              refine CW.condM (t := decide (s_l1.2 < (a1.length : Int))) rfl hm (fun hb240 hm => ?_) (fun hb240 hm => ?_)
              · refine CW.skip ?_
                refine CW.seq ?_
                refine CW.block ?_
                refine CW.seq ?_
                refine CW.regionL ?_
                refine OW.cons (OP.val (v := (.int .i64 s_l1.2)) rfl (x_mv f239) ?_)
                obtain ⟨x241, ha242, hm⟩ := bndE hm
                obtain ⟨hz243, ha247⟩ := idxE ha242
                obtain ⟨b244, q245, hix246⟩ := rdL_ix (hL.rdS 1 rfl h2) hz243 ha247
                refine OW.cons (OP.val (v := (.pointer (some ⟨b244, q245, none⟩))) rfl (x_ix Try.underlying24 Try_T31 f237 f239 hix246) ?_)
                refine OW.cons (OP.val (v := (.agg #[(.int .i64 x241.Boat), (.int .i64 x241.Code), (.int .i64 x241.Time)])) rfl (x_loadN (cs := [(.int .i64 x241.Boat), (.int .i64 x241.Code), (.int .i64 x241.Time)]) Try.underlying31 Try_T31 rfl rfl (rdF_cells (hL.rdS 1 rfl h2) hix246 ha247)) ?_)
                refine OW.cons (S_alloc (cs := #[(.int .i64 0), (.int .i64 0), (.int .i64 0)]) hL Try_T31 rfl rfl ?_)
                intro wd248 b249 hL
                refine OW.cons (OP.val (v := (.int .i64 s_l1.2)) rfl (x_assign) ?_)
                refine OW.cons (S_storeN (l := [(.int .i64 x241.Boat), (.int .i64 x241.Code), (.int .i64 x241.Time)]) (cs' := #[(.int .i64 x241.Boat), (.int .i64 x241.Code), (.int .i64 x241.Time)]) hL 0 rfl Try_T31 rfl rfl (List.forall_mem_cons.2 ⟨rfl, (List.forall_mem_cons.2 ⟨rfl, (List.forall_mem_cons.2 ⟨rfl, (fun _ h => by cases h)⟩)⟩)⟩) rfl (Nat.le_of_ble_eq_true rfl) rfl ?_)
                intro wd250 hL
                refine OW.nil ?_
                refine CW.seqJ (fun (s_j3 : Int) (F : Fr) (w : World) => F 2 = v3 ∧ F 3 = (.int .i64 a3) ∧ F 4 = (.int .i64 a4) ∧ F 12 = v216 ∧ F 14 = (.pointer (some ⟨b249, 0, none⟩)) ∧ F 38 = v1 ∧ F 39 = (.int .i64 (a1.length : Int)) ∧ F 40 = (.int .i64 s_l1.2) ∧ Hp w0 [Ent.blk b249 31 #[(.int .i64 x241.Boat), (.int .i64 x241.Code), (.int .i64 s_j3)], Ent.own 31 S217 v216 s_l1.1, Ent.snap w0 w0.heap.size] w) (fun s_j3 => M.impl_CorrectByCurves_j3 s_l1 x241 s_j3 = some t218) ?_ ?_
                · refine CW.seq ?_
                  refine CW.regionL ?_
                  refine OW.cons (OP.val (v := (.pointer (some ⟨b249, 1, none⟩))) rfl (x_fieldAddr (fsz := 1) 0 1 1 Try.underlying31 rfl Try_T2 rfl rfl rfl) ?_)
                  refine OW.cons (OP.val (v := (.int .i64 x241.Code)) rfl (x_load1 Try.underlying2 rfl rfl (hL.cellB 0 rfl rfl)) ?_)
                  refine OW.cons (OP.val (v := (.bool (x241.Code == 0))) rfl (x_eql rfl rfl) ?_)
                  refine OW.nil ?_
                  refine CW.condM (t := x241.Code == 0) rfl hm (fun hb296 hm => ?_) (fun hb296 hm => ?_)
                  · refine CW.draw Try_mixed ?_
                    have hL := hL.call (Mod.drew _)
                    refine DW.pre (fuel := 1) (fin := ((((((((((((((Array.replicate 14 false).setIfInBounds 0 true).setIfInBounds 1 true).setIfInBounds 2 true).setIfInBounds 3 true).setIfInBounds 4 true).setIfInBounds 5 true).setIfInBounds 6 true).setIfInBounds 7 true).setIfInBounds 8 true).setIfInBounds 9 true).setIfInBounds 10 true).setIfInBounds 11 true).setIfInBounds 12 true)) (C := fun w' => Mod None_ _ w') [0, 1, 2, 3, 4, 5, 6, 7, 8, 9, 10, 11, 12] (Mod.refl _ _) (by kernel_rfl) (by kernel_rfl) ?_
                    refine QW.cons rfl (QP.val (v := v3) rfl (fun w' hm' => x_mv f233) ?_)
                    refine QW.cons rfl (QP.val (v := (.int .i64 s_l1.2)) rfl (fun w' hm' => x_move) ?_)
                    obtain ⟨x297, ha298, hm⟩ := bndE hm
                    obtain ⟨hz299, ha307⟩ := idxE ha298
                    obtain ⟨b300, q301, v302, hix303, hs304, hc305, hr306⟩ := rdN_at h4 hz299 ha307
                    refine QW.cons rfl (QP.val (v := (.pointer (some ⟨b300, q301, none⟩))) rfl (fun w' hm' => x_ix Try.underlying25 Try_T34 rfl rfl hix303) ?_)
                    refine QW.cons rfl (QP.val (v := v302) rfl (fun w' hm' => x_load1 Try.underlying34 rfl rfl ((hL.call hm').cellS 2 rfl hs304 hc305)) ?_)
                    refine QW.cons rfl (QP.val (v := v3) rfl (fun w' hm' => x_mv f233) ?_)
                    refine QW.cons rfl (QP.val (v := (.int .i64 a3)) rfl (fun w' hm' => x_mv f234) ?_)
                    obtain ⟨x308, ha309, hm⟩ := bndE hm
                    obtain ⟨hz310, ha318⟩ := idxE ha309
                    obtain ⟨b311, q312, v313, hix314, hs315, hc316, hr317⟩ := rdN_at h4 hz310 ha318
                    refine QW.cons rfl (QP.val (v := (.pointer (some ⟨b311, q312, none⟩))) rfl (fun w' hm' => x_ix Try.underlying25 Try_T34 rfl rfl hix314) ?_)
                    refine QW.cons rfl (QP.val (v := v313) rfl (fun w' hm' => x_load1 Try.underlying34 rfl rfl ((hL.call hm').cellS 2 rfl hs315 hc316)) ?_)
                    refine QW.cons rfl (QP.val (v := (.pointer (some ⟨b249, 2, none⟩))) rfl (fun w' hm' => x_fieldAddr (fsz := 1) 0 2 2 Try.underlying31 rfl Try_T2 rfl rfl rfl) ?_)
                    refine QW.cons rfl (QP.val (v := (.int .i64 x241.Time)) rfl (fun w' hm' => x_load1 Try.underlying2 rfl rfl ((hL.call hm').cellB 0 rfl rfl)) ?_)
                    refine QW.cons rfl (QP.val (v := (.int .i64 a4)) rfl (fun w' hm' => x_mv f235) ?_)
                    obtain ⟨x319, hx320, hm⟩ := bndE hm
                    refine QW.cons rfl (QP.call (v := (.int .i64 x319)) rfl (fun w' hm' => x_call (vs := [v302, v313, (.int .i64 x241.Time), (.int .i64 a4)]) Try_C39 ⟨rfl, rfl, rfl, rfl, trivial⟩) (fun w' hm' => (M.impl_curveCorrected_ok w' x297 ((hL.call hm').rdS 2 rfl hr306) x308 ((hL.call hm').rdS 2 rfl hr317) x241.Time a4 hx320).mono (fun e w'' h => ⟨h.1, hm'.trans h.2.mod⟩)) ?_)
                    refine QW.cons rfl (QP.val (v := (.pointer (some ⟨b249, 2, none⟩))) rfl (fun w' hm' => x_fieldAddr (fsz := 1) 0 2 2 Try.underlying31 rfl Try_T2 rfl rfl rfl) ?_)
                    refine QW.nil ?_
                    intro wd321 hmod
                    have hL := hL.call hmod
                    refine DW.only 13 rfl (by kernel_rfl) (S_store (cs' := #[(.int .i64 x241.Boat), (.int .i64 x241.Code), (.int .i64 x319)]) hL 0 rfl Try_T2 rfl rfl rfl rfl rfl ?_)
                    intro wd322 hL
                    refine DW.done (by kernel_rfl) ?_
                    exact ⟨x319, hm, ⟨f233, f234, f235, f236, rfl, f237, f238, f239, hL⟩⟩
                  · refine CW.skip ?_
                    exact ⟨x241.Time, hm, ⟨f233, f234, f235, f236, rfl, f237, f238, f239, hL⟩⟩
                · intro s_j3 F278 wd279 hJ hm
                  unfold M.impl_CorrectByCurves_j3 at hm
                  obtain ⟨f280, f281, f282, f283, f284, f285, f286, f287, hL⟩ := hJ
                  refine CW.seq ?_
                  refine CW.seq ?_
                  refine CW.regionL ?_
                  refine OW.cons (OP.val (v := (.pointer (some ⟨b249, 2, none⟩))) rfl (x_fieldAddr (fsz := 1) 0 2 2 Try.underlying31 rfl Try_T2 rfl f284 rfl) ?_)
                  refine OW.cons (OP.val (v := (.int .i64 s_j3)) rfl (x_load1 Try.underlying2 rfl rfl (hL.cellB 0 rfl rfl)) ?_)
                  refine OW.cons (OP.val (v := (.bool (decide (1000000000 < s_j3)))) rfl (x_gtr rfl rfl) ?_)
                  refine OW.nil ?_
                  refine CW.condM (t := decide (1000000000 < s_j3)) rfl hm (fun hb288 hm => ?_) (fun hb288 hm => ?_)
                  · refine CW.seq ?_
                    refine CW.regionL ?_
                    refine OW.cons (OP.val (v := (.slice none 0 0)) rfl (x_assign) ?_)
                    refine OW.cons (OP.val (v := (.int .i64 3)) rfl (x_assign) ?_)
                    refine OW.nil ?_
                    refine CW.ret ?_
                    have hL := hL.pushNil Finish 31
                    obtain rfl := Option.some.inj hm
                    have hm := hr219 _ rfl
                    obtain rfl := Option.some.inj hm
                    exact RR2 rfl rfl rfl ⟨(.slice none 0 0), None_, rfl, hL.fresh 3 rfl [0] (by decide) (by decide) rfl⟩
                  · refine CW.skip ?_
                    refine CW.regionL ?_
                    refine OW.cons (OP.val (v := v216) rfl (x_mv f283) ?_)
                    refine OW.cons (OP.val (v := (.agg #[(.int .i64 x241.Boat), (.int .i64 x241.Code), (.int .i64 s_j3)])) rfl (x_loadN (cs := [(.int .i64 x241.Boat), (.int .i64 x241.Code), (.int .i64 s_j3)]) Try.underlying31 Try_T31 rfl f284 (hL.cellsB 0 rfl (o := 0) (l := [(.int .i64 x241.Boat), (.int .i64 x241.Code), (.int .i64 s_j3)]) (by intro j u hj; exact (by simpa using hj)))) ?_)
                    refine OW.cons (S_lit ([(Finish.mk x241.Boat x241.Code s_j3)] : List Finish) hL Try.underlying24 Try_T31 rfl (by decide) (by first | (simp [Instr.fill, madeCells, Value.cells, ev, upd, Flat.enc, Flat.sz]; done) | rfl | kernel_rfl) rfl rfl ?_)
                    intro wd289 v290 S291 hL
                    obtain ⟨hc295, hm⟩ := chkE hm
                    refine OW.cons (S_append (ys := ([(Finish.mk x241.Boat x241.Code s_j3)] : List Finish)) hL 2 rfl Try.underlying24 Try_T31 rfl rfl rfl (hL.rdO 0 rfl) hc295 (by decide) rfl ?_)
                    intro wd292 v293 S294 hL
                    refine OW.cons (OP.val (v := v293) rfl (x_assign) ?_)
                    refine OW.nil ?_
                    refine CW.regionL ?_
                    refine OW.cons (OP.val (v := (.int .i64 (w64 (s_l1.2 + 1)))) rfl (x_add f287 rfl) ?_)
                    refine OW.cons (OP.val (v := (.int .i64 (w64 (s_l1.2 + 1)))) rfl (x_move) ?_)
                    refine OW.nil ?_
                    have hL := hL.sel [2, 3] (by decide) rfl
                    obtain rfl := Option.some.inj hm
                    exact ⟨_, rfl, ⟨v293, S294, f280, f281, f282, rfl, f285, f286, rfl, hL⟩⟩
              · refine CW.exit ?_
                refine XJ.hit ?_
                obtain rfl := Option.some.inj hm
                exact ⟨_, rfl, ⟨v216, S217, f233, f234, f235, f236, f237, f238, f239, hL⟩⟩

theorem M.spec_IsFinish_ok (w0 : World) (a0 : Finish) {r : Bool} (hm : M.spec_IsFinish a0 = some r) :
    Calls Try.prog 58 #[(.agg #[(.int .i64 a0.Boat), (.int .i64 a0.Code), (.int .i64 a0.Time)])] w0 fun e w' => e = .returned (.bool r) ∧ Fresh w0 w' [] := by
  unfold M.spec_IsFinish at hm
  refine calls_CW (args := [(.agg #[(.int .i64 a0.Boat), (.int .i64 a0.Code), (.int .i64 a0.Time)])]) Try.func58 rfl rfl rfl ?_
  have hL := Hp.start w0
  refine CW.seq ?_
  refine CW.regionL ?_
  refine OW.cons (S_box (cs := #[(.int .i64 a0.Boat), (.int .i64 a0.Code), (.int .i64 a0.Time)]) hL rfl rfl rfl ?_)
  intro wd1 b2 hL
  refine OW.cons (OP.val (v := (.bool false)) rfl (x_assign) ?_)
  refine OW.nil ?_
  refine CW.seq ?_
  refine CW.seqJ (fun (s_j1 : Bool) (F : Fr) (w : World) => F 1 = (.pointer (some ⟨b2, 0, none⟩)) ∧ F 12 = (.bool s_j1) ∧ Hp w0 [Ent.blk b2 31 #[(.int .i64 a0.Boat), (.int .i64 a0.Code), (.int .i64 a0.Time)], Ent.snap w0 w0.heap.size] w) (fun s_j1 => M.spec_IsFinish_j1 a0 s_j1 = some r) ?_ ?_
  · refine CW.regionL ?_
    refine OW.cons (OP.val (v := (.pointer (some ⟨b2, 0, none⟩))) rfl (x_fieldAddr (fsz := 1) 0 0 0 Try.underlying31 rfl Try_T2 rfl rfl rfl) ?_)
    refine OW.cons (OP.val (v := (.int .i64 a0.Boat)) rfl (x_load1 Try.underlying2 rfl rfl (hL.cellB 0 rfl rfl)) ?_)
    obtain ⟨x25, hx26, hm⟩ := bndE hm
    refine OW.cons (OP.call rfl (x_call (vs := [(.int .i64 a0.Boat), (.int .i64 0), (.int .i64 15)]) Try_C41 ⟨rfl, rfl, rfl, trivial⟩) (M.spec_l01In_ok _ a0.Boat 0 15 hx26) ?_)
    rintro e27 wd28 ⟨rfl, hF29⟩
    refine ⟨_, rfl, ?_⟩
    have hL := hL.pushAll hF29
    simp only [lA, lB, lC, lD] at hL
    refine OW.cons (OP.val (v := (.bool (!x25))) rfl (x_not rfl) ?_)
    refine OW.cons (OP.val (v := (.bool (!x25))) rfl (x_move) ?_)
    refine ifB_elim hm (fun hb30 hm => ?_) (fun hb30 hm => ?_)
    · refine OW.cons (OP.no' rfl rfl hb30 rfl ?_)
      refine OW.cons (OP.no' rfl rfl hb30 rfl ?_)
      refine OW.cons (OP.no' rfl rfl hb30 rfl ?_)
      refine OW.cons (OP.no' rfl rfl hb30 rfl ?_)
      refine OW.cons (OP.val (v := (.bool true)) rfl (x_pickT' rfl hb30 rfl) ?_)
      refine OW.nil ?_
      exact ⟨true, hm, ⟨rfl, rfl, hL⟩⟩
    · refine OW.cons (OP.yes' rfl rfl hb30 (OP.val (v := (.pointer (some ⟨b2, 1, none⟩))) rfl (x_fieldAddr (fsz := 1) 0 1 1 Try.underlying31 rfl Try_T2 rfl rfl rfl) ?_))
      refine OW.cons (OP.yes' rfl rfl hb30 (OP.val (v := (.int .i64 a0.Code)) rfl (x_load1 Try.underlying2 rfl rfl (hL.cellB 0 rfl rfl)) ?_))
      obtain ⟨x31, hx32, hm⟩ := bndE hm
      refine OW.cons (OP.yes' rfl rfl hb30 (OP.call rfl (x_call (vs := [(.int .i64 a0.Code), (.int .i64 0), (.int .i64 9)]) Try_C41 ⟨rfl, rfl, rfl, trivial⟩) (M.spec_l01In_ok _ a0.Code 0 9 hx32) ?_))
      rintro e33 wd34 ⟨rfl, hF35⟩
      refine ⟨_, rfl, ?_⟩
      have hL := hL.pushAll hF35
      simp only [lA, lB, lC, lD] at hL
      refine OW.cons (OP.yes' rfl rfl hb30 (OP.val (v := (.bool (!x31))) rfl (x_not rfl) ?_))
      refine OW.cons (OP.val (v := (.bool (!x31))) rfl (x_pickF' rfl hb30 rfl) ?_)
      refine OW.nil ?_
      exact ⟨!x31, hm, ⟨rfl, rfl, hL⟩⟩
  · intro s_j1 F14 wd15 hJ hm
    unfold M.spec_IsFinish_j1 at hm
    obtain ⟨f16, f17, hL⟩ := hJ
    refine CW.condM (t := s_j1) f17 hm (fun hb18 hm => ?_) (fun hb18 hm => ?_)
    · refine CW.seq ?_
      refine CW.regionL ?_
      refine OW.cons (OP.val (v := (.bool false)) rfl (x_assign) ?_)
      refine OW.nil ?_
      refine CW.ret ?_
      obtain rfl := Option.some.inj hm
      exact RR1 rfl rfl ⟨rfl, hL.fresh 1 rfl [] (by decide) (by decide) rfl⟩
    · refine CW.skip ?_
      refine CW.seq ?_
      refine CW.seq ?_
      refine CW.regionL ?_
      refine OW.cons (OP.val (v := (.pointer (some ⟨b2, 1, none⟩))) rfl (x_fieldAddr (fsz := 1) 0 1 1 Try.underlying31 rfl Try_T2 rfl f16 rfl) ?_)
      refine OW.cons (OP.val (v := (.int .i64 a0.Code)) rfl (x_load1 Try.underlying2 rfl rfl (hL.cellB 0 rfl rfl)) ?_)
      refine OW.cons (OP.val (v := (.bool (a0.Code == 0))) rfl (x_eql rfl rfl) ?_)
      refine OW.nil ?_
      refine CW.condM (t := a0.Code == 0) rfl hm (fun hb19 hm => ?_) (fun hb19 hm => ?_)
      · refine CW.seq ?_
        refine CW.regionL ?_
        refine OW.cons (OP.val (v := (.pointer (some ⟨b2, 2, none⟩))) rfl (x_fieldAddr (fsz := 1) 0 2 2 Try.underlying31 rfl Try_T2 rfl f16 rfl) ?_)
        refine OW.cons (OP.val (v := (.int .i64 a0.Time)) rfl (x_load1 Try.underlying2 rfl rfl (hL.cellB 0 rfl rfl)) ?_)
        obtain ⟨x20, hx21, hm⟩ := bndE hm
        refine OW.cons (OP.call rfl (x_call (vs := [(.int .i64 a0.Time), (.int .i64 1), (.int .i64 1000000000)]) Try_C41 ⟨rfl, rfl, rfl, trivial⟩) (M.spec_l01In_ok _ a0.Time 1 1000000000 hx21) ?_)
        rintro e22 wd23 ⟨rfl, hF24⟩
        refine ⟨_, rfl, ?_⟩
        have hL := hL.pushAll hF24
        simp only [lA, lB, lC, lD] at hL
        refine OW.cons (OP.val (v := (.bool x20)) rfl (x_assign) ?_)
        refine OW.nil ?_
        refine CW.ret ?_
        obtain rfl := Option.some.inj hm
        exact RR1 rfl rfl ⟨rfl, hL.fresh 1 rfl [] (by decide) (by decide) rfl⟩
      · refine CW.skip ?_
        refine CW.seq ?_
        refine CW.regionL ?_
        refine OW.cons (OP.val (v := (.pointer (some ⟨b2, 2, none⟩))) rfl (x_fieldAddr (fsz := 1) 0 2 2 Try.underlying31 rfl Try_T2 rfl f16 rfl) ?_)
        refine OW.cons (OP.val (v := (.int .i64 a0.Time)) rfl (x_load1 Try.underlying2 rfl rfl (hL.cellB 0 rfl rfl)) ?_)
        refine OW.cons (OP.val (v := (.bool (a0.Time == 0))) rfl (x_eql rfl rfl) ?_)
        refine OW.cons (OP.val (v := (.bool (a0.Time == 0))) rfl (x_assign) ?_)
        refine OW.nil ?_
        refine CW.ret ?_
        obtain rfl := Option.some.inj hm
        exact RR1 rfl rfl ⟨rfl, hL.fresh 1 rfl [] (by decide) (by decide) rfl⟩

theorem M.spec_l22Race_ok (w0 : World) (a0 : Int) (a1 : List Finish) {v1 : Value} (h2 : rdL (· < w0.heap.size) w0 v1 a1) {r : Bool} (hm : M.spec_l22Race a0 a1 = some r) :
    Calls Try.prog 40 #[(.int .i64 a0), v1] w0 fun e w' => e = .returned (.bool r) ∧ Fresh w0 w' [] := by
  unfold M.spec_l22Race at hm
  refine calls_CW (args := [(.int .i64 a0), v1]) Try.func40 rfl rfl rfl ?_
  have hL := Hp.start w0
  refine CW.seq ?_
  refine CW.regionL ?_
  refine OW.cons (OP.val (v := (.bool false)) rfl (x_assign) ?_)
  refine OW.nil ?_
  refine CW.seq ?_
  refine CW.seqJ (fun (s_j1 : Bool) (F : Fr) (w : World) => F 1 = v1 ∧ F 14 = (.bool s_j1) ∧ Hp w0 [Ent.snap w0 w0.heap.size] w) (fun s_j1 => M.spec_l22Race_j1 a1 s_j1 = some r) ?_ ?_
  · refine CW.regionL ?_
    refine OW.cons (OP.val (v := (.int .i64 a0)) rfl (x_move) ?_)
    obtain ⟨x167, hx168, hm⟩ := bndE hm
    refine OW.cons (OP.call rfl (x_call (vs := [(.int .i64 a0), (.int .i64 1), (.int .i64 16)]) Try_C41 ⟨rfl, rfl, rfl, trivial⟩) (M.spec_l01In_ok _ a0 1 16 hx168) ?_)
    rintro e169 wd170 ⟨rfl, hF171⟩
    refine ⟨_, rfl, ?_⟩
    have hL := hL.pushAll hF171
    simp only [lA, lB, lC, lD] at hL
    refine OW.cons (OP.val (v := (.bool (!x167))) rfl (x_not rfl) ?_)
    refine OW.cons (OP.val (v := (.bool (!x167))) rfl (x_move) ?_)
    refine ifB_elim hm (fun hb172 hm => ?_) (fun hb172 hm => ?_)
    · refine OW.cons (OP.no' rfl rfl hb172 rfl ?_)
      refine OW.cons (OP.no' rfl rfl hb172 rfl ?_)
      refine OW.cons (OP.no' rfl rfl hb172 rfl ?_)
      refine OW.cons (OP.no' rfl rfl hb172 rfl ?_)
      refine OW.cons (OP.val (v := (.bool true)) rfl (x_pickT' rfl hb172 rfl) ?_)
      refine OW.nil ?_
      exact ⟨true, hm, ⟨rfl, rfl, hL⟩⟩
    · refine OW.cons (OP.yes' rfl rfl hb172 (OP.val (v := v1) rfl (x_move) ?_))
      refine OW.cons (OP.yes' rfl rfl hb172 (OP.val (v := (.int .i64 (a1.length : Int))) rfl (x_lenR Try.underlying24 rfl (hL.rdS 0 rfl h2)) ?_))
      refine OW.cons (OP.yes' rfl rfl hb172 (OP.val (v := (.int .i64 a0)) rfl (x_move) ?_))
      refine OW.cons (OP.yes' rfl rfl hb172 (OP.val (v := (.bool ((a1.length : Int) != a0))) rfl (x_neq rfl rfl) ?_))
      refine OW.cons (OP.val (v := (.bool ((a1.length : Int) != a0))) rfl (x_pickF' rfl hb172 rfl) ?_)
      refine OW.nil ?_
      exact ⟨(a1.length : Int) != a0, hm, ⟨rfl, rfl, hL⟩⟩
  · intro s_j1 F9 wd10 hJ hm
    unfold M.spec_l22Race_j1 at hm
    obtain ⟨f11, f12, hL⟩ := hJ
    refine CW.condM (t := s_j1) f12 hm (fun hb13 hm => ?_) (fun hb13 hm => ?_)
    · refine CW.seq ?_
      refine CW.regionL ?_
      refine OW.cons (OP.val (v := (.bool false)) rfl (x_assign) ?_)
      refine OW.nil ?_
      refine CW.ret ?_
      obtain rfl := Option.some.inj hm
      exact RR1 rfl rfl ⟨rfl, hL.fresh 0 rfl [] (by decide) (by decide) rfl⟩
    · refine CW.skip ?_
      refine CW.seq ?_
      refine CW.seq ?_
      refine CW.regionL ?_
      refine OW.cons (OP.val (v := (.int .i64 0)) rfl (x_assign) ?_)
      refine OW.nil ?_
      obtain ⟨o110, ho111, hm⟩ := bndE hm
      refine CW.loopB (fun (s_l1 : Int) (F : Fr) (w : World) => F 1 = v1 ∧ F 5 = (.int .i64 s_l1) ∧ Hp w0 [Ent.snap w0 w0.heap.size] w) (fun o => outc o (fun x => some x) (fun s => M.spec_l22Race_a1 s) = some r) ho111 hm ⟨f11, rfl, hL⟩ ?_ ?_
      · intro s_l1 F112 wd113 hJ hm
        have hm := outcE hm
        have hm : M.spec_l22Race_a1 s_l1 = some r := hm
        unfold M.spec_l22Race_a1 at hm
        obtain ⟨f114, f115, hL⟩ := hJ
        refine CW.seq ?_
        refine CW.regionL ?_
        refine OW.cons (OP.val (v := (.bool true)) rfl (x_assign) ?_)
        refine OW.nil ?_
        refine CW.ret ?_
        obtain rfl := Option.some.inj hm
        exact RR1 rfl rfl ⟨rfl, hL.fresh 0 rfl [] (by decide) (by decide) rfl⟩
      · intro s_l1 F116 wd117 t108 hJ hm hr109
        unfold M.spec_l22Race_l1 at hm
        obtain ⟨f118, f119, hL⟩ := hJ
        refine CW.seq ?_
        refine CW.seq ?_
        refine CW.regionL ?_
        refine OW.cons (OP.val (v := (.int .i64 s_l1)) rfl (x_mv f119) ?_)
        refine OW.cons (OP.val (v := v1) rfl (x_mv f118) ?_)
        refine OW.cons (OP.val (v := (.int .i64 (a1.length : Int))) rfl (x_lenR Try.underlying24 rfl (hL.rdS 0 rfl h2)) ?_)
        refine OW.cons (OP.val (v := (.bool (decide (s_l1 < (a1.length : Int))))) rfl (x_lss rfl rfl) ?_)
        refine OW.nil ?_
        refine CW.condM (t := decide (s_l1 < (a1.length : Int))) rfl hm (fun hb120 hm => ?_) (fun hb120 hm => ?_)
        · refine CW.skip ?_
          refine CW.seq ?_
          refine CW.block ?_
          refine CW.seqJ (fun (s_j2 : Bool) (F : Fr) (w : World) => F 1 = v1 ∧ F 5 = (.int .i64 s_l1) ∧ F 35 = (.bool s_j2) ∧ Hp w0 [Ent.snap w0 w0.heap.size] w) (fun s_j2 => M.spec_l22Race_j2 s_l1 s_j2 = some t108) ?_ ?_
          · refine CW.regionL ?_
            refine OW.cons (OP.val (v := v1) rfl (x_mv f118) ?_)
            refine OW.cons (OP.val (v := (.int .i64 s_l1)) rfl (x_mv f119) ?_)
            obtain ⟨x147, ha148, hm⟩ := bndE hm
            obtain ⟨hz149, ha153⟩ := idxE ha148
            obtain ⟨b150, q151, hix152⟩ := rdL_ix (hL.rdS 0 rfl h2) hz149 ha153
            refine OW.cons (OP.val (v := (.pointer (some ⟨b150, q151, none⟩))) rfl (x_ix Try.underlying24 Try_T31 rfl rfl hix152) ?_)
            refine OW.cons (OP.val (v := (.pointer (some ⟨b150, q151, none⟩))) rfl (x_fieldAddr (fsz := 1) q151 0 q151 Try.underlying31 rfl Try_T2 rfl rfl rfl) ?_)
            refine OW.cons (OP.val (v := (.int .i64 x147.Boat)) rfl (x_load1 Try.underlying2 rfl rfl (rdF_cells (hL.rdS 0 rfl h2) hix152 ha153 0 _ rfl)) ?_)
            refine OW.cons (OP.val (v := (.int .i64 s_l1)) rfl (x_mv f119) ?_)
            refine OW.cons (OP.val (v := (.bool (x147.Boat != s_l1))) rfl (x_neq rfl rfl) ?_)
            refine OW.cons (OP.val (v := (.bool (x147.Boat != s_l1))) rfl (x_move) ?_)
            refine ifB_elim hm (fun hb154 hm => ?_) (fun hb154 hm => ?_)
            · refine OW.cons (OP.no' rfl rfl hb154 rfl ?_)
              refine OW.cons (OP.no' rfl rfl hb154 rfl ?_)
              refine OW.cons (OP.no' rfl rfl hb154 rfl ?_)
              refine OW.cons (OP.no' rfl rfl hb154 rfl ?_)
              refine OW.cons (OP.no' rfl rfl hb154 rfl ?_)
              refine OW.cons (OP.no' rfl rfl hb154 rfl ?_)
              refine OW.cons (OP.val (v := (.bool true)) rfl (x_pickT' rfl hb154 rfl) ?_)
              refine OW.nil ?_
              exact ⟨true, hm, ⟨f118, f119, rfl, hL⟩⟩
            · refine OW.cons (OP.yes' rfl rfl hb154 (OP.val (v := v1) rfl (x_mv f118) ?_))
              refine OW.cons (OP.yes' rfl rfl hb154 (OP.val (v := (.int .i64 s_l1)) rfl (x_mv f119) ?_))
              obtain ⟨x155, ha156, hm⟩ := bndE hm
              obtain ⟨hz157, ha161⟩ := idxE ha156
              obtain ⟨b158, q159, hix160⟩ := rdL_ix (hL.rdS 0 rfl h2) hz157 ha161
              refine OW.cons (OP.yes' rfl rfl hb154 (OP.val (v := (.pointer (some ⟨b158, q159, none⟩))) rfl (x_ix Try.underlying24 Try_T31 rfl rfl hix160) ?_))
              refine OW.cons (OP.yes' rfl rfl hb154 (OP.val (v := (.agg #[(.int .i64 x155.Boat), (.int .i64 x155.Code), (.int .i64 x155.Time)])) rfl (x_loadN (cs := [(.int .i64 x155.Boat), (.int .i64 x155.Code), (.int .i64 x155.Time)]) Try.underlying31 Try_T31 rfl rfl (rdF_cells (hL.rdS 0 rfl h2) hix160 ha161)) ?_))
              obtain ⟨x162, hx163, hm⟩ := bndE hm
              refine OW.cons (OP.yes' rfl rfl hb154 (OP.call rfl (x_call (vs := [(.agg #[(.int .i64 x155.Boat), (.int .i64 x155.Code), (.int .i64 x155.Time)])]) Try_C58 ⟨rfl, trivial⟩) (M.spec_IsFinish_ok _ x155 hx163) ?_))
              rintro e164 wd165 ⟨rfl, hF166⟩
              refine ⟨_, rfl, ?_⟩
              have hL := hL.pushAll hF166
              simp only [lA, lB, lC, lD] at hL
              refine OW.cons (OP.yes' rfl rfl hb154 (OP.val (v := (.bool (!x162))) rfl (x_not rfl) ?_))
              refine OW.cons (OP.val (v := (.bool (!x162))) rfl (x_pickF' rfl hb154 rfl) ?_)
              refine OW.nil ?_
              exact ⟨!x162, hm, ⟨f118, f119, rfl, hL⟩⟩
          · intro s_j2 F141 wd142 hJ hm
            unfold M.spec_l22Race_j2 at hm
            obtain ⟨f143, f144, f145, hL⟩ := hJ
            refine CW.condM (t := s_j2) f145 hm (fun hb146 hm => ?_) (fun hb146 hm => ?_)
            · refine CW.seq ?_
              refine CW.regionL ?_
              refine OW.cons (OP.val (v := (.bool false)) rfl (x_assign) ?_)
              refine OW.nil ?_
              refine CW.ret ?_
              obtain rfl := Option.some.inj hm
              have hm := hr109 _ rfl
              obtain rfl := Option.some.inj hm
              exact RR1 rfl rfl ⟨rfl, hL.fresh 0 rfl [] (by decide) (by decide) rfl⟩
            · refine CW.skip ?_
              refine CW.regionL ?_
              refine OW.cons (OP.val (v := (.int .i64 s_l1)) rfl (x_mv f144) ?_)
              refine OW.cons (OP.val (v := (.int .i64 (w64 (s_l1 + 1)))) rfl (x_add rfl rfl) ?_)
              refine OW.cons (OP.val (v := (.int .i64 (w64 (s_l1 + 1)))) rfl (x_assign) ?_)
              refine OW.nil ?_
              obtain rfl := Option.some.inj hm
              exact ⟨_, rfl, ⟨f143, rfl, hL⟩⟩
        · refine CW.exit ?_
          refine XJ.hit ?_
          obtain rfl := Option.some.inj hm
          exact ⟨_, rfl, ⟨f118, f119, hL⟩⟩

theorem M.spec_l23Distance_ok (w0 : World) (a0 : Int) {r : Bool} (hm : M.spec_l23Distance a0 = some r) :
    Calls Try.prog 42 #[(.int .i64 a0)] w0 fun e w' => e = .returned (.bool r) ∧ Fresh w0 w' [] := by
  unfold M.spec_l23Distance at hm
  refine calls_CW (args := [(.int .i64 a0)]) Try.func42 rfl rfl rfl ?_
  have hL := Hp.start w0
  refine CW.seq ?_
  refine CW.regionL ?_
  refine OW.cons (OP.val (v := (.bool false)) rfl (x_assign) ?_)
  refine OW.nil ?_
  refine CW.seq ?_
  refine CW.regionL ?_
  refine OW.cons (OP.val (v := (.int .i64 a0)) rfl (x_move) ?_)
  obtain ⟨x1, hx2, hm⟩ := bndE hm
  refine OW.cons (OP.call rfl (x_call (vs := [(.int .i64 a0), (.int .i64 1), (.int .i64 10000000)]) Try_C41 ⟨rfl, rfl, rfl, trivial⟩) (M.spec_l01In_ok _ a0 1 10000000 hx2) ?_)
  rintro e3 wd4 ⟨rfl, hF5⟩
  refine ⟨_, rfl, ?_⟩
  have hL := hL.pushAll hF5
  simp only [lA, lB, lC, lD] at hL
  refine OW.cons (OP.val (v := (.bool x1)) rfl (x_assign) ?_)
  refine OW.nil ?_
  refine CW.ret ?_
  obtain rfl := Option.some.inj hm
  exact RR1 rfl rfl ⟨rfl, hL.fresh 0 rfl [] (by decide) (by decide) rfl⟩

theorem M.spec_l01Floor_ok (w0 : World) (a0 : Int) (a1 : Int) {r : Int} (hm : M.spec_l01Floor a0 a1 = some r) :
    Calls Try.prog 69 #[(.int .i64 a0), (.int .i64 a1)] w0 fun e w' => e = .returned (.int .i64 r) ∧ Fresh w0 w' [] := by
  unfold M.spec_l01Floor at hm
  refine calls_CW (args := [(.int .i64 a0), (.int .i64 a1)]) Try.func69 rfl rfl rfl ?_
  have hL := Hp.start w0
  refine CW.seq ?_
  refine CW.regionL ?_
  refine OW.cons (OP.val (v := (.int .i64 0)) rfl (x_assign) ?_)
  refine OW.nil ?_
  refine CW.seq ?_
  refine CW.regionL ?_
  refine OW.cons (OP.val (v := (.int .i64 a0)) rfl (x_move) ?_)
  refine OW.cons (OP.val (v := (.int .i64 a1)) rfl (x_move) ?_)
  obtain ⟨hc1, hm⟩ := chkE hm
  refine OW.cons (OP.val (v := (.int .i64 (w64 (a0.tdiv a1)))) rfl (x_quo rfl rfl hc1) ?_)
  refine OW.cons (OP.val (v := (.int .i64 (w64 (a0.tdiv a1)))) rfl (x_assign) ?_)
  refine OW.nil ?_
  refine CW.seqJ (fun (s_j1 : Int) (F : Fr) (w : World) => F 5 = (.int .i64 s_j1) ∧ Hp w0 [Ent.snap w0 w0.heap.size] w) (fun s_j1 => M.spec_l01Floor_j1 s_j1 = some r) ?_ ?_
  · refine CW.seq ?_
    refine CW.regionL ?_
    refine OW.cons (OP.val (v := (.int .i64 a0)) rfl (x_move) ?_)
    refine OW.cons (OP.val (v := (.int .i64 a1)) rfl (x_move) ?_)
    obtain ⟨hc7, hm⟩ := chkE hm
    refine OW.cons (OP.val (v := (.int .i64 (a0.tmod a1))) rfl (x_rem rfl rfl hc7) ?_)
    refine OW.cons (OP.val (v := (.bool (decide ((a0.tmod a1) < 0)))) rfl (x_lss rfl rfl) ?_)
    refine OW.nil ?_
    refine CW.condM (t := decide ((a0.tmod a1) < 0)) rfl hm (fun hb8 hm => ?_) (fun hb8 hm => ?_)
    · refine CW.regionL ?_
      refine OW.cons (OP.val (v := (.int .i64 (w64 (a0.tdiv a1)))) rfl (x_move) ?_)
      refine OW.cons (OP.val (v := (.int .i64 (w64 ((w64 (a0.tdiv a1)) - 1)))) rfl (x_sub rfl rfl) ?_)
      refine OW.cons (OP.val (v := (.int .i64 (w64 ((w64 (a0.tdiv a1)) - 1)))) rfl (x_assign) ?_)
      refine OW.nil ?_
      exact ⟨w64 ((w64 (a0.tdiv a1)) - 1), hm, ⟨rfl, hL⟩⟩
    · refine CW.skip ?_
      exact ⟨w64 (a0.tdiv a1), hm, ⟨rfl, hL⟩⟩
  · intro s_j1 F4 wd5 hJ hm
    unfold M.spec_l01Floor_j1 at hm
    obtain ⟨f6, hL⟩ := hJ
    refine CW.seq ?_
    refine CW.regionL ?_
    refine OW.cons (OP.val (v := (.int .i64 s_j1)) rfl (x_mv f6) ?_)
    refine OW.cons (OP.val (v := (.int .i64 s_j1)) rfl (x_assign) ?_)
    refine OW.nil ?_
    refine CW.ret ?_
    obtain rfl := Option.some.inj hm
    exact RR1 rfl rfl ⟨rfl, hL.fresh 0 rfl [] (by decide) (by decide) rfl⟩

theorem M.spec_l24Pace_ok (w0 : World) (a0 : List CurvePoint) {v1 : Value} (h2 : rdL (· < w0.heap.size) w0 v1 a0) (a1 : Int) {r : Int} (hm : M.spec_l24Pace a0 a1 = some r) :
    Calls Try.prog 62 #[v1, (.int .i64 a1)] w0 fun e w' => e = .returned (.int .i64 r) ∧ Fresh w0 w' [] := by
  unfold M.spec_l24Pace at hm
  refine calls_CW (args := [v1, (.int .i64 a1)]) Try.func62 rfl rfl rfl ?_
  have hL := Hp.start w0
  refine CW.seq ?_
  refine CW.regionL ?_
  refine OW.cons (OP.val (v := (.int .i64 0)) rfl (x_assign) ?_)
  refine OW.nil ?_
  refine CW.seq ?_
  refine CW.seq ?_
  refine CW.regionL ?_
  refine OW.cons (OP.val (v := (.int .i64 a1)) rfl (x_move) ?_)
  refine OW.cons (OP.val (v := v1) rfl (x_move) ?_)
  obtain ⟨x3, ha4, hm⟩ := bndE hm
  obtain ⟨hz5, ha9⟩ := idxE ha4
  obtain ⟨b6, q7, hix8⟩ := rdL_ix (hL.rdS 0 rfl h2) hz5 ha9
  refine OW.cons (OP.val (v := (.pointer (some ⟨b6, q7, none⟩))) rfl (x_ix Try.underlying34 Try_T62 rfl rfl hix8) ?_)
  refine OW.cons (OP.val (v := (.pointer (some ⟨b6, q7, none⟩))) rfl (x_fieldAddr (fsz := 1) q7 0 q7 Try.underlying62 rfl Try_T2 rfl rfl rfl) ?_)
  refine OW.cons (OP.val (v := (.int .i64 x3.Wind)) rfl (x_load1 Try.underlying2 rfl rfl (rdF_cells (hL.rdS 0 rfl h2) hix8 ha9 0 _ rfl)) ?_)
  refine OW.cons (OP.val (v := (.bool (decide (a1 ≤ x3.Wind)))) rfl (x_leq rfl rfl) ?_)
  refine OW.nil ?_
  refine CW.condM (t := decide (a1 ≤ x3.Wind)) rfl hm (fun hb10 hm => ?_) (fun hb10 hm => ?_)
  · refine CW.seq ?_
    refine CW.regionL ?_
    refine OW.cons (OP.val (v := v1) rfl (x_move) ?_)
    obtain ⟨x11, ha12, hm⟩ := bndE hm
    obtain ⟨hz13, ha17⟩ := idxE ha12
    obtain ⟨b14, q15, hix16⟩ := rdL_ix (hL.rdS 0 rfl h2) hz13 ha17
    refine OW.cons (OP.val (v := (.pointer (some ⟨b14, q15, none⟩))) rfl (x_ix Try.underlying34 Try_T62 rfl rfl hix16) ?_)
    refine OW.cons (OP.val (v := (.pointer (some ⟨b14, q15 + 1, none⟩))) rfl (x_fieldAddr (fsz := 1) q15 1 (q15 + 1) Try.underlying62 rfl Try_T2 rfl rfl rfl) ?_)
    refine OW.cons (OP.val (v := (.int .i64 x11.Pace)) rfl (x_load1 Try.underlying2 rfl rfl (rdF_cells (hL.rdS 0 rfl h2) hix16 ha17 1 _ rfl)) ?_)
    refine OW.cons (OP.val (v := (.int .i64 x11.Pace)) rfl (x_assign) ?_)
    refine OW.nil ?_
    refine CW.ret ?_
    obtain rfl := Option.some.inj hm
    exact RR1 rfl rfl ⟨rfl, hL.fresh 0 rfl [] (by decide) (by decide) rfl⟩
  · refine CW.skip ?_
    refine CW.seq ?_
    refine CW.seq ?_
    refine CW.regionL ?_
    refine OW.cons (OP.val (v := (.int .i64 1)) rfl (x_assign) ?_)
    refine OW.nil ?_
    obtain ⟨o134, ho135, hm⟩ := bndE hm
    refine CW.loopB (fun (s_l1 : Int) (F : Fr) (w : World) => F 0 = v1 ∧ F 1 = (.int .i64 a1) ∧ F 5 = (.int .i64 s_l1) ∧ Hp w0 [Ent.snap w0 w0.heap.size] w) (fun o => outc o (fun x => some x) (fun s => M.spec_l24Pace_a1 a0 s) = some r) ho135 hm ⟨rfl, rfl, rfl, hL⟩ ?_ ?_
    · intro s_l1 F136 wd137 hJ hm
      have hm := outcE hm
      have hm : M.spec_l24Pace_a1 a0 s_l1 = some r := hm
      unfold M.spec_l24Pace_a1 at hm
      obtain ⟨f138, f139, f140, hL⟩ := hJ
      refine CW.seq ?_
      refine CW.regionL ?_
      refine OW.cons (OP.val (v := v1) rfl (x_mv f138) ?_)
      refine OW.cons (OP.val (v := v1) rfl (x_mv f138) ?_)
      refine OW.cons (OP.val (v := (.int .i64 (a0.length : Int))) rfl (x_lenR Try.underlying34 rfl (hL.rdS 0 rfl h2)) ?_)
      refine OW.cons (OP.val (v := (.int .i64 (w64 ((a0.length : Int) - 1)))) rfl (x_sub rfl rfl) ?_)
      obtain ⟨x141, ha142, hm⟩ := bndE hm
      obtain ⟨hz143, ha147⟩ := idxE ha142
      obtain ⟨b144, q145, hix146⟩ := rdL_ix (hL.rdS 0 rfl h2) hz143 ha147
      refine OW.cons (OP.val (v := (.pointer (some ⟨b144, q145, none⟩))) rfl (x_ix Try.underlying34 Try_T62 rfl rfl hix146) ?_)
      refine OW.cons (OP.val (v := (.pointer (some ⟨b144, q145 + 1, none⟩))) rfl (x_fieldAddr (fsz := 1) q145 1 (q145 + 1) Try.underlying62 rfl Try_T2 rfl rfl rfl) ?_)
      refine OW.cons (OP.val (v := (.int .i64 x141.Pace)) rfl (x_load1 Try.underlying2 rfl rfl (rdF_cells (hL.rdS 0 rfl h2) hix146 ha147 1 _ rfl)) ?_)
      refine OW.cons (OP.val (v := (.int .i64 x141.Pace)) rfl (x_assign) ?_)
      refine OW.nil ?_
      refine CW.ret ?_
      obtain rfl := Option.some.inj hm
      exact RR1 rfl rfl ⟨rfl, hL.fresh 0 rfl [] (by decide) (by decide) rfl⟩
    · intro s_l1 F148 wd149 t132 hJ hm hr133
      unfold M.spec_l24Pace_l1 at hm
      obtain ⟨f150, f151, f152, hL⟩ := hJ
      refine CW.seq ?_
      refine CW.seq ?_
      refine CW.regionL ?_
      refine OW.cons (OP.val (v := (.int .i64 s_l1)) rfl (x_mv f152) ?_)
      refine OW.cons (OP.val (v := v1) rfl (x_mv f150) ?_)
      refine OW.cons (OP.val (v := (.int .i64 (a0.length : Int))) rfl (x_lenR Try.underlying34 rfl (hL.rdS 0 rfl h2)) ?_)
      refine OW.cons (OP.val (v := (.bool (decide (s_l1 < (a0.length : Int))))) rfl (x_lss rfl rfl) ?_)
      refine OW.nil ?_
      refine CW.condM (t := decide (s_l1 < (a0.length : Int))) rfl hm (fun hb153 hm => ?_) (fun hb153 hm => ?_)
      · refine CW.skip ?_
        refine CW.seq ?_
        refine CW.block ?_
        refine CW.seq ?_
        refine CW.drawH (fun w' => Hp w0 [Ent.snap w0 w0.heap.size] w') Try_mixed ?_
        have hL := hL.call (Mod.drew _)
        have hS := (hL.sel [0] (by decide) rfl)
        refine DH.take 0 rfl (by kernel_rfl) (by kernel_rfl) (by kernel_rfl) rfl rfl hS (YH.val (v := v1) (fun w' hS' => x_mv f150)) ?_
        have hS := (hL.sel [0] (by decide) rfl)
        refine DH.take 1 rfl (by kernel_rfl) (by kernel_rfl) (by kernel_rfl) rfl rfl hS (YH.val (v := (.int .i64 s_l1)) (fun w' hS' => x_mv f152)) ?_
        have hS := (hL.sel [0] (by decide) rfl)
        refine DH.take 2 rfl (by kernel_rfl) (by kernel_rfl) (by kernel_rfl) rfl rfl hS (YH.val (v := (.int .i64 (w64 (s_l1 - 1)))) (fun w' hS' => x_sub rfl rfl)) ?_
        have hS := (hL.sel [0] (by decide) rfl)
        obtain ⟨x174, ha175, hm⟩ := bndE hm
        obtain ⟨hz176, ha180⟩ := idxE ha175
        obtain ⟨b177, q178, hix179⟩ := rdL_ix (hL.rdS 0 rfl h2) hz176 ha180
        refine DH.take 3 rfl (by kernel_rfl) (by kernel_rfl) (by kernel_rfl) rfl rfl hS (YH.val (v := (.pointer (some ⟨b177, q178, none⟩))) (fun w' hS' => x_ix Try.underlying34 Try_T62 rfl rfl hix179)) ?_
        have hS := (hL.sel [0] (by decide) rfl)
        refine DH.take 4 rfl (by kernel_rfl) (by kernel_rfl) (by kernel_rfl) rfl rfl hS (YH.val (v := (.agg #[(.int .i64 x174.Wind), (.int .i64 x174.Pace)])) (fun w' hS' => x_loadN (cs := [(.int .i64 x174.Wind), (.int .i64 x174.Pace)]) Try.underlying62 Try_T62 rfl rfl (rdF_cells (hS'.rdS 0 rfl h2) hix179 ha180))) ?_
        have hS := (hL.sel [0] (by decide) rfl)
        refine DH.take 5 rfl (by kernel_rfl) (by kernel_rfl) (by kernel_rfl) rfl rfl hS (YH.val (v := v1) (fun w' hS' => x_mv f150)) ?_
        have hS := (hL.sel [0] (by decide) rfl)
        refine DH.take 6 rfl (by kernel_rfl) (by kernel_rfl) (by kernel_rfl) rfl rfl hS (YH.val (v := (.int .i64 s_l1)) (fun w' hS' => x_mv f152)) ?_
        have hS := (hL.sel [0] (by decide) rfl)
        obtain ⟨x181, ha182, hm⟩ := bndE hm
        obtain ⟨hz183, ha187⟩ := idxE ha182
        obtain ⟨b184, q185, hix186⟩ := rdL_ix (hL.rdS 0 rfl h2) hz183 ha187
        refine DH.take 7 rfl (by kernel_rfl) (by kernel_rfl) (by kernel_rfl) rfl rfl hS (YH.val (v := (.pointer (some ⟨b184, q185, none⟩))) (fun w' hS' => x_ix Try.underlying34 Try_T62 rfl rfl hix186)) ?_
        have hS := (hL.sel [0] (by decide) rfl)
        refine DH.take 8 rfl (by kernel_rfl) (by kernel_rfl) (by kernel_rfl) rfl rfl hS (YH.val (v := (.agg #[(.int .i64 x181.Wind), (.int .i64 x181.Pace)])) (fun w' hS' => x_loadN (cs := [(.int .i64 x181.Wind), (.int .i64 x181.Pace)]) Try.underlying62 Try_T62 rfl rfl (rdF_cells (hS'.rdS 0 rfl h2) hix186 ha187))) ?_
        refine DH.all (rs := [9, 10]) (by kernel_rfl) (by simp) ?_
        intro i188 hi189
        simp only [List.mem_cons, List.not_mem_nil, or_false] at hi189
        rcases hi189 with rfl | rfl
        · refine ⟨_, rfl, ?_⟩
          refine S_alloc (cs := #[(.int .i64 0), (.int .i64 0)]) hL Try_T62 rfl rfl ?_
          intro wd190 b191 hL
          refine ⟨(hL.sel [1] (by decide) rfl), ?_⟩
          refine DH.only 10 rfl (by kernel_rfl) (S_alloc (cs := #[(.int .i64 0), (.int .i64 0)]) hL Try_T62 rfl rfl ?_)
          intro wd192 b193 hL
          refine ⟨(hL.sel [2] (by decide) rfl), ?_⟩
          refine DH.only 11 rfl (by kernel_rfl) (S_storeN (l := [(.int .i64 x174.Wind), (.int .i64 x174.Pace)]) (cs' := #[(.int .i64 x174.Wind), (.int .i64 x174.Pace)]) hL 1 rfl Try_T62 rfl rfl (List.forall_mem_cons.2 ⟨rfl, (List.forall_mem_cons.2 ⟨rfl, (fun _ h => by cases h)⟩)⟩) rfl (Nat.le_of_ble_eq_true rfl) rfl ?_)
          intro wd194 hL
          refine ⟨(hL.sel [2] (by decide) rfl), ?_⟩
          refine DH.only 12 rfl (by kernel_rfl) (S_storeN (l := [(.int .i64 x181.Wind), (.int .i64 x181.Pace)]) (cs' := #[(.int .i64 x181.Wind), (.int .i64 x181.Pace)]) hL 0 rfl Try_T62 rfl rfl (List.forall_mem_cons.2 ⟨rfl, (List.forall_mem_cons.2 ⟨rfl, (fun _ h => by cases h)⟩)⟩) rfl (Nat.le_of_ble_eq_true rfl) rfl ?_)
          intro wd195 hL
          refine ⟨(hL.sel [2] (by decide) rfl), ?_⟩
          refine DH.done (by kernel_rfl) ?_
          refine CW.seq ?_
          refine CW.regionL ?_
          refine OW.cons (OP.val (v := (.int .i64 a1)) rfl (x_mv f151) ?_)
          refine OW.cons (OP.val (v := (.pointer (some ⟨b193, 0, none⟩))) rfl (x_fieldAddr (fsz := 1) 0 0 0 Try.underlying62 rfl Try_T2 rfl rfl rfl) ?_)
          refine OW.cons (OP.val (v := (.int .i64 x181.Wind)) rfl (x_load1 Try.underlying2 rfl rfl (hL.cellB 0 rfl rfl)) ?_)
          refine OW.cons (OP.val (v := (.bool (decide (a1 ≤ x181.Wind)))) rfl (x_leq rfl rfl) ?_)
          refine OW.nil ?_
          refine CW.condM (t := decide (a1 ≤ x181.Wind)) rfl hm (fun hb196 hm => ?_) (fun hb196 hm => ?_)
          · refine CW.seq ?_
            refine CW.draw Try_mixed ?_
            have hL := hL.call (Mod.drew _)
            refine DW.pre (fuel := 0) (fin := (((((((((((((((((((((Array.replicate 20 false).setIfInBounds 0 true).setIfInBounds 1 true).setIfInBounds 2 true).setIfInBounds 3 true).setIfInBounds 4 true).setIfInBounds 5 true).setIfInBounds 6 true).setIfInBounds 7 true).setIfInBounds 8 true).setIfInBounds 9 true).setIfInBounds 10 true).setIfInBounds 11 true).setIfInBounds 12 true).setIfInBounds 13 true).setIfInBounds 14 true).setIfInBounds 15 true).setIfInBounds 16 true).setIfInBounds 17 true).setIfInBounds 18 true).setIfInBounds 19 true)) (C := fun w' => Mod None_ _ w') [0, 1, 2, 3, 4, 5, 6, 7, 8, 9, 10, 11, 12, 13, 14, 15, 16, 17, 18, 19] (Mod.refl _ _) (by kernel_rfl) (by kernel_rfl) ?_
            refine QW.cons rfl (QP.val (v := (.pointer (some ⟨b191, 1, none⟩))) rfl (fun w' hm' => x_fieldAddr (fsz := 1) 0 1 1 Try.underlying62 rfl Try_T2 rfl rfl rfl) ?_)
            refine QW.cons rfl (QP.val (v := (.int .i64 x174.Pace)) rfl (fun w' hm' => x_load1 Try.underlying2 rfl rfl ((hL.call hm').cellB 1 rfl rfl)) ?_)
            refine QW.cons rfl (QP.val (v := (.pointer (some ⟨b193, 1, none⟩))) rfl (fun w' hm' => x_fieldAddr (fsz := 1) 0 1 1 Try.underlying62 rfl Try_T2 rfl rfl rfl) ?_)
            refine QW.cons rfl (QP.val (v := (.int .i64 x181.Pace)) rfl (fun w' hm' => x_load1 Try.underlying2 rfl rfl ((hL.call hm').cellB 0 rfl rfl)) ?_)
            refine QW.cons rfl (QP.val (v := (.pointer (some ⟨b191, 1, none⟩))) rfl (fun w' hm' => x_fieldAddr (fsz := 1) 0 1 1 Try.underlying62 rfl Try_T2 rfl rfl rfl) ?_)
            refine QW.cons rfl (QP.val (v := (.int .i64 x174.Pace)) rfl (fun w' hm' => x_load1 Try.underlying2 rfl rfl ((hL.call hm').cellB 1 rfl rfl)) ?_)
            refine QW.cons rfl (QP.val (v := (.int .i64 (w64 (x181.Pace - x174.Pace)))) rfl (fun w' hm' => x_sub rfl rfl) ?_)
            refine QW.cons rfl (QP.val (v := (.int .i64 a1)) rfl (fun w' hm' => x_mv f151) ?_)
            refine QW.cons rfl (QP.val (v := (.pointer (some ⟨b191, 0, none⟩))) rfl (fun w' hm' => x_fieldAddr (fsz := 1) 0 0 0 Try.underlying62 rfl Try_T2 rfl rfl rfl) ?_)
            refine QW.cons rfl (QP.val (v := (.int .i64 x174.Wind)) rfl (fun w' hm' => x_load1 Try.underlying2 rfl rfl ((hL.call hm').cellB 1 rfl rfl)) ?_)
            refine QW.cons rfl (QP.val (v := (.int .i64 (w64 (a1 - x174.Wind)))) rfl (fun w' hm' => x_sub rfl rfl) ?_)
            refine QW.cons rfl (QP.val (v := (.int .i64 (w64 ((w64 (x181.Pace - x174.Pace)) * (w64 (a1 - x174.Wind)))))) rfl (fun w' hm' => x_mul rfl rfl) ?_)
            refine QW.cons rfl (QP.val (v := (.pointer (some ⟨b193, 0, none⟩))) rfl (fun w' hm' => x_fieldAddr (fsz := 1) 0 0 0 Try.underlying62 rfl Try_T2 rfl rfl rfl) ?_)
            refine QW.cons rfl (QP.val (v := (.int .i64 x181.Wind)) rfl (fun w' hm' => x_load1 Try.underlying2 rfl rfl ((hL.call hm').cellB 0 rfl rfl)) ?_)
            refine QW.cons rfl (QP.val (v := (.pointer (some ⟨b191, 0, none⟩))) rfl (fun w' hm' => x_fieldAddr (fsz := 1) 0 0 0 Try.underlying62 rfl Try_T2 rfl rfl rfl) ?_)
            refine QW.cons rfl (QP.val (v := (.int .i64 x174.Wind)) rfl (fun w' hm' => x_load1 Try.underlying2 rfl rfl ((hL.call hm').cellB 1 rfl rfl)) ?_)
            refine QW.cons rfl (QP.val (v := (.int .i64 (w64 (x181.Wind - x174.Wind)))) rfl (fun w' hm' => x_sub rfl rfl) ?_)
            obtain ⟨x197, hx198, hm⟩ := bndE hm
            refine QW.cons rfl (QP.call (v := (.int .i64 x197)) rfl (fun w' hm' => x_call (vs := [(.int .i64 (w64 ((w64 (x181.Pace - x174.Pace)) * (w64 (a1 - x174.Wind))))), (.int .i64 (w64 (x181.Wind - x174.Wind)))]) Try_C69 ⟨rfl, rfl, trivial⟩) (fun w' hm' => (M.spec_l01Floor_ok w' (w64 ((w64 (x181.Pace - x174.Pace)) * (w64 (a1 - x174.Wind)))) (w64 (x181.Wind - x174.Wind)) hx198).mono (fun e w'' h => ⟨h.1, hm'.trans h.2.mod⟩)) ?_)
            refine QW.cons rfl (QP.val (v := (.int .i64 (w64 (x174.Pace + x197)))) rfl (fun w' hm' => x_add rfl rfl) ?_)
            refine QW.cons rfl (QP.val (v := (.int .i64 (w64 (x174.Pace + x197)))) rfl (fun w' hm' => x_assign) ?_)
            refine QW.nil ?_
            intro wd199 hmod
            have hL := hL.call hmod
            refine DW.done (by kernel_rfl) ?_
            refine CW.ret ?_
            obtain rfl := Option.some.inj hm
            have hm := hr133 _ rfl
            obtain rfl := Option.some.inj hm
            exact RR1 rfl rfl ⟨rfl, hL.fresh 2 rfl [] (by decide) (by decide) rfl⟩
          · refine CW.skip ?_
            refine CW.regionL ?_
            refine OW.cons (OP.val (v := (.int .i64 s_l1)) rfl (x_mv f152) ?_)
            refine OW.cons (OP.val (v := (.int .i64 (w64 (s_l1 + 1)))) rfl (x_add rfl rfl) ?_)
            refine OW.cons (OP.val (v := (.int .i64 (w64 (s_l1 + 1)))) rfl (x_assign) ?_)
            refine OW.nil ?_
            have hL := hL.sel [2] (by decide) rfl
            obtain rfl := Option.some.inj hm
            exact ⟨_, rfl, ⟨f150, f151, rfl, hL⟩⟩
        · refine ⟨_, rfl, ?_⟩
          refine S_alloc (cs := #[(.int .i64 0), (.int .i64 0)]) hL Try_T62 rfl rfl ?_
          intro wd200 b201 hL
          refine ⟨(hL.sel [1] (by decide) rfl), ?_⟩
          refine DH.only 9 rfl (by kernel_rfl) (S_alloc (cs := #[(.int .i64 0), (.int .i64 0)]) hL Try_T62 rfl rfl ?_)
          intro wd202 b203 hL
          refine ⟨(hL.sel [2] (by decide) rfl), ?_⟩
          refine DH.only 11 rfl (by kernel_rfl) (S_storeN (l := [(.int .i64 x174.Wind), (.int .i64 x174.Pace)]) (cs' := #[(.int .i64 x174.Wind), (.int .i64 x174.Pace)]) hL 0 rfl Try_T62 rfl rfl (List.forall_mem_cons.2 ⟨rfl, (List.forall_mem_cons.2 ⟨rfl, (fun _ h => by cases h)⟩)⟩) rfl (Nat.le_of_ble_eq_true rfl) rfl ?_)
          intro wd204 hL
          refine ⟨(hL.sel [2] (by decide) rfl), ?_⟩
          refine DH.only 12 rfl (by kernel_rfl) (S_storeN (l := [(.int .i64 x181.Wind), (.int .i64 x181.Pace)]) (cs' := #[(.int .i64 x181.Wind), (.int .i64 x181.Pace)]) hL 1 rfl Try_T62 rfl rfl (List.forall_mem_cons.2 ⟨rfl, (List.forall_mem_cons.2 ⟨rfl, (fun _ h => by cases h)⟩)⟩) rfl (Nat.le_of_ble_eq_true rfl) rfl ?_)
          intro wd205 hL
          refine ⟨(hL.sel [2] (by decide) rfl), ?_⟩
          refine DH.done (by kernel_rfl) ?_
          refine CW.seq ?_
          refine CW.regionL ?_
          refine OW.cons (OP.val (v := (.int .i64 a1)) rfl (x_mv f151) ?_)
          refine OW.cons (OP.val (v := (.pointer (some ⟨b201, 0, none⟩))) rfl (x_fieldAddr (fsz := 1) 0 0 0 Try.underlying62 rfl Try_T2 rfl rfl rfl) ?_)
          refine OW.cons (OP.val (v := (.int .i64 x181.Wind)) rfl (x_load1 Try.underlying2 rfl rfl (hL.cellB 1 rfl rfl)) ?_)
          refine OW.cons (OP.val (v := (.bool (decide (a1 ≤ x181.Wind)))) rfl (x_leq rfl rfl) ?_)
          refine OW.nil ?_
          refine CW.condM (t := decide (a1 ≤ x181.Wind)) rfl hm (fun hb206 hm => ?_) (fun hb206 hm => ?_)
          · refine CW.seq ?_
            refine CW.draw Try_mixed ?_
            have hL := hL.call (Mod.drew _)
            refine DW.pre (fuel := 0) (fin := (((((((((((((((((((((Array.replicate 20 false).setIfInBounds 0 true).setIfInBounds 1 true).setIfInBounds 2 true).setIfInBounds 3 true).setIfInBounds 4 true).setIfInBounds 5 true).setIfInBounds 6 true).setIfInBounds 7 true).setIfInBounds 8 true).setIfInBounds 9 true).setIfInBounds 10 true).setIfInBounds 11 true).setIfInBounds 12 true).setIfInBounds 13 true).setIfInBounds 14 true).setIfInBounds 15 true).setIfInBounds 16 true).setIfInBounds 17 true).setIfInBounds 18 true).setIfInBounds 19 true)) (C := fun w' => Mod None_ _ w') [0, 1, 2, 3, 4, 5, 6, 7, 8, 9, 10, 11, 12, 13, 14, 15, 16, 17, 18, 19] (Mod.refl _ _) (by kernel_rfl) (by kernel_rfl) ?_
            refine QW.cons rfl (QP.val (v := (.pointer (some ⟨b203, 1, none⟩))) rfl (fun w' hm' => x_fieldAddr (fsz := 1) 0 1 1 Try.underlying62 rfl Try_T2 rfl rfl rfl) ?_)
            refine QW.cons rfl (QP.val (v := (.int .i64 x174.Pace)) rfl (fun w' hm' => x_load1 Try.underlying2 rfl rfl ((hL.call hm').cellB 0 rfl rfl)) ?_)
            refine QW.cons rfl (QP.val (v := (.pointer (some ⟨b201, 1, none⟩))) rfl (fun w' hm' => x_fieldAddr (fsz := 1) 0 1 1 Try.underlying62 rfl Try_T2 rfl rfl rfl) ?_)
            refine QW.cons rfl (QP.val (v := (.int .i64 x181.Pace)) rfl (fun w' hm' => x_load1 Try.underlying2 rfl rfl ((hL.call hm').cellB 1 rfl rfl)) ?_)
            refine QW.cons rfl (QP.val (v := (.pointer (some ⟨b203, 1, none⟩))) rfl (fun w' hm' => x_fieldAddr (fsz := 1) 0 1 1 Try.underlying62 rfl Try_T2 rfl rfl rfl) ?_)
            refine QW.cons rfl (QP.val (v := (.int .i64 x174.Pace)) rfl (fun w' hm' => x_load1 Try.underlying2 rfl rfl ((hL.call hm').cellB 0 rfl rfl)) ?_)
            refine QW.cons rfl (QP.val (v := (.int .i64 (w64 (x181.Pace - x174.Pace)))) rfl (fun w' hm' => x_sub rfl rfl) ?_)
            refine QW.cons rfl (QP.val (v := (.int .i64 a1)) rfl (fun w' hm' => x_mv f151) ?_)
            refine QW.cons rfl (QP.val (v := (.pointer (some ⟨b203, 0, none⟩))) rfl (fun w' hm' => x_fieldAddr (fsz := 1) 0 0 0 Try.underlying62 rfl Try_T2 rfl rfl rfl) ?_)
            refine QW.cons rfl (QP.val (v := (.int .i64 x174.Wind)) rfl (fun w' hm' => x_load1 Try.underlying2 rfl rfl ((hL.call hm').cellB 0 rfl rfl)) ?_)
            refine QW.cons rfl (QP.val (v := (.int .i64 (w64 (a1 - x174.Wind)))) rfl (fun w' hm' => x_sub rfl rfl) ?_)
            refine QW.cons rfl (QP.val (v := (.int .i64 (w64 ((w64 (x181.Pace - x174.Pace)) * (w64 (a1 - x174.Wind)))))) rfl (fun w' hm' => x_mul rfl rfl) ?_)
            refine QW.cons rfl (QP.val (v := (.pointer (some ⟨b201, 0, none⟩))) rfl (fun w' hm' => x_fieldAddr (fsz := 1) 0 0 0 Try.underlying62 rfl Try_T2 rfl rfl rfl) ?_)
            refine QW.cons rfl (QP.val (v := (.int .i64 x181.Wind)) rfl (fun w' hm' => x_load1 Try.underlying2 rfl rfl ((hL.call hm').cellB 1 rfl rfl)) ?_)
            refine QW.cons rfl (QP.val (v := (.pointer (some ⟨b203, 0, none⟩))) rfl (fun w' hm' => x_fieldAddr (fsz := 1) 0 0 0 Try.underlying62 rfl Try_T2 rfl rfl rfl) ?_)
            refine QW.cons rfl (QP.val (v := (.int .i64 x174.Wind)) rfl (fun w' hm' => x_load1 Try.underlying2 rfl rfl ((hL.call hm').cellB 0 rfl rfl)) ?_)
            refine QW.cons rfl (QP.val (v := (.int .i64 (w64 (x181.Wind - x174.Wind)))) rfl (fun w' hm' => x_sub rfl rfl) ?_)
            obtain ⟨x207, hx208, hm⟩ := bndE hm
            refine QW.cons rfl (QP.call (v := (.int .i64 x207)) rfl (fun w' hm' => x_call (vs := [(.int .i64 (w64 ((w64 (x181.Pace - x174.Pace)) * (w64 (a1 - x174.Wind))))), (.int .i64 (w64 (x181.Wind - x174.Wind)))]) Try_C69 ⟨rfl, rfl, trivial⟩) (fun w' hm' => (M.spec_l01Floor_ok w' (w64 ((w64 (x181.Pace - x174.Pace)) * (w64 (a1 - x174.Wind)))) (w64 (x181.Wind - x174.Wind)) hx208).mono (fun e w'' h => ⟨h.1, hm'.trans h.2.mod⟩)) ?_)
            refine QW.cons rfl (QP.val (v := (.int .i64 (w64 (x174.Pace + x207)))) rfl (fun w' hm' => x_add rfl rfl) ?_)
            refine QW.cons rfl (QP.val (v := (.int .i64 (w64 (x174.Pace + x207)))) rfl (fun w' hm' => x_assign) ?_)
            refine QW.nil ?_
            intro wd209 hmod
            have hL := hL.call hmod
            refine DW.done (by kernel_rfl) ?_
            refine CW.ret ?_
            obtain rfl := Option.some.inj hm
            have hm := hr133 _ rfl
            obtain rfl := Option.some.inj hm
            exact RR1 rfl rfl ⟨rfl, hL.fresh 2 rfl [] (by decide) (by decide) rfl⟩
          · refine CW.skip ?_
            refine CW.regionL ?_
            refine OW.cons (OP.val (v := (.int .i64 s_l1)) rfl (x_mv f152) ?_)
            refine OW.cons (OP.val (v := (.int .i64 (w64 (s_l1 + 1)))) rfl (x_add rfl rfl) ?_)
            refine OW.cons (OP.val (v := (.int .i64 (w64 (s_l1 + 1)))) rfl (x_assign) ?_)
            refine OW.nil ?_
            have hL := hL.sel [2] (by decide) rfl
            obtain rfl := Option.some.inj hm
            exact ⟨_, rfl, ⟨f150, f151, rfl, hL⟩⟩
      · refine CW.exit ?_
        refine XJ.hit ?_
        obtain rfl := Option.some.inj hm
        exact ⟨_, rfl, ⟨f150, f151, f152, hL⟩⟩

theorem M.spec_l24Time_ok (w0 : World) (a0 : List CurvePoint) {v1 : Value} (h2 : rdL (· < w0.heap.size) w0 v1 a0) (a1 : Int) (a2 : Int) {r : Int} (hm : M.spec_l24Time a0 a1 a2 = some r) :
    Calls Try.prog 60 #[v1, (.int .i64 a1), (.int .i64 a2)] w0 fun e w' => e = .returned (.int .i64 r) ∧ Fresh w0 w' [] := by
  unfold M.spec_l24Time at hm
  refine calls_CW (args := [v1, (.int .i64 a1), (.int .i64 a2)]) Try.func60 rfl rfl rfl ?_
  have hL := Hp.start w0
  refine CW.seq ?_
  refine CW.regionL ?_
  refine OW.cons (OP.val (v := (.int .i64 0)) rfl (x_assign) ?_)
  refine OW.nil ?_
  refine CW.seq ?_
  refine CW.regionL ?_
  refine OW.cons (OP.val (v := v1) rfl (x_move) ?_)
  refine OW.cons (OP.val (v := (.int .i64 a1)) rfl (x_move) ?_)
  obtain ⟨x3, hx4, hm⟩ := bndE hm
  refine OW.cons (OP.call rfl (x_call (vs := [v1, (.int .i64 a1)]) Try_C62 ⟨rfl, rfl, trivial⟩) (M.spec_l24Pace_ok _ a0 (hL.rdS 0 rfl h2) a1 hx4) ?_)
  rintro e5 wd6 ⟨rfl, hF7⟩
  refine ⟨_, rfl, ?_⟩
  have hL := hL.pushAll hF7
  simp only [lA, lB, lC, lD] at hL
  refine OW.cons (OP.val (v := (.int .i64 a2)) rfl (x_move) ?_)
  refine OW.cons (OP.val (v := (.int .i64 (w64 (x3 * a2)))) rfl (x_mul rfl rfl) ?_)
  refine OW.cons (OP.val (v := (.int .i64 (w64 ((w64 (x3 * a2)) + 10000)))) rfl (x_add rfl rfl) ?_)
  refine OW.cons (OP.val (v := (.int .i64 (w64 ((w64 ((w64 (x3 * a2)) + 10000)) - 1)))) rfl (x_sub rfl rfl) ?_)
  refine OW.cons (OP.val (v := (.int .i64 (w64 ((w64 ((w64 ((w64 (x3 * a2)) + 10000)) - 1)).tdiv 10000)))) rfl (x_quo rfl rfl (by decide)) ?_)
  refine OW.cons (OP.val (v := (.int .i64 (w64 ((w64 ((w64 ((w64 (x3 * a2)) + 10000)) - 1)).tdiv 10000)))) rfl (x_assign) ?_)
  refine OW.nil ?_
  refine CW.ret ?_
  obtain rfl := Option.some.inj hm
  exact RR1 rfl rfl ⟨rfl, hL.fresh 0 rfl [] (by decide) (by decide) rfl⟩

theorem M.spec_l24Wind_ok (w0 : World) (a0 : List CurvePoint) {v1 : Value} (h2 : rdL (· < w0.heap.size) w0 v1 a0) (a1 : Int) (a2 : Int) {r : Int} (hm : M.spec_l24Wind a0 a1 a2 = some r) :
    Calls Try.prog 59 #[v1, (.int .i64 a1), (.int .i64 a2)] w0 fun e w' => e = .returned (.int .i64 r) ∧ Fresh w0 w' [] := by
  unfold M.spec_l24Wind at hm
  refine calls_CW (args := [v1, (.int .i64 a1), (.int .i64 a2)]) Try.func59 rfl rfl rfl ?_
  have hL := Hp.start w0
  refine CW.seq ?_
  refine CW.regionL ?_
  refine OW.cons (OP.val (v := (.int .i64 0)) rfl (x_assign) ?_)
  refine OW.nil ?_
  refine CW.seq ?_
  refine CW.seq ?_
  refine CW.regionL ?_
  refine OW.cons (OP.val (v := (.int .i64 0)) rfl (x_assign) ?_)
  refine OW.nil ?_
  obtain ⟨o19, ho20, hm⟩ := bndE hm
  refine CW.loopB (fun (s_l1 : Int) (F : Fr) (w : World) => F 0 = v1 ∧ F 1 = (.int .i64 a1) ∧ F 2 = (.int .i64 a2) ∧ F 7 = (.int .i64 s_l1) ∧ Hp w0 [Ent.snap w0 w0.heap.size] w) (fun o => outc o (fun x => some x) (fun s => M.spec_l24Wind_a1 s) = some r) ho20 hm ⟨rfl, rfl, rfl, rfl, hL⟩ ?_ ?_
  · intro s_l1 F21 wd22 hJ hm
    have hm := outcE hm
    have hm : M.spec_l24Wind_a1 s_l1 = some r := hm
    unfold M.spec_l24Wind_a1 at hm
    obtain ⟨f23, f24, f25, f26, hL⟩ := hJ
    refine CW.seq ?_
    refine CW.regionL ?_
    refine OW.cons (OP.val (v := (.int .i64 (-1))) rfl (x_assign) ?_)
    refine OW.nil ?_
    refine CW.ret ?_
    obtain rfl := Option.some.inj hm
    exact RR1 rfl rfl ⟨rfl, hL.fresh 0 rfl [] (by decide) (by decide) rfl⟩
  · intro s_l1 F27 wd28 t17 hJ hm hr18
    unfold M.spec_l24Wind_l1 at hm
    obtain ⟨f29, f30, f31, f32, hL⟩ := hJ
    refine CW.seq ?_
    refine CW.seq ?_
    refine CW.regionL ?_
    refine OW.cons (OP.val (v := (.int .i64 s_l1)) rfl (x_mv f32) ?_)
    refine OW.cons (OP.val (v := (.bool (decide (s_l1 ≤ 1000)))) rfl (x_leq rfl rfl) ?_)
    refine OW.nil ?_
    refine CW.condM (t := decide (s_l1 ≤ 1000)) rfl hm (fun hb33 hm => ?_) (fun hb33 hm => ?_)
    · refine CW.skip ?_
      refine CW.seq ?_
      refine CW.block ?_
      refine CW.seq ?_
      refine CW.regionL ?_
      refine OW.cons (OP.val (v := v1) rfl (x_mv f29) ?_)
      refine OW.cons (OP.val (v := (.int .i64 s_l1)) rfl (x_mv f32) ?_)
      refine OW.cons (OP.val (v := (.int .i64 a2)) rfl (x_mv f31) ?_)
      obtain ⟨x34, hx35, hm⟩ := bndE hm
      refine OW.cons (OP.call rfl (x_call (vs := [v1, (.int .i64 s_l1), (.int .i64 a2)]) Try_C60 ⟨rfl, rfl, rfl, trivial⟩) (M.spec_l24Time_ok _ a0 (hL.rdS 0 rfl h2) s_l1 a2 hx35) ?_)
      rintro e36 wd37 ⟨rfl, hF38⟩
      refine ⟨_, rfl, ?_⟩
      have hL := hL.pushAll hF38
      simp only [lA, lB, lC, lD] at hL
      refine OW.cons (OP.val (v := (.int .i64 a1)) rfl (x_mv f30) ?_)
      refine OW.cons (OP.val (v := (.bool (decide (x34 ≤ a1)))) rfl (x_leq rfl rfl) ?_)
      refine OW.nil ?_
      refine CW.condM (t := decide (x34 ≤ a1)) rfl hm (fun hb39 hm => ?_) (fun hb39 hm => ?_)
      · refine CW.seq ?_
        refine CW.regionL ?_
        refine OW.cons (OP.val (v := (.int .i64 s_l1)) rfl (x_mv f32) ?_)
        refine OW.cons (OP.val (v := (.int .i64 s_l1)) rfl (x_assign) ?_)
        refine OW.nil ?_
        refine CW.ret ?_
        obtain rfl := Option.some.inj hm
        have hm := hr18 _ rfl
        obtain rfl := Option.some.inj hm
        exact RR1 rfl rfl ⟨rfl, hL.fresh 0 rfl [] (by decide) (by decide) rfl⟩
      · refine CW.skip ?_
        refine CW.regionL ?_
        refine OW.cons (OP.val (v := (.int .i64 s_l1)) rfl (x_mv f32) ?_)
        refine OW.cons (OP.val (v := (.int .i64 (w64 (s_l1 + 1)))) rfl (x_add rfl rfl) ?_)
        refine OW.cons (OP.val (v := (.int .i64 (w64 (s_l1 + 1)))) rfl (x_assign) ?_)
        refine OW.nil ?_
        obtain rfl := Option.some.inj hm
        exact ⟨_, rfl, ⟨f29, f30, f31, rfl, hL⟩⟩
    · refine CW.exit ?_
      refine XJ.hit ?_
      obtain rfl := Option.some.inj hm
      exact ⟨_, rfl, ⟨f29, f30, f31, f32, hL⟩⟩

theorem M.spec_l24Corrected_ok (w0 : World) (a0 : List CurvePoint) {v1 : Value} (h2 : rdL (· < w0.heap.size) w0 v1 a0) (a1 : List CurvePoint) {v3 : Value} (h4 : rdL (· < w0.heap.size) w0 v3 a1) (a2 : Int) (a3 : Int) {r : Int} (hm : M.spec_l24Corrected a0 a1 a2 a3 = some r) :
    Calls Try.prog 43 #[v1, v3, (.int .i64 a2), (.int .i64 a3)] w0 fun e w' => e = .returned (.int .i64 r) ∧ Fresh w0 w' [] := by
  unfold M.spec_l24Corrected at hm
  refine calls_CW (args := [v1, v3, (.int .i64 a2), (.int .i64 a3)]) Try.func43 rfl rfl rfl ?_
  have hL := Hp.start w0
  refine CW.seq ?_
  refine CW.regionL ?_
  refine OW.cons (OP.val (v := (.int .i64 0)) rfl (x_assign) ?_)
  refine OW.nil ?_
  refine CW.seq ?_
  refine CW.regionL ?_
  refine OW.cons (OP.val (v := v1) rfl (x_move) ?_)
  refine OW.cons (OP.val (v := (.int .i64 a2)) rfl (x_move) ?_)
  refine OW.cons (OP.val (v := (.int .i64 a3)) rfl (x_move) ?_)
  obtain ⟨x5, hx6, hm⟩ := bndE hm
  refine OW.cons (OP.call rfl (x_call (vs := [v1, (.int .i64 a2), (.int .i64 a3)]) Try_C59 ⟨rfl, rfl, rfl, trivial⟩) (M.spec_l24Wind_ok _ a0 (hL.rdS 0 rfl h2) a2 a3 hx6) ?_)
  rintro e7 wd8 ⟨rfl, hF9⟩
  refine ⟨_, rfl, ?_⟩
  have hL := hL.pushAll hF9
  simp only [lA, lB, lC, lD] at hL
  refine OW.cons (OP.val (v := (.int .i64 x5)) rfl (x_assign) ?_)
  refine OW.nil ?_
  refine CW.seq ?_
  refine CW.seq ?_
  refine CW.regionL ?_
  refine OW.cons (OP.val (v := (.int .i64 x5)) rfl (x_move) ?_)
  refine OW.cons (OP.val (v := (.bool (decide (x5 < 0)))) rfl (x_lss rfl rfl) ?_)
  refine OW.nil ?_
  refine CW.condM (t := decide (x5 < 0)) rfl hm (fun hb10 hm => ?_) (fun hb10 hm => ?_)
  · refine CW.seq ?_
    refine CW.regionL ?_
    refine OW.cons (OP.val (v := (.int .i64 a2)) rfl (x_move) ?_)
    refine OW.cons (OP.val (v := (.int .i64 a2)) rfl (x_assign) ?_)
    refine OW.nil ?_
    refine CW.ret ?_
    obtain rfl := Option.some.inj hm
    exact RR1 rfl rfl ⟨rfl, hL.fresh 0 rfl [] (by decide) (by decide) rfl⟩
  · refine CW.skip ?_
    refine CW.seq ?_
    refine CW.regionL ?_
    refine OW.cons (OP.val (v := v3) rfl (x_move) ?_)
    refine OW.cons (OP.val (v := (.int .i64 x5)) rfl (x_move) ?_)
    refine OW.cons (OP.val (v := (.int .i64 a3)) rfl (x_move) ?_)
    obtain ⟨x11, hx12, hm⟩ := bndE hm
    refine OW.cons (OP.call rfl (x_call (vs := [v3, (.int .i64 x5), (.int .i64 a3)]) Try_C60 ⟨rfl, rfl, rfl, trivial⟩) (M.spec_l24Time_ok _ a1 (hL.rdS 0 rfl h4) x5 a3 hx12) ?_)
    rintro e13 wd14 ⟨rfl, hF15⟩
    refine ⟨_, rfl, ?_⟩
    have hL := hL.pushAll hF15
    simp only [lA, lB, lC, lD] at hL
    refine OW.cons (OP.val (v := (.int .i64 x11)) rfl (x_assign) ?_)
    refine OW.nil ?_
    refine CW.ret ?_
    obtain rfl := Option.some.inj hm
    exact RR1 rfl rfl ⟨rfl, hL.fresh 0 rfl [] (by decide) (by decide) rfl⟩

theorem M.spec_CorrectByCurves_ok (w0 : World) (a0 : Int) (a1 : List Finish) {v1 : Value} (h2 : rdL (· < w0.heap.size) w0 v1 a1) (a2 : List (List CurvePoint)) {v3 : Value} (h4 : rdL (· < w0.heap.size) w0 v3 a2) (a3 : Int) (a4 : Int) {r : (List Finish) × Int} (hm : M.spec_CorrectByCurves a0 a1 a2 a3 a4 = some r) :
    Calls Try.prog 9 #[(.int .i64 a0), v1, v3, (.int .i64 a3), (.int .i64 a4)] w0 fun e w' => ∃ (rv0 : Value) (rS0 : Nat → Prop), e = .returned (.tuple #[rv0, (.int .i64 r.2)]) ∧ Fresh w0 w' [Ent.own 31 rS0 rv0 r.1] := by
  unfold M.spec_CorrectByCurves at hm
  refine calls_CW (args := [(.int .i64 a0), v1, v3, (.int .i64 a3), (.int .i64 a4)]) Try.func9 rfl rfl rfl ?_
  have hL := Hp.start w0
  refine CW.seq ?_
  refine CW.regionL ?_
  refine OW.cons (OP.val (v := (.slice none 0 0)) rfl (x_assign) ?_)
  refine OW.cons (OP.val (v := (.int .i64 0)) rfl (x_assign) ?_)
  refine OW.nil ?_
  refine CW.seq ?_
  refine CW.seqJ (fun (s_j1 : Bool) (F : Fr) (w : World) => F 0 = (.int .i64 a0) ∧ F 1 = v1 ∧ F 2 = v3 ∧ F 3 = (.int .i64 a3) ∧ F 4 = (.int .i64 a4) ∧ F 25 = (.bool s_j1) ∧ Hp w0 [Ent.snap w0 w0.heap.size] w) (fun s_j1 => M.spec_CorrectByCurves_j1 a0 a1 a2 a3 a4 s_j1 = some r) ?_ ?_
  · refine CW.regionL ?_
    refine OW.cons (OP.val (v := (.int .i64 a0)) rfl (x_move) ?_)
    refine OW.cons (OP.val (v := v1) rfl (x_move) ?_)
    obtain ⟨x400, hx401, hm⟩ := bndE hm
    refine OW.cons (OP.call rfl (x_call (vs := [(.int .i64 a0), v1]) Try_C40 ⟨rfl, rfl, trivial⟩) (M.spec_l22Race_ok _ a0 a1 (hL.rdS 0 rfl h2) hx401) ?_)
    rintro e402 wd403 ⟨rfl, hF404⟩
    refine ⟨_, rfl, ?_⟩
    have hL := hL.pushAll hF404
    simp only [lA, lB, lC, lD] at hL
    refine OW.cons (OP.val (v := (.bool (!x400))) rfl (x_not rfl) ?_)
    refine OW.cons (OP.val (v := (.bool (!x400))) rfl (x_move) ?_)
    refine ifB_elim hm (fun hb405 hm => ?_) (fun hb405 hm => ?_)
    · refine OW.cons (OP.no' rfl rfl hb405 rfl ?_)
      refine OW.cons (OP.no' rfl rfl hb405 rfl ?_)
      refine OW.cons (OP.no' rfl rfl hb405 rfl ?_)
      refine OW.cons (OP.no' rfl rfl hb405 rfl ?_)
      refine OW.cons (OP.val (v := (.bool true)) rfl (x_pickT' rfl hb405 rfl) ?_)
      refine OW.nil ?_
      exact ⟨true, hm, ⟨rfl, rfl, rfl, rfl, rfl, rfl, hL⟩⟩
    · refine OW.cons (OP.yes' rfl rfl hb405 (OP.val (v := v3) rfl (x_move) ?_))
      refine OW.cons (OP.yes' rfl rfl hb405 (OP.val (v := (.int .i64 (a2.length : Int))) rfl (x_lenR Try.underlying25 rfl (hL.rdS 0 rfl h4)) ?_))
      refine OW.cons (OP.yes' rfl rfl hb405 (OP.val (v := (.int .i64 a0)) rfl (x_move) ?_))
      refine OW.cons (OP.yes' rfl rfl hb405 (OP.val (v := (.bool ((a2.length : Int) != a0))) rfl (x_neq rfl rfl) ?_))
      refine OW.cons (OP.val (v := (.bool ((a2.length : Int) != a0))) rfl (x_pickF' rfl hb405 rfl) ?_)
      refine OW.nil ?_
      exact ⟨(a2.length : Int) != a0, hm, ⟨rfl, rfl, rfl, rfl, rfl, rfl, hL⟩⟩
  · intro s_j1 F11 wd12 hJ hm
    unfold M.spec_CorrectByCurves_j1 at hm
    obtain ⟨f13, f14, f15, f16, f17, f18, hL⟩ := hJ
    refine CW.condM (t := s_j1) f18 hm (fun hb19 hm => ?_) (fun hb19 hm => ?_)
    · refine CW.seq ?_
      refine CW.regionL ?_
      refine OW.cons (OP.val (v := (.slice none 0 0)) rfl (x_assign) ?_)
      refine OW.cons (OP.val (v := (.int .i64 1)) rfl (x_assign) ?_)
      refine OW.nil ?_
      refine CW.ret ?_
      have hL := hL.pushNil Finish 31
      obtain rfl := Option.some.inj hm
      exact RR2 rfl rfl rfl ⟨(.slice none 0 0), None_, rfl, hL.fresh 1 rfl [0] (by decide) (by decide) rfl⟩
    · refine CW.skip ?_
      refine CW.seq ?_
      refine CW.seq ?_
      refine CW.regionL ?_
      refine OW.cons (OP.val (v := (.int .i64 0)) rfl (x_assign) ?_)
      refine OW.nil ?_
      obtain ⟨o58, ho59, hm⟩ := bndE hm
      refine CW.loopB (fun (s_l1 : Int) (F : Fr) (w : World) => F 0 = (.int .i64 a0) ∧ F 1 = v1 ∧ F 2 = v3 ∧ F 3 = (.int .i64 a3) ∧ F 4 = (.int .i64 a4) ∧ F 12 = (.int .i64 s_l1) ∧ Hp w0 [Ent.snap w0 w0.heap.size] w) (fun o => outc o (fun x => some x) (fun s => M.spec_CorrectByCurves_a1 a0 a1 a2 a3 a4 s) = some r) ho59 hm ⟨f13, f14, f15, f16, f17, rfl, hL⟩ ?_ ?_
      · intro s_l1 F60 wd61 hJ hm
        have hm := outcE hm
        have hm : M.spec_CorrectByCurves_a1 a0 a1 a2 a3 a4 s_l1 = some r := hm
        unfold M.spec_CorrectByCurves_a1 at hm
        obtain ⟨f62, f63, f64, f65, f66, f67, hL⟩ := hJ
        refine CW.seq ?_
        refine CW.seqJ (fun (s_j2 : Bool) (F : Fr) (w : World) => F 1 = v1 ∧ F 2 = v3 ∧ F 3 = (.int .i64 a3) ∧ F 4 = (.int .i64 a4) ∧ F 47 = (.bool s_j2) ∧ Hp w0 [Ent.snap w0 w0.heap.size] w) (fun s_j2 => M.spec_CorrectByCurves_j2 a1 a2 a3 a4 s_j2 = some r) ?_ ?_
        · refine CW.regionL ?_
          refine OW.cons (OP.val (v := (.int .i64 a3)) rfl (x_mv f65) ?_)
          refine OW.cons (OP.val (v := (.int .i64 a0)) rfl (x_mv f62) ?_)
          refine OW.cons (OP.val (v := (.int .i64 (w64 (a0 - 1)))) rfl (x_sub rfl rfl) ?_)
          obtain ⟨x363, hx364, hm⟩ := bndE hm
          refine OW.cons (OP.call rfl (x_call (vs := [(.int .i64 a3), (.int .i64 0), (.int .i64 (w64 (a0 - 1)))]) Try_C41 ⟨rfl, rfl, rfl, trivial⟩) (M.spec_l01In_ok _ a3 0 (w64 (a0 - 1)) hx364) ?_)
          rintro e365 wd366 ⟨rfl, hF367⟩
          refine ⟨_, rfl, ?_⟩
          have hL := hL.pushAll hF367
          simp only [lA, lB, lC, lD] at hL
          refine OW.cons (OP.val (v := (.bool (!x363))) rfl (x_not rfl) ?_)
          refine OW.cons (OP.val (v := (.bool (!x363))) rfl (x_move) ?_)
          refine ifB_elim hm (fun hb368 hm => ?_) (fun hb368 hm => ?_)
          · refine OW.cons (OP.no' rfl rfl hb368 rfl ?_)
            refine OW.cons (OP.no' rfl rfl hb368 rfl ?_)
            refine OW.cons (OP.no' rfl rfl hb368 rfl ?_)
            refine OW.cons (OP.val (v := (.bool true)) rfl (x_pickT' rfl hb368 rfl) ?_)
            refine OW.nil ?_
            exact ⟨true, hm, ⟨f63, f64, f65, f66, rfl, hL⟩⟩
          · refine OW.cons (OP.yes' rfl rfl hb368 (OP.val (v := (.int .i64 a4)) rfl (x_mv f66) ?_))
            obtain ⟨x369, hx370, hm⟩ := bndE hm
            refine OW.cons (OP.yes' rfl rfl hb368 (OP.call rfl (x_call (vs := [(.int .i64 a4)]) Try_C42 ⟨rfl, trivial⟩) (M.spec_l23Distance_ok _ a4 hx370) ?_))
            rintro e371 wd372 ⟨rfl, hF373⟩
            refine ⟨_, rfl, ?_⟩
            have hL := hL.pushAll hF373
            simp only [lA, lB, lC, lD] at hL
            refine OW.cons (OP.yes' rfl rfl hb368 (OP.val (v := (.bool (!x369))) rfl (x_not rfl) ?_))
            refine OW.cons (OP.val (v := (.bool (!x369))) rfl (x_pickF' rfl hb368 rfl) ?_)
            refine OW.nil ?_
            exact ⟨!x369, hm, ⟨f63, f64, f65, f66, rfl, hL⟩⟩
        · intro s_j2 F79 wd80 hJ hm
          unfold M.spec_CorrectByCurves_j2 at hm
          obtain ⟨f81, f82, f83, f84, f85, hL⟩ := hJ
          refine CW.condM (t := s_j2) f85 hm (fun hb86 hm => ?_) (fun hb86 hm => ?_)
          · refine CW.seq ?_
            refine CW.regionL ?_
            refine OW.cons (OP.val (v := (.slice none 0 0)) rfl (x_assign) ?_)
            refine OW.cons (OP.val (v := (.int .i64 2)) rfl (x_assign) ?_)
            refine OW.nil ?_
            refine CW.ret ?_
            have hL := hL.pushNil Finish 31
            obtain rfl := Option.some.inj hm
            exact RR2 rfl rfl rfl ⟨(.slice none 0 0), None_, rfl, hL.fresh 1 rfl [0] (by decide) (by decide) rfl⟩
          · refine CW.skip ?_
            refine CW.seq ?_
            refine CW.regionL ?_
            refine OW.cons (S_lit ([] : List Finish) hL Try.underlying24 Try_T31 rfl (by decide) (by first | (simp [Instr.fill, madeCells, Value.cells, ev, upd, Flat.enc, Flat.sz]; done) | rfl | kernel_rfl) rfl rfl ?_)
            intro wd87 v88 S89 hL
            refine OW.cons (OP.val (v := v88) rfl (x_assign) ?_)
            refine OW.nil ?_
            refine CW.seq ?_
            refine CW.seq ?_
            refine CW.regionL ?_
            refine OW.cons (OP.val (v := (.int .i64 0)) rfl (x_assign) ?_)
            refine OW.nil ?_
            obtain ⟨o262, ho263, hm⟩ := bndE hm
            refine CW.loopB (fun (s_l2 : (List Finish) × Int) (F : Fr) (w : World) => ∃ (v258 : Value) (S259 : Nat → Prop), F 1 = v1 ∧ F 2 = v3 ∧ F 3 = (.int .i64 a3) ∧ F 4 = (.int .i64 a4) ∧ F 13 = v258 ∧ F 14 = (.int .i64 s_l2.2) ∧ Hp w0 [Ent.own 31 S259 v258 s_l2.1, Ent.snap w0 w0.heap.size] w) (fun o => outc o (fun x => some x) (fun s => M.spec_CorrectByCurves_a2 s) = some r) ho263 hm ⟨v88, S89, f81, f82, f83, f84, rfl, rfl, hL⟩ ?_ ?_
            · intro s_l2 F264 wd265 hJ hm
              have hm := outcE hm
              have hm : M.spec_CorrectByCurves_a2 s_l2 = some r := hm
              unfold M.spec_CorrectByCurves_a2 at hm
              obtain ⟨v258, S259, f266, f267, f268, f269, f270, f271, hL⟩ := hJ
              refine CW.seq ?_
              refine CW.regionL ?_
              refine OW.cons (OP.val (v := v258) rfl (x_mv f270) ?_)
              refine OW.cons (OP.val (v := v258) rfl (x_assign) ?_)
              refine OW.cons (OP.val (v := (.int .i64 0)) rfl (x_assign) ?_)
              refine OW.nil ?_
              refine CW.ret ?_
              obtain rfl := Option.some.inj hm
              exact RR2 rfl rfl rfl ⟨v258, S259, rfl, hL.fresh 1 rfl [0] (by decide) (by decide) rfl⟩
            · intro s_l2 F272 wd273 t260 hJ hm hr261
              unfold M.spec_CorrectByCurves_l2 at hm
              obtain ⟨v258, S259, f274, f275, f276, f277, f278, f279, hL⟩ := hJ
              refine CW.seq ?_
              refine CW.seq ?_
              refine CW.regionL ?_
              refine OW.cons (OP.val (v := (.int .i64 s_l2.2)) rfl (x_mv f279) ?_)
              refine OW.cons (OP.val (v := v1) rfl (x_mv f274) ?_)
              refine OW.cons (OP.val (v := (.int .i64 (a1.length : Int))) rfl (x_lenR Try.underlying24 rfl (hL.rdS 1 rfl h2)) ?_)
              refine OW.cons (OP.val (v := (.bool (decide (s_l2.2 < (a1.length : Int))))) rfl (x_lss rfl rfl) ?_)
              refine OW.nil ?_
              refine CW.condM (t := decide (s_l2.2 < (a1.length : Int))) rfl hm (fun hb280 hm => ?_) (fun hb280 hm => ?_)
              · refine CW.skip ?_
                refine CW.seq ?_
                refine CW.block ?_
                refine CW.seq ?_
                refine CW.regionL ?_
                refine OW.cons (OP.val (v := v1) rfl (x_mv f274) ?_)
                refine OW.cons (OP.val (v := (.int .i64 s_l2.2)) rfl (x_mv f279) ?_)
                obtain ⟨x281, ha282, hm⟩ := bndE hm
                obtain ⟨hz283, ha287⟩ := idxE ha282
                obtain ⟨b284, q285, hix286⟩ := rdL_ix (hL.rdS 1 rfl h2) hz283 ha287
                refine OW.cons (OP.val (v := (.pointer (some ⟨b284, q285, none⟩))) rfl (x_ix Try.underlying24 Try_T31 rfl rfl hix286) ?_)
                refine OW.cons (OP.val (v := (.agg #[(.int .i64 x281.Boat), (.int .i64 x281.Code), (.int .i64 x281.Time)])) rfl (x_loadN (cs := [(.int .i64 x281.Boat), (.int .i64 x281.Code), (.int .i64 x281.Time)]) Try.underlying31 Try_T31 rfl rfl (rdF_cells (hL.rdS 1 rfl h2) hix286 ha287)) ?_)
                refine OW.cons (S_alloc (cs := #[(.int .i64 0), (.int .i64 0), (.int .i64 0)]) hL Try_T31 rfl rfl ?_)
                intro wd288 b289 hL
                refine OW.cons (S_storeN (l := [(.int .i64 x281.Boat), (.int .i64 x281.Code), (.int .i64 x281.Time)]) (cs' := #[(.int .i64 x281.Boat), (.int .i64 x281.Code), (.int .i64 x281.Time)]) hL 0 rfl Try_T31 rfl rfl (List.forall_mem_cons.2 ⟨rfl, (List.forall_mem_cons.2 ⟨rfl, (List.forall_mem_cons.2 ⟨rfl, (fun _ h => by cases h)⟩)⟩)⟩) rfl (Nat.le_of_ble_eq_true rfl) rfl ?_)
                intro wd290 hL
                refine OW.nil ?_
                refine CW.seqJ (fun (s_j3 : Int) (F : Fr) (w : World) => F 1 = v1 ∧ F 2 = v3 ∧ F 3 = (.int .i64 a3) ∧ F 4 = (.int .i64 a4) ∧ F 13 = v258 ∧ F 14 = (.int .i64 s_l2.2) ∧ F 15 = (.pointer (some ⟨b289, 0, none⟩)) ∧ Hp w0 [Ent.blk b289 31 #[(.int .i64 x281.Boat), (.int .i64 x281.Code), (.int .i64 s_j3)], Ent.own 31 S259 v258 s_l2.1, Ent.snap w0 w0.heap.size] w) (fun s_j3 => M.spec_CorrectByCurves_j3 s_l2 x281 s_j3 = some t260) ?_ ?_
                · refine CW.seq ?_
                  refine CW.regionL ?_
                  refine OW.cons (OP.val (v := (.pointer (some ⟨b289, 1, none⟩))) rfl (x_fieldAddr (fsz := 1) 0 1 1 Try.underlying31 rfl Try_T2 rfl rfl rfl) ?_)
                  refine OW.cons (OP.val (v := (.int .i64 x281.Code)) rfl (x_load1 Try.underlying2 rfl rfl (hL.cellB 0 rfl rfl)) ?_)
                  refine OW.cons (OP.val (v := (.bool (x281.Code == 0))) rfl (x_eql rfl rfl) ?_)
                  refine OW.nil ?_
                  refine CW.condM (t := x281.Code == 0) rfl hm (fun hb335 hm => ?_) (fun hb335 hm => ?_)
                  · refine CW.seq ?_
                    refine CW.draw Try_mixed ?_
                    have hL := hL.call (Mod.drew _)
                    refine DW.pre (fuel := 1) (fin := ((((((((((((((Array.replicate 14 false).setIfInBounds 0 true).setIfInBounds 1 true).setIfInBounds 2 true).setIfInBounds 3 true).setIfInBounds 4 true).setIfInBounds 5 true).setIfInBounds 6 true).setIfInBounds 7 true).setIfInBounds 8 true).setIfInBounds 9 true).setIfInBounds 10 true).setIfInBounds 11 true).setIfInBounds 12 true)) (C := fun w' => Mod None_ _ w') [0, 1, 2, 3, 4, 5, 6, 7, 8, 9, 10, 11, 12] (Mod.refl _ _) (by kernel_rfl) (by kernel_rfl) ?_
                    refine QW.cons rfl (QP.val (v := v3) rfl (fun w' hm' => x_mv f275) ?_)
                    refine QW.cons rfl (QP.val (v := (.int .i64 s_l2.2)) rfl (fun w' hm' => x_mv f279) ?_)
                    obtain ⟨x336, ha337, hm⟩ := bndE hm
                    obtain ⟨hz338, ha346⟩ := idxE ha337
                    obtain ⟨b339, q340, v341, hix342, hs343, hc344, hr345⟩ := rdN_at h4 hz338 ha346
                    refine QW.cons rfl (QP.val (v := (.pointer (some ⟨b339, q340, none⟩))) rfl (fun w' hm' => x_ix Try.underlying25 Try_T34 rfl rfl hix342) ?_)
                    refine QW.cons rfl (QP.val (v := v341) rfl (fun w' hm' => x_load1 Try.underlying34 rfl rfl ((hL.call hm').cellS 2 rfl hs343 hc344)) ?_)
                    refine QW.cons rfl (QP.val (v := v3) rfl (fun w' hm' => x_mv f275) ?_)
                    refine QW.cons rfl (QP.val (v := (.int .i64 a3)) rfl (fun w' hm' => x_mv f276) ?_)
                    obtain ⟨x347, ha348, hm⟩ := bndE hm
                    obtain ⟨hz349, ha357⟩ := idxE ha348
                    obtain ⟨b350, q351, v352, hix353, hs354, hc355, hr356⟩ := rdN_at h4 hz349 ha357
                    refine QW.cons rfl (QP.val (v := (.pointer (some ⟨b350, q351, none⟩))) rfl (fun w' hm' => x_ix Try.underlying25 Try_T34 rfl rfl hix353) ?_)
                    refine QW.cons rfl (QP.val (v := v352) rfl (fun w' hm' => x_load1 Try.underlying34 rfl rfl ((hL.call hm').cellS 2 rfl hs354 hc355)) ?_)
                    refine QW.cons rfl (QP.val (v := (.pointer (some ⟨b289, 2, none⟩))) rfl (fun w' hm' => x_fieldAddr (fsz := 1) 0 2 2 Try.underlying31 rfl Try_T2 rfl rfl rfl) ?_)
                    refine QW.cons rfl (QP.val (v := (.int .i64 x281.Time)) rfl (fun w' hm' => x_load1 Try.underlying2 rfl rfl ((hL.call hm').cellB 0 rfl rfl)) ?_)
                    refine QW.cons rfl (QP.val (v := (.int .i64 a4)) rfl (fun w' hm' => x_mv f277) ?_)
                    obtain ⟨x358, hx359, hm⟩ := bndE hm
                    refine QW.cons rfl (QP.call (v := (.int .i64 x358)) rfl (fun w' hm' => x_call (vs := [v341, v352, (.int .i64 x281.Time), (.int .i64 a4)]) Try_C43 ⟨rfl, rfl, rfl, rfl, trivial⟩) (fun w' hm' => (M.spec_l24Corrected_ok w' x336 ((hL.call hm').rdS 2 rfl hr345) x347 ((hL.call hm').rdS 2 rfl hr356) x281.Time a4 hx359).mono (fun e w'' h => ⟨h.1, hm'.trans h.2.mod⟩)) ?_)
                    refine QW.cons rfl (QP.val (v := (.pointer (some ⟨b289, 2, none⟩))) rfl (fun w' hm' => x_fieldAddr (fsz := 1) 0 2 2 Try.underlying31 rfl Try_T2 rfl rfl rfl) ?_)
                    refine QW.nil ?_
                    intro wd360 hmod
                    have hL := hL.call hmod
                    refine DW.only 13 rfl (by kernel_rfl) (S_store (cs' := #[(.int .i64 x281.Boat), (.int .i64 x281.Code), (.int .i64 x358)]) hL 0 rfl Try_T2 rfl rfl rfl rfl rfl ?_)
                    intro wd361 hL
                    refine DW.done (by kernel_rfl) ?_
                    refine CW.seq ?_
                    refine CW.regionL ?_
                    refine OW.cons (OP.val (v := (.pointer (some ⟨b289, 2, none⟩))) rfl (x_fieldAddr (fsz := 1) 0 2 2 Try.underlying31 rfl Try_T2 rfl rfl rfl) ?_)
                    refine OW.cons (OP.val (v := (.int .i64 x358)) rfl (x_load1 Try.underlying2 rfl rfl (hL.cellB 0 rfl rfl)) ?_)
                    refine OW.cons (OP.val (v := (.bool (decide (1000000000 < x358)))) rfl (x_gtr rfl rfl) ?_)
                    refine OW.nil ?_
                    refine CW.condM (t := decide (1000000000 < x358)) rfl hm (fun hb362 hm => ?_) (fun hb362 hm => ?_)
                    · refine CW.seq ?_
                      refine CW.regionL ?_
                      refine OW.cons (OP.val (v := (.slice none 0 0)) rfl (x_assign) ?_)
                      refine OW.cons (OP.val (v := (.int .i64 3)) rfl (x_assign) ?_)
                      refine OW.nil ?_
                      refine CW.ret ?_
                      have hL := hL.pushNil Finish 31
                      obtain rfl := Option.some.inj hm
                      have hm := hr261 _ rfl
                      obtain rfl := Option.some.inj hm
                      exact RR2 rfl rfl rfl ⟨(.slice none 0 0), None_, rfl, hL.fresh 3 rfl [0] (by decide) (by decide) rfl⟩
                    · refine CW.skip ?_
                      exact ⟨x358, hm, ⟨f274, f275, f276, f277, f278, f279, rfl, hL⟩⟩
                  · refine CW.skip ?_
                    exact ⟨x281.Time, hm, ⟨f274, f275, f276, f277, f278, f279, rfl, hL⟩⟩
                · intro s_j3 F319 wd320 hJ hm
                  unfold M.spec_CorrectByCurves_j3 at hm
                  obtain ⟨f321, f322, f323, f324, f325, f326, f327, hL⟩ := hJ
                  refine CW.regionL ?_
                  refine OW.cons (OP.val (v := v258) rfl (x_mv f325) ?_)
                  refine OW.cons (OP.val (v := (.agg #[(.int .i64 x281.Boat), (.int .i64 x281.Code), (.int .i64 s_j3)])) rfl (x_loadN (cs := [(.int .i64 x281.Boat), (.int .i64 x281.Code), (.int .i64 s_j3)]) Try.underlying31 Try_T31 rfl f327 (hL.cellsB 0 rfl (o := 0) (l := [(.int .i64 x281.Boat), (.int .i64 x281.Code), (.int .i64 s_j3)]) (by intro j u hj; exact (by simpa using hj)))) ?_)
                  refine OW.cons (S_lit ([(Finish.mk x281.Boat x281.Code s_j3)] : List Finish) hL Try.underlying24 Try_T31 rfl (by decide) (by first | (simp [Instr.fill, madeCells, Value.cells, ev, upd, Flat.enc, Flat.sz]; done) | rfl | kernel_rfl) rfl rfl ?_)
                  intro wd328 v329 S330 hL
                  obtain ⟨hc334, hm⟩ := chkE hm
                  refine OW.cons (S_append (ys := ([(Finish.mk x281.Boat x281.Code s_j3)] : List Finish)) hL 2 rfl Try.underlying24 Try_T31 rfl rfl rfl (hL.rdO 0 rfl) hc334 (by decide) rfl ?_)
                  intro wd331 v332 S333 hL
                  refine OW.cons (OP.val (v := v332) rfl (x_assign) ?_)
                  refine OW.nil ?_
                  refine CW.regionL ?_
                  refine OW.cons (OP.val (v := (.int .i64 s_l2.2)) rfl (x_mv f326) ?_)
                  refine OW.cons (OP.val (v := (.int .i64 (w64 (s_l2.2 + 1)))) rfl (x_add rfl rfl) ?_)
                  refine OW.cons (OP.val (v := (.int .i64 (w64 (s_l2.2 + 1)))) rfl (x_assign) ?_)
                  refine OW.nil ?_
                  have hL := hL.sel [2, 3] (by decide) rfl
                  obtain rfl := Option.some.inj hm
                  exact ⟨_, rfl, ⟨v332, S333, f321, f322, f323, f324, rfl, rfl, hL⟩⟩
              · refine CW.exit ?_
                refine XJ.hit ?_
                obtain rfl := Option.some.inj hm
                exact ⟨_, rfl, ⟨v258, S259, f274, f275, f276, f277, f278, f279, hL⟩⟩
      · intro s_l1 F374 wd375 t56 hJ hm hr57
        unfold M.spec_CorrectByCurves_l1 at hm
        obtain ⟨f376, f377, f378, f379, f380, f381, hL⟩ := hJ
        refine CW.seq ?_
        refine CW.seq ?_
        refine CW.regionL ?_
        refine OW.cons (OP.val (v := (.int .i64 s_l1)) rfl (x_mv f381) ?_)
        refine OW.cons (OP.val (v := v3) rfl (x_mv f378) ?_)
        refine OW.cons (OP.val (v := (.int .i64 (a2.length : Int))) rfl (x_lenR Try.underlying25 rfl (hL.rdS 0 rfl h4)) ?_)
        refine OW.cons (OP.val (v := (.bool (decide (s_l1 < (a2.length : Int))))) rfl (x_lss rfl rfl) ?_)
        refine OW.nil ?_
        refine CW.condM (t := decide (s_l1 < (a2.length : Int))) rfl hm (fun hb382 hm => ?_) (fun hb382 hm => ?_)
        · refine CW.skip ?_
          refine CW.seq ?_
          refine CW.block ?_
          refine CW.seq ?_
          refine CW.regionL ?_
          refine OW.cons (OP.val (v := v3) rfl (x_mv f378) ?_)
          refine OW.cons (OP.val (v := (.int .i64 s_l1)) rfl (x_mv f381) ?_)
          obtain ⟨x383, ha384, hm⟩ := bndE hm
          obtain ⟨hz385, ha393⟩ := idxE ha384
          obtain ⟨b386, q387, v388, hix389, hs390, hc391, hr392⟩ := rdN_at h4 hz385 ha393
          refine OW.cons (OP.val (v := (.pointer (some ⟨b386, q387, none⟩))) rfl (x_ix Try.underlying25 Try_T34 rfl rfl hix389) ?_)
          refine OW.cons (OP.val (v := v388) rfl (x_load1 Try.underlying34 rfl rfl (hL.cellS 0 rfl hs390 hc391)) ?_)
          obtain ⟨x394, hx395, hm⟩ := bndE hm
          refine OW.cons (OP.call rfl (x_call (vs := [v388]) Try_C31 ⟨rfl, trivial⟩) (M.spec_IsCurve_ok _ x383 (hL.rdS 0 rfl hr392) hx395) ?_)
          rintro e396 wd397 ⟨rfl, hF398⟩
          refine ⟨_, rfl, ?_⟩
          have hL := hL.pushAll hF398
          simp only [lA, lB, lC, lD] at hL
          refine OW.cons (OP.val (v := (.bool (!x394))) rfl (x_not rfl) ?_)
          refine OW.nil ?_
          refine CW.condM (t := !x394) rfl hm (fun hb399 hm => ?_) (fun hb399 hm => ?_)
          · refine CW.seq ?_
            refine CW.regionL ?_
            refine OW.cons (OP.val (v := (.slice none 0 0)) rfl (x_assign) ?_)
            refine OW.cons (OP.val (v := (.int .i64 1)) rfl (x_assign) ?_)
            refine OW.nil ?_
            refine CW.ret ?_
            have hL := hL.pushNil Finish 31
            obtain rfl := Option.some.inj hm
            have hm := hr57 _ rfl
            obtain rfl := Option.some.inj hm
            exact RR2 rfl rfl rfl ⟨(.slice none 0 0), None_, rfl, hL.fresh 1 rfl [0] (by decide) (by decide) rfl⟩
          · refine CW.skip ?_
            refine CW.regionL ?_
            refine OW.cons (OP.val (v := (.int .i64 s_l1)) rfl (x_mv f381) ?_)
            refine OW.cons (OP.val (v := (.int .i64 (w64 (s_l1 + 1)))) rfl (x_add rfl rfl) ?_)
            refine OW.cons (OP.val (v := (.int .i64 (w64 (s_l1 + 1)))) rfl (x_assign) ?_)
            refine OW.nil ?_
            obtain rfl := Option.some.inj hm
            exact ⟨_, rfl, ⟨f376, f377, f378, f379, f380, rfl, hL⟩⟩
        · refine CW.exit ?_
          refine XJ.hit ?_
          obtain rfl := Option.some.inj hm
          exact ⟨_, rfl, ⟨f376, f377, f378, f379, f380, f381, hL⟩⟩

theorem M.laws_szFinishS_ok (w0 : World) (a0 : List Finish) {v1 : Value} (h2 : rdL (· < w0.heap.size) w0 v1 a0) (a1 : Int) {r : Int} (hm : M.laws_szFinishS a0 a1 = some r) :
    Calls Try.prog 11 #[v1, (.int .i64 a1)] w0 fun e w' => e = .returned (.int .i64 r) ∧ Fresh w0 w' [] := by
  unfold M.laws_szFinishS at hm
  refine calls_CW (args := [v1, (.int .i64 a1)]) Try.func11 rfl rfl rfl ?_
  have hL := Hp.start w0
  refine CW.seq ?_
  refine CW.regionL ?_
  refine OW.cons (OP.val (v := (.int .i64 0)) rfl (x_assign) ?_)
  refine OW.nil ?_
  refine CW.seq ?_
  refine CW.regionL ?_
  refine OW.cons (OP.val (v := (.int .i64 a1)) rfl (x_move) ?_)
  refine OW.cons (OP.val (v := v1) rfl (x_move) ?_)
  refine OW.cons (OP.val (v := (.int .i64 (a0.length : Int))) rfl (x_lenR Try.underlying35 rfl (hL.rdS 0 rfl h2)) ?_)
  refine OW.cons (OP.val (v := (.int .i64 (w64 (a1 - (a0.length : Int))))) rfl (x_sub rfl rfl) ?_)
  refine OW.cons (OP.val (v := (.int .i64 (w64 (a1 - (a0.length : Int))))) rfl (x_assign) ?_)
  refine OW.nil ?_
  refine CW.seq ?_
  refine CW.seq ?_
  refine CW.regionL ?_
  refine OW.cons (OP.val (v := (.int .i64 (w64 (a1 - (a0.length : Int))))) rfl (x_move) ?_)
  refine OW.cons (OP.val (v := (.bool (decide ((w64 (a1 - (a0.length : Int))) < 0)))) rfl (x_lss rfl rfl) ?_)
  refine OW.nil ?_
  refine CW.condM (t := decide ((w64 (a1 - (a0.length : Int))) < 0)) rfl hm (fun hb3 hm => ?_) (fun hb3 hm => ?_)
  · refine CW.seq ?_
    refine CW.regionL ?_
    refine OW.cons (OP.val (v := (.int .i64 (-1))) rfl (x_assign) ?_)
    refine OW.nil ?_
    refine CW.ret ?_
    obtain rfl := Option.some.inj hm
    exact RR1 rfl rfl ⟨rfl, hL.fresh 0 rfl [] (by decide) (by decide) rfl⟩
  · refine CW.skip ?_
    refine CW.seq ?_
    refine CW.regionL ?_
    refine OW.cons (OP.val (v := (.int .i64 (w64 (a1 - (a0.length : Int))))) rfl (x_move) ?_)
    refine OW.cons (OP.val (v := (.int .i64 (w64 (a1 - (a0.length : Int))))) rfl (x_assign) ?_)
    refine OW.nil ?_
    refine CW.ret ?_
    obtain rfl := Option.some.inj hm
    exact RR1 rfl rfl ⟨rfl, hL.fresh 0 rfl [] (by decide) (by decide) rfl⟩

theorem M.laws_szCurvePointS_ok (w0 : World) (a0 : List CurvePoint) {v1 : Value} (h2 : rdL (· < w0.heap.size) w0 v1 a0) (a1 : Int) {r : Int} (hm : M.laws_szCurvePointS a0 a1 = some r) :
    Calls Try.prog 20 #[v1, (.int .i64 a1)] w0 fun e w' => e = .returned (.int .i64 r) ∧ Fresh w0 w' [] := by
  unfold M.laws_szCurvePointS at hm
  refine calls_CW (args := [v1, (.int .i64 a1)]) Try.func20 rfl rfl rfl ?_
  have hL := Hp.start w0
  refine CW.seq ?_
  refine CW.regionL ?_
  refine OW.cons (OP.val (v := (.int .i64 0)) rfl (x_assign) ?_)
  refine OW.nil ?_
  refine CW.seq ?_
  refine CW.regionL ?_
  refine OW.cons (OP.val (v := (.int .i64 a1)) rfl (x_move) ?_)
  refine OW.cons (OP.val (v := v1) rfl (x_move) ?_)
  refine OW.cons (OP.val (v := (.int .i64 (a0.length : Int))) rfl (x_lenR Try.underlying46 rfl (hL.rdS 0 rfl h2)) ?_)
  refine OW.cons (OP.val (v := (.int .i64 (w64 (a1 - (a0.length : Int))))) rfl (x_sub rfl rfl) ?_)
  refine OW.cons (OP.val (v := (.int .i64 (w64 (a1 - (a0.length : Int))))) rfl (x_assign) ?_)
  refine OW.nil ?_
  refine CW.seq ?_
  refine CW.seq ?_
  refine CW.regionL ?_
  refine OW.cons (OP.val (v := (.int .i64 (w64 (a1 - (a0.length : Int))))) rfl (x_move) ?_)
  refine OW.cons (OP.val (v := (.bool (decide ((w64 (a1 - (a0.length : Int))) < 0)))) rfl (x_lss rfl rfl) ?_)
  refine OW.nil ?_
  refine CW.condM (t := decide ((w64 (a1 - (a0.length : Int))) < 0)) rfl hm (fun hb3 hm => ?_) (fun hb3 hm => ?_)
  · refine CW.seq ?_
    refine CW.regionL ?_
    refine OW.cons (OP.val (v := (.int .i64 (-1))) rfl (x_assign) ?_)
    refine OW.nil ?_
    refine CW.ret ?_
    obtain rfl := Option.some.inj hm
    exact RR1 rfl rfl ⟨rfl, hL.fresh 0 rfl [] (by decide) (by decide) rfl⟩
  · refine CW.skip ?_
    refine CW.seq ?_
    refine CW.regionL ?_
    refine OW.cons (OP.val (v := (.int .i64 (w64 (a1 - (a0.length : Int))))) rfl (x_move) ?_)
    refine OW.cons (OP.val (v := (.int .i64 (w64 (a1 - (a0.length : Int))))) rfl (x_assign) ?_)
    refine OW.nil ?_
    refine CW.ret ?_
    obtain rfl := Option.some.inj hm
    exact RR1 rfl rfl ⟨rfl, hL.fresh 0 rfl [] (by decide) (by decide) rfl⟩

theorem M.laws_szCurvePointSS_ok (w0 : World) (a0 : List (List CurvePoint)) {v1 : Value} (h2 : rdL (· < w0.heap.size) w0 v1 a0) (a1 : Int) {r : Int} (hm : M.laws_szCurvePointSS a0 a1 = some r) :
    Calls Try.prog 12 #[v1, (.int .i64 a1)] w0 fun e w' => e = .returned (.int .i64 r) ∧ Fresh w0 w' [] := by
  unfold M.laws_szCurvePointSS at hm
  refine calls_CW (args := [v1, (.int .i64 a1)]) Try.func12 rfl rfl rfl ?_
  have hL := Hp.start w0
  refine CW.seq ?_
  refine CW.regionL ?_
  refine OW.cons (OP.val (v := (.int .i64 0)) rfl (x_assign) ?_)
  refine OW.nil ?_
  refine CW.seq ?_
  refine CW.regionL ?_
  refine OW.cons (OP.val (v := (.int .i64 a1)) rfl (x_move) ?_)
  refine OW.cons (OP.val (v := v1) rfl (x_move) ?_)
  refine OW.cons (OP.val (v := (.int .i64 (a0.length : Int))) rfl (x_lenR Try.underlying36 rfl (hL.rdS 0 rfl h2)) ?_)
  refine OW.cons (OP.val (v := (.int .i64 (w64 (a1 - (a0.length : Int))))) rfl (x_sub rfl rfl) ?_)
  refine OW.cons (OP.val (v := (.int .i64 (w64 (a1 - (a0.length : Int))))) rfl (x_assign) ?_)
  refine OW.nil ?_
  refine CW.seq ?_
  refine CW.seq ?_
  refine CW.regionL ?_
  refine OW.cons (OP.val (v := (.int .i64 (w64 (a1 - (a0.length : Int))))) rfl (x_move) ?_)
  refine OW.cons (OP.val (v := (.bool (decide ((w64 (a1 - (a0.length : Int))) < 0)))) rfl (x_lss rfl rfl) ?_)
  refine OW.nil ?_
  refine CW.condM (t := decide ((w64 (a1 - (a0.length : Int))) < 0)) rfl hm (fun hb3 hm => ?_) (fun hb3 hm => ?_)
  · refine CW.seq ?_
    refine CW.regionL ?_
    refine OW.cons (OP.val (v := (.int .i64 (-1))) rfl (x_assign) ?_)
    refine OW.nil ?_
    refine CW.ret ?_
    obtain rfl := Option.some.inj hm
    exact RR1 rfl rfl ⟨rfl, hL.fresh 0 rfl [] (by decide) (by decide) rfl⟩
  · refine CW.skip ?_
    refine CW.seq ?_
    refine CW.seq ?_
    refine CW.regionL ?_
    refine OW.cons (OP.val (v := (.int .i64 0)) rfl (x_assign) ?_)
    refine OW.nil ?_
    obtain ⟨o42, ho43, hm⟩ := bndE hm
    refine CW.loopB (fun (s_l1 : Int × Int) (F : Fr) (w : World) => F 0 = v1 ∧ F 1 = (.int .i64 s_l1.1) ∧ F 5 = (.int .i64 s_l1.2) ∧ Hp w0 [Ent.snap w0 w0.heap.size] w) (fun o => outc o (fun x => some x) (fun s => M.laws_szCurvePointSS_a1 s) = some r) ho43 hm ⟨rfl, rfl, rfl, hL⟩ ?_ ?_
    · intro s_l1 F44 wd45 hJ hm
      have hm := outcE hm
      have hm : M.laws_szCurvePointSS_a1 s_l1 = some r := hm
      unfold M.laws_szCurvePointSS_a1 at hm
      obtain ⟨f46, f47, f48, hL⟩ := hJ
      refine CW.seq ?_
      refine CW.regionL ?_
      refine OW.cons (OP.val (v := (.int .i64 s_l1.1)) rfl (x_mv f47) ?_)
      refine OW.cons (OP.val (v := (.int .i64 s_l1.1)) rfl (x_assign) ?_)
      refine OW.nil ?_
      refine CW.ret ?_
      obtain rfl := Option.some.inj hm
      exact RR1 rfl rfl ⟨rfl, hL.fresh 0 rfl [] (by decide) (by decide) rfl⟩
    · intro s_l1 F49 wd50 t40 hJ hm hr41
      unfold M.laws_szCurvePointSS_l1 at hm
      obtain ⟨f51, f52, f53, hL⟩ := hJ
      refine CW.seq ?_
      refine CW.seq ?_
      refine CW.regionL ?_
      refine OW.cons (OP.val (v := (.int .i64 s_l1.2)) rfl (x_mv f53) ?_)
      refine OW.cons (OP.val (v := v1) rfl (x_mv f51) ?_)
      refine OW.cons (OP.val (v := (.int .i64 (a0.length : Int))) rfl (x_lenR Try.underlying36 rfl (hL.rdS 0 rfl h2)) ?_)
      refine OW.cons (OP.val (v := (.bool (decide (s_l1.2 < (a0.length : Int))))) rfl (x_lss rfl rfl) ?_)
      refine OW.nil ?_
      refine CW.condM (t := decide (s_l1.2 < (a0.length : Int))) rfl hm (fun hb54 hm => ?_) (fun hb54 hm => ?_)
      · refine CW.skip ?_
        refine CW.seq ?_
        refine CW.block ?_
        refine CW.seq ?_
        refine CW.regionL ?_
        refine OW.cons (OP.val (v := v1) rfl (x_mv f51) ?_)
        refine OW.cons (OP.val (v := (.int .i64 s_l1.2)) rfl (x_mv f53) ?_)
        obtain ⟨x55, ha56, hm⟩ := bndE hm
        obtain ⟨hz57, ha65⟩ := idxE ha56
        obtain ⟨b58, q59, v60, hix61, hs62, hc63, hr64⟩ := rdN_at h2 hz57 ha65
        refine OW.cons (OP.val (v := (.pointer (some ⟨b58, q59, none⟩))) rfl (x_ix Try.underlying36 Try_T46 rfl rfl hix61) ?_)
        refine OW.cons (OP.val (v := v60) rfl (x_load1 Try.underlying46 rfl rfl (hL.cellS 0 rfl hs62 hc63)) ?_)
        refine OW.cons (OP.val (v := (.int .i64 s_l1.1)) rfl (x_mv f52) ?_)
        obtain ⟨x66, hx67, hm⟩ := bndE hm
        refine OW.cons (OP.call rfl (x_call (vs := [v60, (.int .i64 s_l1.1)]) Try_C20 ⟨rfl, rfl, trivial⟩) (M.laws_szCurvePointS_ok _ x55 (hL.rdS 0 rfl hr64) s_l1.1 hx67) ?_)
        rintro e68 wd69 ⟨rfl, hF70⟩
        refine ⟨_, rfl, ?_⟩
        have hL := hL.pushAll hF70
        simp only [lA, lB, lC, lD] at hL
        refine OW.cons (OP.val (v := (.int .i64 x66)) rfl (x_assign) ?_)
        refine OW.nil ?_
        refine CW.seq ?_
        refine CW.regionL ?_
        refine OW.cons (OP.val (v := (.int .i64 x66)) rfl (x_move) ?_)
        refine OW.cons (OP.val (v := (.bool (decide (x66 < 0)))) rfl (x_lss rfl rfl) ?_)
        refine OW.nil ?_
        refine CW.condM (t := decide (x66 < 0)) rfl hm (fun hb71 hm => ?_) (fun hb71 hm => ?_)
        · refine CW.seq ?_
          refine CW.regionL ?_
          refine OW.cons (OP.val (v := (.int .i64 (-1))) rfl (x_assign) ?_)
          refine OW.nil ?_
          refine CW.ret ?_
          obtain rfl := Option.some.inj hm
          have hm := hr41 _ rfl
          obtain rfl := Option.some.inj hm
          exact RR1 rfl rfl ⟨rfl, hL.fresh 0 rfl [] (by decide) (by decide) rfl⟩
        · refine CW.skip ?_
          refine CW.regionL ?_
          refine OW.cons (OP.val (v := (.int .i64 s_l1.2)) rfl (x_mv f53) ?_)
          refine OW.cons (OP.val (v := (.int .i64 (w64 (s_l1.2 + 1)))) rfl (x_add rfl rfl) ?_)
          refine OW.cons (OP.val (v := (.int .i64 (w64 (s_l1.2 + 1)))) rfl (x_assign) ?_)
          refine OW.nil ?_
          obtain rfl := Option.some.inj hm
          exact ⟨_, rfl, ⟨f51, rfl, rfl, hL⟩⟩
      · refine CW.exit ?_
        refine XJ.hit ?_
        obtain rfl := Option.some.inj hm
        exact ⟨_, rfl, ⟨f51, f52, f53, hL⟩⟩

theorem M.laws_toFinish_ok (w0 : World) (a0 : Finish) {r : Finish} (hm : M.laws_toFinish a0 = some r) :
    Calls Try.prog 45 #[(.agg #[(.int .i64 a0.Boat), (.int .i64 a0.Code), (.int .i64 a0.Time)])] w0 fun e w' => e = .returned (.agg #[(.int .i64 r.Boat), (.int .i64 r.Code), (.int .i64 r.Time)]) ∧ Fresh w0 w' [] := by
  unfold M.laws_toFinish at hm
  refine calls_CW (args := [(.agg #[(.int .i64 a0.Boat), (.int .i64 a0.Code), (.int .i64 a0.Time)])]) Try.func45 rfl rfl rfl ?_
  have hL := Hp.start w0
  refine CW.seq ?_
  refine CW.regionL ?_
  refine OW.cons (S_box (cs := #[(.int .i64 a0.Boat), (.int .i64 a0.Code), (.int .i64 a0.Time)]) hL rfl rfl rfl ?_)
  intro wd1 b2 hL
  refine OW.cons (S_alloc (cs := #[(.int .i64 0), (.int .i64 0), (.int .i64 0)]) hL Try_T31 rfl rfl ?_)
  intro wd3 b4 hL
  refine OW.nil ?_
  refine CW.seq ?_
  refine CW.regionL ?_
  refine OW.cons (S_alloc (cs := #[(.int .i64 0), (.int .i64 0), (.int .i64 0)]) hL Try_T31 rfl rfl ?_)
  intro wd5 b6 hL
  refine OW.nil ?_
  refine CW.seq ?_
  refine CW.regionL ?_
  refine OW.cons (OP.val (v := (.pointer (some ⟨b2, 0, none⟩))) rfl (x_fieldAddr (fsz := 1) 0 0 0 Try.underlying70 rfl Try_T2 rfl rfl rfl) ?_)
  refine OW.cons (OP.val (v := (.int .i64 a0.Boat)) rfl (x_load1 Try.underlying2 rfl rfl (hL.cellB 2 rfl rfl)) ?_)
  refine OW.cons (OP.val (v := (.pointer (some ⟨b6, 0, none⟩))) rfl (x_fieldAddr (fsz := 1) 0 0 0 Try.underlying31 rfl Try_T2 rfl rfl rfl) ?_)
  refine OW.cons (S_store (cs' := #[(.int .i64 a0.Boat), (.int .i64 0), (.int .i64 0)]) hL 0 rfl Try_T2 rfl rfl rfl rfl rfl ?_)
  intro wd7 hL
  refine OW.nil ?_
  refine CW.seq ?_
  refine CW.regionL ?_
  refine OW.cons (OP.val (v := (.pointer (some ⟨b2, 1, none⟩))) rfl (x_fieldAddr (fsz := 1) 0 1 1 Try.underlying70 rfl Try_T2 rfl rfl rfl) ?_)
  refine OW.cons (OP.val (v := (.int .i64 a0.Code)) rfl (x_load1 Try.underlying2 rfl rfl (hL.cellB 2 rfl rfl)) ?_)
  refine OW.cons (OP.val (v := (.pointer (some ⟨b6, 1, none⟩))) rfl (x_fieldAddr (fsz := 1) 0 1 1 Try.underlying31 rfl Try_T2 rfl rfl rfl) ?_)
  refine OW.cons (S_store (cs' := #[(.int .i64 a0.Boat), (.int .i64 a0.Code), (.int .i64 0)]) hL 0 rfl Try_T2 rfl rfl rfl rfl rfl ?_)
  intro wd8 hL
  refine OW.nil ?_
  refine CW.seq ?_
  refine CW.regionL ?_
  refine OW.cons (OP.val (v := (.pointer (some ⟨b2, 2, none⟩))) rfl (x_fieldAddr (fsz := 1) 0 2 2 Try.underlying70 rfl Try_T2 rfl rfl rfl) ?_)
  refine OW.cons (OP.val (v := (.int .i64 a0.Time)) rfl (x_load1 Try.underlying2 rfl rfl (hL.cellB 2 rfl rfl)) ?_)
  refine OW.cons (OP.val (v := (.pointer (some ⟨b6, 2, none⟩))) rfl (x_fieldAddr (fsz := 1) 0 2 2 Try.underlying31 rfl Try_T2 rfl rfl rfl) ?_)
  refine OW.cons (S_store (cs' := #[(.int .i64 a0.Boat), (.int .i64 a0.Code), (.int .i64 a0.Time)]) hL 0 rfl Try_T2 rfl rfl rfl rfl rfl ?_)
  intro wd9 hL
  refine OW.nil ?_
  refine CW.seq ?_
  refine CW.regionL ?_
  refine OW.cons (OP.val (v := (.agg #[(.int .i64 a0.Boat), (.int .i64 a0.Code), (.int .i64 a0.Time)])) rfl (x_loadN (cs := [(.int .i64 a0.Boat), (.int .i64 a0.Code), (.int .i64 a0.Time)]) Try.underlying31 Try_T31 rfl rfl (hL.cellsB 0 rfl (o := 0) (l := [(.int .i64 a0.Boat), (.int .i64 a0.Code), (.int .i64 a0.Time)]) (by intro j u hj; exact (by simpa using hj)))) ?_)
  refine OW.cons (S_storeN (l := [(.int .i64 a0.Boat), (.int .i64 a0.Code), (.int .i64 a0.Time)]) (cs' := #[(.int .i64 a0.Boat), (.int .i64 a0.Code), (.int .i64 a0.Time)]) hL 1 rfl Try_T31 rfl rfl (List.forall_mem_cons.2 ⟨rfl, (List.forall_mem_cons.2 ⟨rfl, (List.forall_mem_cons.2 ⟨rfl, (fun _ h => by cases h)⟩)⟩)⟩) rfl (Nat.le_of_ble_eq_true rfl) rfl ?_)
  intro wd10 hL
  refine OW.nil ?_
  refine CW.ret ?_
  obtain rfl := Option.some.inj hm
  exact RRc rfl rfl (run_loadBlk Try.underlying31 Try_T31 (hL.get 1 rfl) rfl) ⟨rfl, hL.fresh 3 rfl [] (by decide) (by decide) rfl⟩

theorem M.laws_toFinishS_ok (w0 : World) (a0 : List Finish) {v1 : Value} (h2 : rdL (· < w0.heap.size) w0 v1 a0) {r : (List Finish)} (hm : M.laws_toFinishS a0 = some r) :
    Calls Try.prog 13 #[v1] w0 fun e w' => ∃ (rv0 : Value) (rS0 : Nat → Prop), e = .returned rv0 ∧ Fresh w0 w' [Ent.own 31 rS0 rv0 r] := by
  unfold M.laws_toFinishS at hm
  refine calls_CW (args := [v1]) Try.func13 rfl rfl rfl ?_
  have hL := Hp.start w0
  refine CW.seq ?_
  refine CW.regionL ?_
  refine OW.cons (OP.val (v := (.slice none 0 0)) rfl (x_assign) ?_)
  refine OW.nil ?_
  refine CW.seq ?_
  refine CW.regionL ?_
  refine OW.cons (OP.val (v := v1) rfl (x_move) ?_)
  refine OW.cons (OP.val (v := (.int .i64 (a0.length : Int))) rfl (x_lenR Try.underlying35 rfl (hL.rdS 0 rfl h2)) ?_)
  obtain ⟨hc6, hm⟩ := chkE hm
  refine OW.cons (S_make (α := Finish) (Finish.mk 0 0 0) hL Try.underlying24 Try_T31 rfl rfl rfl hc6 (by decide) rfl ?_)
  intro wd3 v4 S5 hL
  refine OW.cons (OP.val (v := v4) rfl (x_assign) ?_)
  refine OW.nil ?_
  refine CW.seq ?_
  refine CW.seq ?_
  refine CW.regionL ?_
  refine OW.cons (OP.val (v := (.int .i64 0)) rfl (x_assign) ?_)
  refine OW.nil ?_
  obtain ⟨o53, ho54, hm⟩ := bndE hm
  refine CW.loopB (fun (s_l1 : (List Finish) × Int) (F : Fr) (w : World) => ∃ (S50 : Nat → Prop), F 0 = v1 ∧ F 3 = v4 ∧ F 4 = (.int .i64 s_l1.2) ∧ Hp w0 [Ent.own 31 S50 v4 s_l1.1, Ent.snap w0 w0.heap.size] w) (fun o => outc o (fun x => some x) (fun s => M.laws_toFinishS_a1 s) = some r) ho54 hm ⟨S5, rfl, rfl, rfl, hL⟩ ?_ ?_
  · intro s_l1 F55 wd56 hJ hm
    have hm := outcE hm
    have hm : M.laws_toFinishS_a1 s_l1 = some r := hm
    unfold M.laws_toFinishS_a1 at hm
    obtain ⟨S50, f57, f58, f59, hL⟩ := hJ
    refine CW.seq ?_
    refine CW.regionL ?_
    refine OW.cons (OP.val (v := v4) rfl (x_mv f58) ?_)
    refine OW.cons (OP.val (v := v4) rfl (x_assign) ?_)
    refine OW.nil ?_
    refine CW.ret ?_
    obtain rfl := Option.some.inj hm
    exact RR1 rfl rfl ⟨v4, S50, rfl, hL.fresh 1 rfl [0] (by decide) (by decide) rfl⟩
  · intro s_l1 F60 wd61 t51 hJ hm hr52
    unfold M.laws_toFinishS_l1 at hm
    obtain ⟨S50, f62, f63, f64, hL⟩ := hJ
    refine CW.seq ?_
    refine CW.seq ?_
    refine CW.regionL ?_
    refine OW.cons (OP.val (v := (.int .i64 s_l1.2)) rfl (x_mv f64) ?_)
    refine OW.cons (OP.val (v := v1) rfl (x_mv f62) ?_)
    refine OW.cons (OP.val (v := (.int .i64 (a0.length : Int))) rfl (x_lenR Try.underlying35 rfl (hL.rdS 1 rfl h2)) ?_)
    refine OW.cons (OP.val (v := (.bool (decide (s_l1.2 < (a0.length : Int))))) rfl (x_lss rfl rfl) ?_)
    refine OW.nil ?_
    refine CW.condM (t := decide (s_l1.2 < (a0.length : Int))) rfl hm (fun hb65 hm => ?_) (fun hb65 hm => ?_)
    · refine CW.skip ?_
      refine CW.seq ?_
      refine CW.block ?_
      refine CW.regionL ?_
      refine OW.cons (OP.val (v := v4) rfl (x_mv f63) ?_)
      refine OW.cons (OP.val (v := (.int .i64 s_l1.2)) rfl (x_mv f64) ?_)
      refine OW.cons (OP.val (v := v1) rfl (x_mv f62) ?_)
      refine OW.cons (OP.val (v := (.int .i64 s_l1.2)) rfl (x_mv f64) ?_)
      obtain ⟨x66, ha67, hm⟩ := bndE hm
      obtain ⟨hz68, ha72⟩ := idxE ha67
      obtain ⟨b69, q70, hix71⟩ := rdL_ix (hL.rdS 1 rfl h2) hz68 ha72
      refine OW.cons (OP.val (v := (.pointer (some ⟨b69, q70, none⟩))) rfl (x_ix Try.underlying35 Try_T70 rfl rfl hix71) ?_)
      refine OW.cons (OP.val (v := (.agg #[(.int .i64 x66.Boat), (.int .i64 x66.Code), (.int .i64 x66.Time)])) rfl (x_loadN (cs := [(.int .i64 x66.Boat), (.int .i64 x66.Code), (.int .i64 x66.Time)]) Try.underlying70 Try_T70 rfl rfl (rdF_cells (hL.rdS 1 rfl h2) hix71 ha72)) ?_)
      obtain ⟨x73, hx74, hm⟩ := bndE hm
      refine OW.cons (OP.call rfl (x_call (vs := [(.agg #[(.int .i64 x66.Boat), (.int .i64 x66.Code), (.int .i64 x66.Time)])]) Try_C45 ⟨rfl, trivial⟩) (M.laws_toFinish_ok _ x66 hx74) ?_)
      rintro e75 wd76 ⟨rfl, hF77⟩
      refine ⟨_, rfl, ?_⟩
      have hL := hL.pushAll hF77
      simp only [lA, lB, lC, lD] at hL
      obtain ⟨x78, ha79, hm⟩ := bndE hm
      obtain ⟨hz80, ha84⟩ := idxE ha79
      obtain ⟨b81, q82, hix83⟩ := rdL_ix (hL.rdO 0 rfl) hz80 ha84
      refine OW.cons (OP.val (v := (.pointer (some ⟨b81, q82, none⟩))) rfl (x_ix Try.underlying24 Try_T31 rfl rfl hix83) ?_)
      refine OW.cons (S_storeXN (l := [(.int .i64 x73.Boat), (.int .i64 x73.Code), (.int .i64 x73.Time)]) x73 hL 0 rfl Try_T31 hix83 ha84 rfl rfl rfl ?_)
      intro wd85 hL
      refine OW.nil ?_
      refine CW.regionL ?_
      refine OW.cons (OP.val (v := (.int .i64 s_l1.2)) rfl (x_mv f64) ?_)
      refine OW.cons (OP.val (v := (.int .i64 (w64 (s_l1.2 + 1)))) rfl (x_add rfl rfl) ?_)
      refine OW.cons (OP.val (v := (.int .i64 (w64 (s_l1.2 + 1)))) rfl (x_assign) ?_)
      refine OW.nil ?_
      obtain rfl := Option.some.inj hm
      exact ⟨_, rfl, ⟨S50, f62, f63, rfl, hL⟩⟩
    · refine CW.exit ?_
      refine XJ.hit ?_
      obtain rfl := Option.some.inj hm
      exact ⟨_, rfl, ⟨S50, f62, f63, f64, hL⟩⟩

theorem M.laws_toCurvePoint_ok (w0 : World) (a0 : CurvePoint) {r : CurvePoint} (hm : M.laws_toCurvePoint a0 = some r) :
    Calls Try.prog 48 #[(.agg #[(.int .i64 a0.Wind), (.int .i64 a0.Pace)])] w0 fun e w' => e = .returned (.agg #[(.int .i64 r.Wind), (.int .i64 r.Pace)]) ∧ Fresh w0 w' [] := by
  unfold M.laws_toCurvePoint at hm
  refine calls_CW (args := [(.agg #[(.int .i64 a0.Wind), (.int .i64 a0.Pace)])]) Try.func48 rfl rfl rfl ?_
  have hL := Hp.start w0
  refine CW.seq ?_
  refine CW.regionL ?_
  refine OW.cons (S_box (cs := #[(.int .i64 a0.Wind), (.int .i64 a0.Pace)]) hL rfl rfl rfl ?_)
  intro wd1 b2 hL
  refine OW.cons (S_alloc (cs := #[(.int .i64 0), (.int .i64 0)]) hL Try_T62 rfl rfl ?_)
  intro wd3 b4 hL
  refine OW.nil ?_
  refine CW.seq ?_
  refine CW.regionL ?_
  refine OW.cons (S_alloc (cs := #[(.int .i64 0), (.int .i64 0)]) hL Try_T62 rfl rfl ?_)
  intro wd5 b6 hL
  refine OW.nil ?_
  refine CW.seq ?_
  refine CW.regionL ?_
  refine OW.cons (OP.val (v := (.pointer (some ⟨b2, 0, none⟩))) rfl (x_fieldAddr (fsz := 1) 0 0 0 Try.underlying75 rfl Try_T2 rfl rfl rfl) ?_)
  refine OW.cons (OP.val (v := (.int .i64 a0.Wind)) rfl (x_load1 Try.underlying2 rfl rfl (hL.cellB 2 rfl rfl)) ?_)
  refine OW.cons (OP.val (v := (.pointer (some ⟨b6, 0, none⟩))) rfl (x_fieldAddr (fsz := 1) 0 0 0 Try.underlying62 rfl Try_T2 rfl rfl rfl) ?_)
  refine OW.cons (S_store (cs' := #[(.int .i64 a0.Wind), (.int .i64 0)]) hL 0 rfl Try_T2 rfl rfl rfl rfl rfl ?_)
  intro wd7 hL
  refine OW.nil ?_
  refine CW.seq ?_
  refine CW.regionL ?_
  refine OW.cons (OP.val (v := (.pointer (some ⟨b2, 1, none⟩))) rfl (x_fieldAddr (fsz := 1) 0 1 1 Try.underlying75 rfl Try_T2 rfl rfl rfl) ?_)
  refine OW.cons (OP.val (v := (.int .i64 a0.Pace)) rfl (x_load1 Try.underlying2 rfl rfl (hL.cellB 2 rfl rfl)) ?_)
  refine OW.cons (OP.val (v := (.pointer (some ⟨b6, 1, none⟩))) rfl (x_fieldAddr (fsz := 1) 0 1 1 Try.underlying62 rfl Try_T2 rfl rfl rfl) ?_)
  refine OW.cons (S_store (cs' := #[(.int .i64 a0.Wind), (.int .i64 a0.Pace)]) hL 0 rfl Try_T2 rfl rfl rfl rfl rfl ?_)
  intro wd8 hL
  refine OW.nil ?_
  refine CW.seq ?_
  refine CW.regionL ?_
  refine OW.cons (OP.val (v := (.agg #[(.int .i64 a0.Wind), (.int .i64 a0.Pace)])) rfl (x_loadN (cs := [(.int .i64 a0.Wind), (.int .i64 a0.Pace)]) Try.underlying62 Try_T62 rfl rfl (hL.cellsB 0 rfl (o := 0) (l := [(.int .i64 a0.Wind), (.int .i64 a0.Pace)]) (by intro j u hj; exact (by simpa using hj)))) ?_)
  refine OW.cons (S_storeN (l := [(.int .i64 a0.Wind), (.int .i64 a0.Pace)]) (cs' := #[(.int .i64 a0.Wind), (.int .i64 a0.Pace)]) hL 1 rfl Try_T62 rfl rfl (List.forall_mem_cons.2 ⟨rfl, (List.forall_mem_cons.2 ⟨rfl, (fun _ h => by cases h)⟩)⟩) rfl (Nat.le_of_ble_eq_true rfl) rfl ?_)
  intro wd9 hL
  refine OW.nil ?_
  refine CW.ret ?_
  obtain rfl := Option.some.inj hm
  exact RRc rfl rfl (run_loadBlk Try.underlying62 Try_T62 (hL.get 1 rfl) rfl) ⟨rfl, hL.fresh 3 rfl [] (by decide) (by decide) rfl⟩

theorem M.laws_toCurvePointS_ok (w0 : World) (a0 : List CurvePoint) {v1 : Value} (h2 : rdL (· < w0.heap.size) w0 v1 a0) {r : (List CurvePoint)} (hm : M.laws_toCurvePointS a0 = some r) :
    Calls Try.prog 22 #[v1] w0 fun e w' => ∃ (rv0 : Value) (rS0 : Nat → Prop), e = .returned rv0 ∧ Fresh w0 w' [Ent.own 62 rS0 rv0 r] := by
  unfold M.laws_toCurvePointS at hm
  refine calls_CW (args := [v1]) Try.func22 rfl rfl rfl ?_
  have hL := Hp.start w0
  refine CW.seq ?_
  refine CW.regionL ?_
  refine OW.cons (OP.val (v := (.slice none 0 0)) rfl (x_assign) ?_)
  refine OW.nil ?_
  refine CW.seq ?_
  refine CW.regionL ?_
  refine OW.cons (OP.val (v := v1) rfl (x_move) ?_)
  refine OW.cons (OP.val (v := (.int .i64 (a0.length : Int))) rfl (x_lenR Try.underlying46 rfl (hL.rdS 0 rfl h2)) ?_)
  obtain ⟨hc6, hm⟩ := chkE hm
  refine OW.cons (S_make (α := CurvePoint) (CurvePoint.mk 0 0) hL Try.underlying34 Try_T62 rfl rfl rfl hc6 (by decide) rfl ?_)
  intro wd3 v4 S5 hL
  refine OW.cons (OP.val (v := v4) rfl (x_assign) ?_)
  refine OW.nil ?_
  refine CW.seq ?_
  refine CW.seq ?_
  refine CW.regionL ?_
  refine OW.cons (OP.val (v := (.int .i64 0)) rfl (x_assign) ?_)
  refine OW.nil ?_
  obtain ⟨o53, ho54, hm⟩ := bndE hm
  refine CW.loopB (fun (s_l1 : (List CurvePoint) × Int) (F : Fr) (w : World) => ∃ (S50 : Nat → Prop), F 0 = v1 ∧ F 3 = v4 ∧ F 4 = (.int .i64 s_l1.2) ∧ Hp w0 [Ent.own 62 S50 v4 s_l1.1, Ent.snap w0 w0.heap.size] w) (fun o => outc o (fun x => some x) (fun s => M.laws_toCurvePointS_a1 s) = some r) ho54 hm ⟨S5, rfl, rfl, rfl, hL⟩ ?_ ?_
  · intro s_l1 F55 wd56 hJ hm
    have hm := outcE hm
    have hm : M.laws_toCurvePointS_a1 s_l1 = some r := hm
    unfold M.laws_toCurvePointS_a1 at hm
    obtain ⟨S50, f57, f58, f59, hL⟩ := hJ
    refine CW.seq ?_
    refine CW.regionL ?_
    refine OW.cons (OP.val (v := v4) rfl (x_mv f58) ?_)
    refine OW.cons (OP.val (v := v4) rfl (x_assign) ?_)
    refine OW.nil ?_
    refine CW.ret ?_
    obtain rfl := Option.some.inj hm
    exact RR1 rfl rfl ⟨v4, S50, rfl, hL.fresh 1 rfl [0] (by decide) (by decide) rfl⟩
  · intro s_l1 F60 wd61 t51 hJ hm hr52
    unfold M.laws_toCurvePointS_l1 at hm
    obtain ⟨S50, f62, f63, f64, hL⟩ := hJ
    refine CW.seq ?_
    refine CW.seq ?_
    refine CW.regionL ?_
    refine OW.cons (OP.val (v := (.int .i64 s_l1.2)) rfl (x_mv f64) ?_)
    refine OW.cons (OP.val (v := v1) rfl (x_mv f62) ?_)
    refine OW.cons (OP.val (v := (.int .i64 (a0.length : Int))) rfl (x_lenR Try.underlying46 rfl (hL.rdS 1 rfl h2)) ?_)
    refine OW.cons (OP.val (v := (.bool (decide (s_l1.2 < (a0.length : Int))))) rfl (x_lss rfl rfl) ?_)
    refine OW.nil ?_
    refine CW.condM (t := decide (s_l1.2 < (a0.length : Int))) rfl hm (fun hb65 hm => ?_) (fun hb65 hm => ?_)
    · refine CW.skip ?_
      refine CW.seq ?_
      refine CW.block ?_
      refine CW.regionL ?_
      refine OW.cons (OP.val (v := v4) rfl (x_mv f63) ?_)
      refine OW.cons (OP.val (v := (.int .i64 s_l1.2)) rfl (x_mv f64) ?_)
      refine OW.cons (OP.val (v := v1) rfl (x_mv f62) ?_)
      refine OW.cons (OP.val (v := (.int .i64 s_l1.2)) rfl (x_mv f64) ?_)
      obtain ⟨x66, ha67, hm⟩ := bndE hm
      obtain ⟨hz68, ha72⟩ := idxE ha67
      obtain ⟨b69, q70, hix71⟩ := rdL_ix (hL.rdS 1 rfl h2) hz68 ha72
      refine OW.cons (OP.val (v := (.pointer (some ⟨b69, q70, none⟩))) rfl (x_ix Try.underlying46 Try_T75 rfl rfl hix71) ?_)
      refine OW.cons (OP.val (v := (.agg #[(.int .i64 x66.Wind), (.int .i64 x66.Pace)])) rfl (x_loadN (cs := [(.int .i64 x66.Wind), (.int .i64 x66.Pace)]) Try.underlying75 Try_T75 rfl rfl (rdF_cells (hL.rdS 1 rfl h2) hix71 ha72)) ?_)
      obtain ⟨x73, hx74, hm⟩ := bndE hm
      refine OW.cons (OP.call rfl (x_call (vs := [(.agg #[(.int .i64 x66.Wind), (.int .i64 x66.Pace)])]) Try_C48 ⟨rfl, trivial⟩) (M.laws_toCurvePoint_ok _ x66 hx74) ?_)
      rintro e75 wd76 ⟨rfl, hF77⟩
      refine ⟨_, rfl, ?_⟩
      have hL := hL.pushAll hF77
      simp only [lA, lB, lC, lD] at hL
      obtain ⟨x78, ha79, hm⟩ := bndE hm
      obtain ⟨hz80, ha84⟩ := idxE ha79
      obtain ⟨b81, q82, hix83⟩ := rdL_ix (hL.rdO 0 rfl) hz80 ha84
      refine OW.cons (OP.val (v := (.pointer (some ⟨b81, q82, none⟩))) rfl (x_ix Try.underlying34 Try_T62 rfl rfl hix83) ?_)
      refine OW.cons (S_storeXN (l := [(.int .i64 x73.Wind), (.int .i64 x73.Pace)]) x73 hL 0 rfl Try_T62 hix83 ha84 rfl rfl rfl ?_)
      intro wd85 hL
      refine OW.nil ?_
      refine CW.regionL ?_
      refine OW.cons (OP.val (v := (.int .i64 s_l1.2)) rfl (x_mv f64) ?_)
      refine OW.cons (OP.val (v := (.int .i64 (w64 (s_l1.2 + 1)))) rfl (x_add rfl rfl) ?_)
      refine OW.cons (OP.val (v := (.int .i64 (w64 (s_l1.2 + 1)))) rfl (x_assign) ?_)
      refine OW.nil ?_
      obtain rfl := Option.some.inj hm
      exact ⟨_, rfl, ⟨S50, f62, f63, rfl, hL⟩⟩
    · refine CW.exit ?_
      refine XJ.hit ?_
      obtain rfl := Option.some.inj hm
      exact ⟨_, rfl, ⟨S50, f62, f63, f64, hL⟩⟩

theorem M.laws_toCurvePointSS_ok (w0 : World) (a0 : List (List CurvePoint)) {v1 : Value} (h2 : rdL (· < w0.heap.size) w0 v1 a0) {r : (List (List CurvePoint))} (hm : M.laws_toCurvePointSS a0 = some r) :
    Calls Try.prog 14 #[v1] w0 fun e w' => ∃ (rv0 : Value) (rS0 : Nat → Prop), e = .returned rv0 ∧ Fresh w0 w' [Ent.own 34 rS0 rv0 r] := by
  unfold M.laws_toCurvePointSS at hm
  refine calls_CW (args := [v1]) Try.func14 rfl rfl rfl ?_
  have hL := Hp.start w0
  refine CW.seq ?_
  refine CW.regionL ?_
  refine OW.cons (OP.val (v := (.slice none 0 0)) rfl (x_assign) ?_)
  refine OW.nil ?_
  refine CW.seq ?_
  refine CW.regionL ?_
  refine OW.cons (OP.val (v := v1) rfl (x_move) ?_)
  refine OW.cons (OP.val (v := (.int .i64 (a0.length : Int))) rfl (x_lenR Try.underlying36 rfl (hL.rdS 0 rfl h2)) ?_)
  obtain ⟨hc6, hm⟩ := chkE hm
  refine OW.cons (S_makeN (α := CurvePoint) (β := List CurvePoint) ([] : List CurvePoint) rfl hL Try.underlying25 Try_T34 rfl rfl rfl hc6 (by decide) rfl ?_)
  intro wd3 v4 S5 hL
  refine OW.cons (OP.val (v := v4) rfl (x_assign) ?_)
  refine OW.nil ?_
  refine CW.seq ?_
  refine CW.seq ?_
  refine CW.regionL ?_
  refine OW.cons (OP.val (v := (.int .i64 0)) rfl (x_assign) ?_)
  refine OW.nil ?_
  obtain ⟨o79, ho80, hm⟩ := bndE hm
  refine CW.loopB (fun (s_l1 : (List (List CurvePoint)) × Int) (F : Fr) (w : World) => ∃ (S76 : Nat → Prop), F 0 = v1 ∧ F 3 = v4 ∧ F 4 = (.int .i64 s_l1.2) ∧ Hp w0 [Ent.own 34 S76 v4 s_l1.1, Ent.snap w0 w0.heap.size] w) (fun o => outc o (fun x => some x) (fun s => M.laws_toCurvePointSS_a1 s) = some r) ho80 hm ⟨S5, rfl, rfl, rfl, hL⟩ ?_ ?_
  · intro s_l1 F81 wd82 hJ hm
    have hm := outcE hm
    have hm : M.laws_toCurvePointSS_a1 s_l1 = some r := hm
    unfold M.laws_toCurvePointSS_a1 at hm
    obtain ⟨S76, f83, f84, f85, hL⟩ := hJ
    refine CW.seq ?_
    refine CW.regionL ?_
    refine OW.cons (OP.val (v := v4) rfl (x_mv f84) ?_)
    refine OW.cons (OP.val (v := v4) rfl (x_assign) ?_)
    refine OW.nil ?_
    refine CW.ret ?_
    obtain rfl := Option.some.inj hm
    exact RR1 rfl rfl ⟨v4, S76, rfl, hL.fresh 1 rfl [0] (by decide) (by decide) rfl⟩
  · intro s_l1 F86 wd87 t77 hJ hm hr78
    unfold M.laws_toCurvePointSS_l1 at hm
    obtain ⟨S76, f88, f89, f90, hL⟩ := hJ
    refine CW.seq ?_
    refine CW.seq ?_
    refine CW.regionL ?_
    refine OW.cons (OP.val (v := (.int .i64 s_l1.2)) rfl (x_mv f90) ?_)
    refine OW.cons (OP.val (v := v1) rfl (x_mv f88) ?_)
    refine OW.cons (OP.val (v := (.int .i64 (a0.length : Int))) rfl (x_lenR Try.underlying36 rfl (hL.rdS 1 rfl h2)) ?_)
    refine OW.cons (OP.val (v := (.bool (decide (s_l1.2 < (a0.length : Int))))) rfl (x_lss rfl rfl) ?_)
    refine OW.nil ?_
    refine CW.condM (t := decide (s_l1.2 < (a0.length : Int))) rfl hm (fun hb91 hm => ?_) (fun hb91 hm => ?_)
    · refine CW.skip ?_
      refine CW.seq ?_
      refine CW.block ?_
      refine CW.regionL ?_
      refine OW.cons (OP.val (v := v4) rfl (x_mv f89) ?_)
      refine OW.cons (OP.val (v := (.int .i64 s_l1.2)) rfl (x_mv f90) ?_)
      refine OW.cons (OP.val (v := v1) rfl (x_mv f88) ?_)
      refine OW.cons (OP.val (v := (.int .i64 s_l1.2)) rfl (x_mv f90) ?_)
      obtain ⟨x92, ha93, hm⟩ := bndE hm
      obtain ⟨hz94, ha102⟩ := idxE ha93
      obtain ⟨b95, q96, v97, hix98, hs99, hc100, hr101⟩ := rdN_at h2 hz94 ha102
      refine OW.cons (OP.val (v := (.pointer (some ⟨b95, q96, none⟩))) rfl (x_ix Try.underlying36 Try_T46 rfl rfl hix98) ?_)
      refine OW.cons (OP.val (v := v97) rfl (x_load1 Try.underlying46 rfl rfl (hL.cellS 1 rfl hs99 hc100)) ?_)
      obtain ⟨x103, hx104, hm⟩ := bndE hm
      refine OW.cons (OP.call rfl (x_call (vs := [v97]) Try_C22 ⟨rfl, trivial⟩) (M.laws_toCurvePointS_ok _ x92 (hL.rdS 1 rfl hr101) hx104) ?_)
      rintro e107 wd108 ⟨v106, S105, rfl, hF109⟩
      refine ⟨_, rfl, ?_⟩
      have hL := hL.pushAll hF109
      simp only [lA, lB, lC, lD] at hL
      obtain ⟨wz110, hL, ho111⟩ := hL.freeze 1 rfl
      simp only [lC, lD] at hL
      obtain ⟨x112, ha113, hm⟩ := bndE hm
      obtain ⟨hz114, ha122⟩ := idxE ha113
      obtain ⟨b115, q116, v117, hix118, hs119, hc120, hr121⟩ := rdN_at ho111.1.rdL hz114 ha122
      refine OW.cons (OP.val (v := (.pointer (some ⟨b115, q116, none⟩))) rfl (x_ix Try.underlying25 Try_T34 rfl rfl hix118) ?_)
      have hL := hL.thaw 1 rfl ho111
      have hL := hL.sel [1, 0, 2] (by decide) rfl
      refine OW.cons (S_storeR x103 rfl hL Try_T34 hix118 ha122 rfl rfl ?_)
      intro wd123 S124 hL
      refine OW.nil ?_
      refine CW.regionL ?_
      refine OW.cons (OP.val (v := (.int .i64 s_l1.2)) rfl (x_mv f90) ?_)
      refine OW.cons (OP.val (v := (.int .i64 (w64 (s_l1.2 + 1)))) rfl (x_add rfl rfl) ?_)
      refine OW.cons (OP.val (v := (.int .i64 (w64 (s_l1.2 + 1)))) rfl (x_assign) ?_)
      refine OW.nil ?_
      obtain rfl := Option.some.inj hm
      exact ⟨_, rfl, ⟨S124, f88, f89, rfl, hL⟩⟩
    · refine CW.exit ?_
      refine XJ.hit ?_
      obtain rfl := Option.some.inj hm
      exact ⟨_, rfl, ⟨S76, f88, f89, f90, hL⟩⟩

theorem M.laws_eqFinish_ok (w0 : World) (a0 : Finish) (a1 : Finish) {r : Bool} (hm : M.laws_eqFinish a0 a1 = some r) :
    Calls Try.prog 46 #[(.agg #[(.int .i64 a0.Boat), (.int .i64 a0.Code), (.int .i64 a0.Time)]), (.agg #[(.int .i64 a1.Boat), (.int .i64 a1.Code), (.int .i64 a1.Time)])] w0 fun e w' => e = .returned (.bool r) ∧ Fresh w0 w' [] := by
  unfold M.laws_eqFinish at hm
  refine calls_CW (args := [(.agg #[(.int .i64 a0.Boat), (.int .i64 a0.Code), (.int .i64 a0.Time)]), (.agg #[(.int .i64 a1.Boat), (.int .i64 a1.Code), (.int .i64 a1.Time)])]) Try.func46 rfl rfl rfl ?_
  have hL := Hp.start w0
  refine CW.seq ?_
  refine CW.regionL ?_
  refine OW.cons (S_box (cs := #[(.int .i64 a0.Boat), (.int .i64 a0.Code), (.int .i64 a0.Time)]) hL rfl rfl rfl ?_)
  intro wd1 b2 hL
  refine OW.cons (S_box (cs := #[(.int .i64 a1.Boat), (.int .i64 a1.Code), (.int .i64 a1.Time)]) hL rfl rfl rfl ?_)
  intro wd3 b4 hL
  refine OW.cons (OP.val (v := (.bool false)) rfl (x_assign) ?_)
  refine OW.nil ?_
  refine CW.seq ?_
  refine CW.seq ?_
  refine CW.regionL ?_
  refine OW.cons (OP.val (v := (.pointer (some ⟨b2, 0, none⟩))) rfl (x_fieldAddr (fsz := 1) 0 0 0 Try.underlying31 rfl Try_T2 rfl rfl rfl) ?_)
  refine OW.cons (OP.val (v := (.int .i64 a0.Boat)) rfl (x_load1 Try.underlying2 rfl rfl (hL.cellB 1 rfl rfl)) ?_)
  refine OW.cons (OP.val (v := (.pointer (some ⟨b4, 0, none⟩))) rfl (x_fieldAddr (fsz := 1) 0 0 0 Try.underlying31 rfl Try_T2 rfl rfl rfl) ?_)
  refine OW.cons (OP.val (v := (.int .i64 a1.Boat)) rfl (x_load1 Try.underlying2 rfl rfl (hL.cellB 0 rfl rfl)) ?_)
  refine OW.cons (OP.val (v := (.bool (a0.Boat != a1.Boat))) rfl (x_neq rfl rfl) ?_)
  refine OW.nil ?_
  refine CW.condM (t := a0.Boat != a1.Boat) rfl hm (fun hb5 hm => ?_) (fun hb5 hm => ?_)
  · refine CW.seq ?_
    refine CW.regionL ?_
    refine OW.cons (OP.val (v := (.bool false)) rfl (x_assign) ?_)
    refine OW.nil ?_
    refine CW.ret ?_
    obtain rfl := Option.some.inj hm
    exact RR1 rfl rfl ⟨rfl, hL.fresh 2 rfl [] (by decide) (by decide) rfl⟩
  · refine CW.skip ?_
    refine CW.seq ?_
    refine CW.seq ?_
    refine CW.regionL ?_
    refine OW.cons (OP.val (v := (.pointer (some ⟨b2, 1, none⟩))) rfl (x_fieldAddr (fsz := 1) 0 1 1 Try.underlying31 rfl Try_T2 rfl rfl rfl) ?_)
    refine OW.cons (OP.val (v := (.int .i64 a0.Code)) rfl (x_load1 Try.underlying2 rfl rfl (hL.cellB 1 rfl rfl)) ?_)
    refine OW.cons (OP.val (v := (.pointer (some ⟨b4, 1, none⟩))) rfl (x_fieldAddr (fsz := 1) 0 1 1 Try.underlying31 rfl Try_T2 rfl rfl rfl) ?_)
    refine OW.cons (OP.val (v := (.int .i64 a1.Code)) rfl (x_load1 Try.underlying2 rfl rfl (hL.cellB 0 rfl rfl)) ?_)
    refine OW.cons (OP.val (v := (.bool (a0.Code != a1.Code))) rfl (x_neq rfl rfl) ?_)
    refine OW.nil ?_
    refine CW.condM (t := a0.Code != a1.Code) rfl hm (fun hb6 hm => ?_) (fun hb6 hm => ?_)
    · refine CW.seq ?_
      refine CW.regionL ?_
      refine OW.cons (OP.val (v := (.bool false)) rfl (x_assign) ?_)
      refine OW.nil ?_
      refine CW.ret ?_
      obtain rfl := Option.some.inj hm
      exact RR1 rfl rfl ⟨rfl, hL.fresh 2 rfl [] (by decide) (by decide) rfl⟩
    · refine CW.skip ?_
      refine CW.seq ?_
      refine CW.seq ?_
      refine CW.regionL ?_
      refine OW.cons (OP.val (v := (.pointer (some ⟨b2, 2, none⟩))) rfl (x_fieldAddr (fsz := 1) 0 2 2 Try.underlying31 rfl Try_T2 rfl rfl rfl) ?_)
      refine OW.cons (OP.val (v := (.int .i64 a0.Time)) rfl (x_load1 Try.underlying2 rfl rfl (hL.cellB 1 rfl rfl)) ?_)
      refine OW.cons (OP.val (v := (.pointer (some ⟨b4, 2, none⟩))) rfl (x_fieldAddr (fsz := 1) 0 2 2 Try.underlying31 rfl Try_T2 rfl rfl rfl) ?_)
      refine OW.cons (OP.val (v := (.int .i64 a1.Time)) rfl (x_load1 Try.underlying2 rfl rfl (hL.cellB 0 rfl rfl)) ?_)
      refine OW.cons (OP.val (v := (.bool (a0.Time != a1.Time))) rfl (x_neq rfl rfl) ?_)
      refine OW.nil ?_
      refine CW.condM (t := a0.Time != a1.Time) rfl hm (fun hb7 hm => ?_) (fun hb7 hm => ?_)
      · refine CW.seq ?_
        refine CW.regionL ?_
        refine OW.cons (OP.val (v := (.bool false)) rfl (x_assign) ?_)
        refine OW.nil ?_
        refine CW.ret ?_
        obtain rfl := Option.some.inj hm
        exact RR1 rfl rfl ⟨rfl, hL.fresh 2 rfl [] (by decide) (by decide) rfl⟩
      · refine CW.skip ?_
        refine CW.seq ?_
        refine CW.regionL ?_
        refine OW.cons (OP.val (v := (.bool true)) rfl (x_assign) ?_)
        refine OW.nil ?_
        refine CW.ret ?_
        obtain rfl := Option.some.inj hm
        exact RR1 rfl rfl ⟨rfl, hL.fresh 2 rfl [] (by decide) (by decide) rfl⟩

end Go.Proofs.Ytpnehnkhhibliaa
