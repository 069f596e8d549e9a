/- Links: each Go function returns what its model computes and leaves what was there. Printed by my generator. -/
import Derived.Test.YtpnehnkhhibliaaMod5
import Derived.Test.YtpnehnkhhibliaaBase13
import Derived.Test.YtpnehnkhhibliaaProg
import Derived.KernelRfl
namespace Go.Proofs.Ytpnehnkhhibliaa
set_option maxRecDepth 10000
open Go Go.RowKit Go.ChangeShapes Go.WideShapes
set_option linter.unusedVariables false
set_option linter.unusedSimpArgs false

theorem Try_mixed : Try.prog.follows .mixedOrders = true := by kernel_rfl
theorem Try_T2 : TyI Try.prog 2 1 8 (.int .i64 0) := by unfold TyI; kernel_rfl
theorem Try_T3 : TyI Try.prog 3 1 8 (.int .i64 0) := by unfold TyI; kernel_rfl
theorem Try_T5 : TyI Try.prog 5 1 1 (.int .u8 0) := by unfold TyI; kernel_rfl
theorem Try_T22 : TyI Try.prog 22 1 24 (.slice none 0 0) := by unfold TyI; kernel_rfl
theorem Try_T31 : TyI Try.prog 31 3 24 (.agg #[.int .i64 0, .int .i64 0, .int .i64 0]) := by unfold TyI; kernel_rfl
theorem Try_T34 : TyI Try.prog 34 1 24 (.slice none 0 0) := by unfold TyI; kernel_rfl
theorem Try_T46 : TyI Try.prog 46 1 24 (.slice none 0 0) := by unfold TyI; kernel_rfl
theorem Try_T62 : TyI Try.prog 62 2 16 (.agg #[.int .i64 0, .int .i64 0]) := by unfold TyI; kernel_rfl
theorem Try_T70 : TyI Try.prog 70 3 24 (.agg #[.int .i64 0, .int .i64 0, .int .i64 0]) := by unfold TyI; kernel_rfl
theorem Try_T75 : TyI Try.prog 75 2 16 (.agg #[.int .i64 0, .int .i64 0]) := by unfold TyI; kernel_rfl
theorem Try_B31 : BuildI Try.prog 31 [(0, 1), (1, 1), (2, 1)] #[.int .i64 0, .int .i64 0, .int .i64 0] := by unfold BuildI; kernel_rfl
theorem Try_B62 : BuildI Try.prog 62 [(0, 1), (1, 1)] #[.int .i64 0, .int .i64 0] := by unfold BuildI; kernel_rfl
theorem Try_B83 : BuildI Try.prog 83 [(0, 1), (1, 1), (2, 1)] #[.slice none 0 0, .int .i64 0, .int .i64 0] := by unfold BuildI; kernel_rfl
theorem Try_C6 : CallOK Try.prog 6 := ⟨_, _, Try.func6, rfl, by kernel_rfl⟩
theorem Try_C7 : CallOK Try.prog 7 := ⟨_, _, Try.func7, rfl, by kernel_rfl⟩
theorem Try_C8 : CallOK Try.prog 8 := ⟨_, _, Try.func8, rfl, by kernel_rfl⟩
theorem Try_C9 : CallOK Try.prog 9 := ⟨_, _, Try.func9, rfl, by kernel_rfl⟩
theorem Try_C10 : CallOK Try.prog 10 := ⟨_, _, Try.func10, rfl, by kernel_rfl⟩
theorem Try_C11 : CallOK Try.prog 11 := ⟨_, _, Try.func11, rfl, by kernel_rfl⟩
theorem Try_C12 : CallOK Try.prog 12 := ⟨_, _, Try.func12, rfl, by kernel_rfl⟩
theorem Try_C13 : CallOK Try.prog 13 := ⟨_, _, Try.func13, rfl, by kernel_rfl⟩
theorem Try_C14 : CallOK Try.prog 14 := ⟨_, _, Try.func14, rfl, by kernel_rfl⟩
theorem Try_C15 : CallOK Try.prog 15 := ⟨_, _, Try.func15, rfl, by kernel_rfl⟩
theorem Try_C16 : CallOK Try.prog 16 := ⟨_, _, Try.func16, rfl, by kernel_rfl⟩
theorem Try_C17 : CallOK Try.prog 17 := ⟨_, _, Try.func17, rfl, by kernel_rfl⟩
theorem Try_C18 : CallOK Try.prog 18 := ⟨_, _, Try.func18, rfl, by kernel_rfl⟩
theorem Try_C19 : CallOK Try.prog 19 := ⟨_, _, Try.func19, rfl, by kernel_rfl⟩
theorem Try_C20 : CallOK Try.prog 20 := ⟨_, _, Try.func20, rfl, by kernel_rfl⟩
theorem Try_C21 : CallOK Try.prog 21 := ⟨_, _, Try.func21, rfl, by kernel_rfl⟩
theorem Try_C22 : CallOK Try.prog 22 := ⟨_, _, Try.func22, rfl, by kernel_rfl⟩
theorem Try_C23 : CallOK Try.prog 23 := ⟨_, _, Try.func23, rfl, by kernel_rfl⟩
theorem Try_C24 : CallOK Try.prog 24 := ⟨_, _, Try.func24, rfl, by kernel_rfl⟩
theorem Try_C25 : CallOK Try.prog 25 := ⟨_, _, Try.func25, rfl, by kernel_rfl⟩
theorem Try_C26 : CallOK Try.prog 26 := ⟨_, _, Try.func26, rfl, by kernel_rfl⟩
theorem Try_C27 : CallOK Try.prog 27 := ⟨_, _, Try.func27, rfl, by kernel_rfl⟩
theorem Try_C28 : CallOK Try.prog 28 := ⟨_, _, Try.func28, rfl, by kernel_rfl⟩
theorem Try_C29 : CallOK Try.prog 29 := ⟨_, _, Try.func29, rfl, by kernel_rfl⟩
theorem Try_C30 : CallOK Try.prog 30 := ⟨_, _, Try.func30, rfl, by kernel_rfl⟩
theorem Try_C31 : CallOK Try.prog 31 := ⟨_, _, Try.func31, rfl, by kernel_rfl⟩
theorem Try_C32 : CallOK Try.prog 32 := ⟨_, _, Try.func32, rfl, by kernel_rfl⟩
theorem Try_C33 : CallOK Try.prog 33 := ⟨_, _, Try.func33, rfl, by kernel_rfl⟩
theorem Try_C34 : CallOK Try.prog 34 := ⟨_, _, Try.func34, rfl, by kernel_rfl⟩
theorem Try_C35 : CallOK Try.prog 35 := ⟨_, _, Try.func35, rfl, by kernel_rfl⟩
theorem Try_C36 : CallOK Try.prog 36 := ⟨_, _, Try.func36, rfl, by kernel_rfl⟩
theorem Try_C37 : CallOK Try.prog 37 := ⟨_, _, Try.func37, rfl, by kernel_rfl⟩
theorem Try_C38 : CallOK Try.prog 38 := ⟨_, _, Try.func38, rfl, by kernel_rfl⟩
theorem Try_C39 : CallOK Try.prog 39 := ⟨_, _, Try.func39, rfl, by kernel_rfl⟩
theorem Try_C40 : CallOK Try.prog 40 := ⟨_, _, Try.func40, rfl, by kernel_rfl⟩
theorem Try_C41 : CallOK Try.prog 41 := ⟨_, _, Try.func41, rfl, by kernel_rfl⟩
theorem Try_C42 : CallOK Try.prog 42 := ⟨_, _, Try.func42, rfl, by kernel_rfl⟩
theorem Try_C43 : CallOK Try.prog 43 := ⟨_, _, Try.func43, rfl, by kernel_rfl⟩
theorem Try_C44 : CallOK Try.prog 44 := ⟨_, _, Try.func44, rfl, by kernel_rfl⟩
theorem Try_C45 : CallOK Try.prog 45 := ⟨_, _, Try.func45, rfl, by kernel_rfl⟩
theorem Try_C46 : CallOK Try.prog 46 := ⟨_, _, Try.func46, rfl, by kernel_rfl⟩
theorem Try_C47 : CallOK Try.prog 47 := ⟨_, _, Try.func47, rfl, by kernel_rfl⟩
theorem Try_C48 : CallOK Try.prog 48 := ⟨_, _, Try.func48, rfl, by kernel_rfl⟩
theorem Try_C49 : CallOK Try.prog 49 := ⟨_, _, Try.func49, rfl, by kernel_rfl⟩
theorem Try_C50 : CallOK Try.prog 50 := ⟨_, _, Try.func50, rfl, by kernel_rfl⟩
theorem Try_C51 : CallOK Try.prog 51 := ⟨_, _, Try.func51, rfl, by kernel_rfl⟩
theorem Try_C52 : CallOK Try.prog 52 := ⟨_, _, Try.func52, rfl, by kernel_rfl⟩
theorem Try_C53 : CallOK Try.prog 53 := ⟨_, _, Try.func53, rfl, by kernel_rfl⟩
theorem Try_C54 : CallOK Try.prog 54 := ⟨_, _, Try.func54, rfl, by kernel_rfl⟩
theorem Try_C55 : CallOK Try.prog 55 := ⟨_, _, Try.func55, rfl, by kernel_rfl⟩
theorem Try_C56 : CallOK Try.prog 56 := ⟨_, _, Try.func56, rfl, by kernel_rfl⟩
theorem Try_C57 : CallOK Try.prog 57 := ⟨_, _, Try.func57, rfl, by kernel_rfl⟩
theorem Try_C58 : CallOK Try.prog 58 := ⟨_, _, Try.func58, rfl, by kernel_rfl⟩
theorem Try_C59 : CallOK Try.prog 59 := ⟨_, _, Try.func59, rfl, by kernel_rfl⟩
theorem Try_C60 : CallOK Try.prog 60 := ⟨_, _, Try.func60, rfl, by kernel_rfl⟩
theorem Try_C61 : CallOK Try.prog 61 := ⟨_, _, Try.func61, rfl, by kernel_rfl⟩
theorem Try_C62 : CallOK Try.prog 62 := ⟨_, _, Try.func62, rfl, by kernel_rfl⟩
theorem Try_C64 : CallOK Try.prog 64 := ⟨_, _, Try.func64, rfl, by kernel_rfl⟩
theorem Try_C65 : CallOK Try.prog 65 := ⟨_, _, Try.func65, rfl, by kernel_rfl⟩
theorem Try_C66 : CallOK Try.prog 66 := ⟨_, _, Try.func66, rfl, by kernel_rfl⟩
theorem Try_C67 : CallOK Try.prog 67 := ⟨_, _, Try.func67, rfl, by kernel_rfl⟩
theorem Try_C68 : CallOK Try.prog 68 := ⟨_, _, Try.func68, rfl, by kernel_rfl⟩
theorem Try_C69 : CallOK Try.prog 69 := ⟨_, _, Try.func69, rfl, by kernel_rfl⟩
abbrev U2 := @Try.underlying2
abbrev U3 := @Try.underlying3
abbrev U34 := @Try.underlying34
abbrev U46 := @Try.underlying46
abbrev U62 := @Try.underlying62
abbrev U72 := @Try.underlying72
abbrev U75 := @Try.underlying75
abbrev U77 := @Try.underlying77
abbrev U92 := @Try.underlying92

theorem M.spec_l01In_ok (w0 : World) (a0 : Int) (a1 : Int) (a2 : Int) {r : Bool} (hm : M.spec_l01In a0 a1 a2 = some r) :
    Calls Try.prog 41 #[(.int .i64 a0), (.int .i64 a1), (.int .i64 a2)] w0 fun e w' => e = .returned (.bool r) ∧ Fresh w0 w' [] := by
 unfold M.spec_l01In at hm
 refine calls_CW (args := [(.int .i64 a0), (.int .i64 a1), (.int .i64 a2)]) Try.func41 rfl rfl rfl ?_
 have hL := Hp.start w0
 refine CSR ?_
 refine OV (.bool false) rfl (x_assign) ?_
 refine OW.nil ?_
 refine CW.seqJ (fun (s_j1 : Bool) (F : Fr) (w : World) => F 6 = (.bool s_j1) ∧ Hp w0 [Ent.snap w0 w0.heap.size] w) (fun s_j1 => M.spec_l01In_j1 s_j1 = some r) ?_ ?_
 · refine CW.regionL ?_
   refine OV (.int .i64 a0) rfl (x_move) ?_
   refine OV (.int .i64 a1) rfl (x_move) ?_
   refine OV (.bool (decide (a1 ≤ a0))) rfl (x_geq rfl rfl) ?_
   refine OV (.bool (decide (a1 ≤ a0))) rfl (x_move) ?_
   refine ifB_elim hm (fun hb5 hm => ?_) (fun hb5 hm => ?_)
   · refine OW.cons (OP.yes' rfl rfl hb5 (OP.val (v := (.int .i64 a0)) rfl (x_move) ?_))
     refine OW.cons (OP.yes' rfl rfl hb5 (OP.val (v := (.int .i64 a2)) rfl (x_move) ?_))
     refine OW.cons (OP.yes' rfl rfl hb5 (OP.val (v := (.bool (decide (a0 ≤ a2)))) rfl (x_leq rfl rfl) ?_))
     refine OV (.bool (decide (a0 ≤ a2))) rfl (x_pickT' rfl hb5 rfl) ?_
     refine OV (.bool (decide (a0 ≤ a2))) rfl (x_assign) ?_
     refine OW.nil ?_
     exact ⟨decide (a0 ≤ a2), hm, ⟨rfl, hL⟩⟩
   refine OW.cons (OP.no' rfl rfl hb5 rfl ?_)
   refine OW.cons (OP.no' rfl rfl hb5 rfl ?_)
   refine OW.cons (OP.no' rfl rfl hb5 rfl ?_)
   refine OV (.bool false) rfl (x_pickF' rfl hb5 rfl) ?_
   refine OV (.bool false) rfl (x_assign) ?_
   refine OW.nil ?_
   exact ⟨false, hm, ⟨rfl, hL⟩⟩
 intro s_j1 F2 wd3 hJ hm
 unfold M.spec_l01In_j1 at hm
 obtain ⟨f4, hL⟩ := hJ
 refine CW.ret ?_
 obtain rfl := Option.some.inj hm
 exact RR1 rfl f4 ⟨rfl, hL.fresh 0 rfl [] (by decide) (by decide) rfl⟩

theorem M.spec_IsCurve_ok (w0 : World) (a0 : List CurvePoint) {v1 : Value} (h2 : rdL (· < w0.heap.size) w0 v1 a0) {r : Bool} (hm : M.spec_IsCurve a0 = some r) :
    Calls Try.prog 31 #[v1] w0 fun e w' => e = .returned (.bool r) ∧ Fresh w0 w' [] := by
 unfold M.spec_IsCurve at hm
 refine calls_CW (args := [v1]) Try.func31 rfl rfl rfl ?_
 have hL := Hp.start w0
 refine CSR ?_
 refine OV (.bool false) rfl (x_assign) ?_
 refine ONS ?_
 refine CW.seqJ (fun (s_j1 : Bool) (F : Fr) (w : World) => F 0 = v1 ∧ F 11 = (.bool s_j1) ∧ Hp w0 [Ent.snap w0 w0.heap.size] w) (fun s_j1 => M.spec_IsCurve_j1 a0 s_j1 = some r) ?_ ?_
 · refine CW.regionL ?_
   refine OV v1 rfl (x_move) ?_
   refine OV (.int .i64 (a0.length : Int)) rfl (x_lenR U34 rfl (hL.rdS 0 rfl h2)) ?_
   refine OV (.bool (decide ((a0.length : Int) < 2))) rfl (x_lss rfl rfl) ?_
   refine OV (.bool (decide ((a0.length : Int) < 2))) rfl (x_move) ?_
   refine ifB_elim hm (fun hb408 hm => ?_) (fun hb408 hm => ?_)
   · refine OW.cons (OP.no' rfl rfl hb408 rfl ?_)
     refine OW.cons (OP.no' rfl rfl hb408 rfl ?_)
     refine OW.cons (OP.no' rfl rfl hb408 rfl ?_)
     refine OV (.bool true) rfl (x_pickT' rfl hb408 rfl) ?_
     refine OW.nil ?_
     exact ⟨true, hm, ⟨rfl, rfl, hL⟩⟩
   refine OW.cons (OP.yes' rfl rfl hb408 (OP.val (v := v1) rfl (x_move) ?_))
   refine OW.cons (OP.yes' rfl rfl hb408 (OP.val (v := (.int .i64 (a0.length : Int))) rfl (x_lenR U34 rfl (hL.rdS 0 rfl h2)) ?_))
   refine OW.cons (OP.yes' rfl rfl hb408 (OP.val (v := (.bool (decide (12 < (a0.length : Int))))) rfl (x_gtr rfl rfl) ?_))
   refine OV (.bool (decide (12 < (a0.length : Int)))) rfl (x_pickF' rfl hb408 rfl) ?_
   refine OW.nil ?_
   exact ⟨decide (12 < (a0.length : Int)), hm, ⟨rfl, rfl, hL⟩⟩
 intro s_j1 F4 wd5 hJ hm
 unfold M.spec_IsCurve_j1 at hm
 obtain ⟨f6, f7, hL⟩ := hJ
 refine CW.condM (t := s_j1) f7 hm (fun hb8 hm => ?_) (fun hb8 hm => ?_)
 · refine CSR ?_
   refine OV (.bool false) rfl (x_assign) ?_
   refine OW.nil ?_
   refine CW.ret ?_
   obtain rfl := Option.some.inj hm
   exact RR1 rfl rfl ⟨rfl, hL.fresh 0 rfl [] (by decide) (by decide) rfl⟩
 refine CW.skip ?_
 refine CW.seq ?_
 refine CSR ?_
 refine OV (.int .i64 0) rfl (x_assign) ?_
 refine OW.nil ?_
 obtain ⟨o269, ho270, hm⟩ := bndE hm
 refine CW.loopB (fun (s_l1 : Int) (F : Fr) (w : World) => F 0 = v1 ∧ F 3 = (.int .i64 s_l1) ∧ Hp w0 [Ent.snap w0 w0.heap.size] w) (fun o => outc o (fun x => some x) (fun s => M.spec_IsCurve_a1 s) = some r) ho270 hm ⟨f6, rfl, hL⟩ ?_ ?_
 · intro s_l1 F271 wd272 hJ hm
   have hm := outcE hm
   have hm : M.spec_IsCurve_a1 s_l1 = some r := hm
   unfold M.spec_IsCurve_a1 at hm
   obtain ⟨f273, f274, hL⟩ := hJ
   refine CSR ?_
   refine OV (.bool true) rfl (x_assign) ?_
   refine OW.nil ?_
   refine CW.ret ?_
   obtain rfl := Option.some.inj hm
   exact RR1 rfl rfl ⟨rfl, hL.fresh 0 rfl [] (by decide) (by decide) rfl⟩
 intro s_l1 F275 wd276 t267 hJ hm hr268
 unfold M.spec_IsCurve_l1 at hm
 obtain ⟨f277, f278, hL⟩ := hJ
 refine CW.seq ?_
 refine CSR ?_
 refine OV (.int .i64 s_l1) rfl (x_mv f278) ?_
 refine OV v1 rfl (x_mv f277) ?_
 refine OV (.int .i64 (a0.length : Int)) rfl (x_lenR U34 rfl (hL.rdS 0 rfl h2)) ?_
 refine OV (.bool (decide (s_l1 < (a0.length : Int)))) rfl (x_lss rfl rfl) ?_
 refine OW.nil ?_
 refine CW.condM (t := decide (s_l1 < (a0.length : Int))) rfl hm (fun hb279 hm => ?_) (fun hb279 hm => ?_)
 · refine CW.skip ?_
   refine CW.seq ?_
   refine CW.block ?_
   refine CW.seq ?_
   refine CW.seqJ (fun (s_j2 : Bool) (F : Fr) (w : World) => F 0 = v1 ∧ F 3 = (.int .i64 s_l1) ∧ F 33 = (.bool s_j2) ∧ Hp w0 [Ent.snap w0 w0.heap.size] w) (fun s_j2 => M.spec_IsCurve_j2 a0 s_l1 s_j2 = some t267) ?_ ?_
   · refine CW.regionL ?_
     refine OV v1 rfl (x_mv f277) ?_
     refine OV (.int .i64 s_l1) rfl (x_mv f278) ?_
     obtain ⟨x383, ha384, hm⟩ := bndE hm
     obtain ⟨hz385, ha389⟩ := idxE ha384
     obtain ⟨b386, q387, hix388⟩ := rdL_ix (hL.rdS 0 rfl h2) hz385 ha389
     refine OV (.pointer (some ⟨b386, q387, none⟩)) rfl (x_ix U34 Try_T62 rfl rfl hix388) ?_
     refine OV (.pointer (some ⟨b386, q387, none⟩)) rfl (x_fieldAddr (fsz := 1) q387 0 q387 U62 rfl Try_T2 rfl rfl rfl) ?_
     refine OV (.int .i64 x383.Wind) rfl (x_load1 U2 rfl rfl (rdF_cells (hL.rdS 0 rfl h2) hix388 ha389 0 _ rfl)) ?_
     obtain ⟨x390, hx391, hm⟩ := bndE hm
     refine OW.cons (OP.call rfl (x_call (vs := [(.int .i64 x383.Wind), (.int .i64 0), (.int .i64 1000)]) Try_C41 ⟨rfl, rfl, rfl, trivial⟩) (M.spec_l01In_ok _ x383.Wind 0 1000 hx391) ?_)
     rintro e392 wd393 ⟨rfl, hF394⟩
     refine ⟨_, rfl, ?_⟩
     have hL := hL.pushAll hF394
     simp only [lA, lB, lC, lD] at hL
     refine OV (.bool (!x390)) rfl (x_not rfl) ?_
     refine OV (.bool (!x390)) rfl (x_move) ?_
     refine ifB_elim hm (fun hb395 hm => ?_) (fun hb395 hm => ?_)
     · refine OW.cons (OP.no' rfl rfl hb395 rfl ?_)
       refine OW.cons (OP.no' rfl rfl hb395 rfl ?_)
       refine OW.cons (OP.no' rfl rfl hb395 rfl ?_)
       refine OW.cons (OP.no' rfl rfl hb395 rfl ?_)
       refine OW.cons (OP.no' rfl rfl hb395 rfl ?_)
       refine OW.cons (OP.no' rfl rfl hb395 rfl ?_)
       refine OW.cons (OP.no' rfl rfl hb395 rfl ?_)
       refine OV (.bool true) rfl (x_pickT' rfl hb395 rfl) ?_
       refine OW.nil ?_
       exact ⟨true, hm, ⟨f277, f278, rfl, hL⟩⟩
     refine OW.cons (OP.yes' rfl rfl hb395 (OP.val (v := v1) rfl (x_mv f277) ?_))
     refine OW.cons (OP.yes' rfl rfl hb395 (OP.val (v := (.int .i64 s_l1)) rfl (x_mv f278) ?_))
     obtain ⟨x396, ha397, hm⟩ := bndE hm
     obtain ⟨hz398, ha402⟩ := idxE ha397
     obtain ⟨b399, q400, hix401⟩ := rdL_ix (hL.rdS 0 rfl h2) hz398 ha402
     refine OW.cons (OP.yes' rfl rfl hb395 (OP.val (v := (.pointer (some ⟨b399, q400, none⟩))) rfl (x_ix U34 Try_T62 rfl rfl hix401) ?_))
     refine OW.cons (OP.yes' rfl rfl hb395 (OP.val (v := (.pointer (some ⟨b399, q400 + 1, none⟩))) rfl (x_fieldAddr (fsz := 1) q400 1 (q400 + 1) U62 rfl Try_T2 rfl rfl rfl) ?_))
     refine OW.cons (OP.yes' rfl rfl hb395 (OP.val (v := (.int .i64 x396.Pace)) rfl (x_load1 U2 rfl rfl (rdF_cells (hL.rdS 0 rfl h2) hix401 ha402 1 _ rfl)) ?_))
     obtain ⟨x403, hx404, hm⟩ := bndE hm
     refine OW.cons (OP.yes' rfl rfl hb395 (OP.call rfl (x_call (vs := [(.int .i64 x396.Pace), (.int .i64 1), (.int .i64 1000000)]) Try_C41 ⟨rfl, rfl, rfl, trivial⟩) (M.spec_l01In_ok _ x396.Pace 1 1000000 hx404) ?_))
     rintro e405 wd406 ⟨rfl, hF407⟩
     refine ⟨_, rfl, ?_⟩
     have hL := hL.pushAll hF407
     simp only [lA, lB, lC, lD] at hL
     refine OW.cons (OP.yes' rfl rfl hb395 (OP.val (v := (.bool (!x403))) rfl (x_not rfl) ?_))
     refine OV (.bool (!x403)) rfl (x_pickF' rfl hb395 rfl) ?_
     refine OW.nil ?_
     exact ⟨!x403, hm, ⟨f277, f278, rfl, hL⟩⟩
   intro s_j2 F305 wd306 hJ hm
   unfold M.spec_IsCurve_j2 at hm
   obtain ⟨f307, f308, f309, hL⟩ := hJ
   refine CW.condM (t := s_j2) f309 hm (fun hb310 hm => ?_) (fun hb310 hm => ?_)
   · refine CSR ?_
     refine OV (.bool false) rfl (x_assign) ?_
     refine OW.nil ?_
     refine CW.ret ?_
     obtain rfl := Option.some.inj hm
     have hm := hr268 _ rfl
     obtain rfl := Option.some.inj hm
     exact RR1 rfl rfl ⟨rfl, hL.fresh 0 rfl [] (by decide) (by decide) rfl⟩
   refine CW.skip ?_
   refine CW.seqJ (fun (s_j3 : Bool) (F : Fr) (w : World) => F 0 = v1 ∧ F 3 = (.int .i64 s_l1) ∧ F 63 = (.bool s_j3) ∧ Hp w0 [Ent.snap w0 w0.heap.size] w) (fun s_j3 => M.spec_IsCurve_j3 s_l1 s_j3 = some t267) ?_ ?_
   · refine CW.draw Try_mixed ?_
     have hL := hL.call (Mod.drew _)
     refine DW.pre (fuel := 0) (fin := bma 30 1073741823) (C := fun w' => Mod None_ _ w') [0, 1, 2, 3, 4, 5, 6, 7, 8, 9, 10, 11, 12, 13, 14, 15, 16, 17, 18, 19, 20, 21, 22, 23, 24, 25, 26, 27, 28, 29] (Mod.refl _ _) (by kernel_rfl) (by kernel_rfl) ?_
     refine QW.cons rfl (QP.val (v := (.int .i64 s_l1)) rfl (fun w' hm' => x_mv f308) ?_)
     refine QW.cons rfl (QP.val (v := (.bool (decide (0 < s_l1)))) rfl (fun w' hm' => x_gtr rfl rfl) ?_)
     refine QW.cons rfl (QP.val (v := (.bool (decide (0 < s_l1)))) rfl (fun w' hm' => x_move) ?_)
     refine ifB_elim hm (fun hb350 hm => ?_) (fun hb350 hm => ?_)
     · refine QW.cons rfl (QP.yes' rfl rfl hb350 (QP.val (v := v1) rfl (fun w' hm' => x_mv f307) ?_))
       refine QW.cons rfl (QP.yes' rfl rfl hb350 (QP.val (v := (.int .i64 s_l1)) rfl (fun w' hm' => x_mv f308) ?_))
       obtain ⟨x351, ha352, hm⟩ := bndE hm
       obtain ⟨hz353, ha357⟩ := idxE ha352
       obtain ⟨b354, q355, hix356⟩ := rdL_ix (hL.rdS 0 rfl h2) hz353 ha357
       refine QW.cons rfl (QP.yes' rfl rfl hb350 (QP.val (v := (.pointer (some ⟨b354, q355, none⟩))) rfl (fun w' hm' => x_ix U34 Try_T62 rfl rfl hix356) ?_))
       refine QW.cons rfl (QP.yes' rfl rfl hb350 (QP.val (v := (.pointer (some ⟨b354, q355, none⟩))) rfl (fun w' hm' => x_fieldAddr (fsz := 1) q355 0 q355 U62 rfl Try_T2 rfl rfl rfl) ?_))
       refine QW.cons rfl (QP.yes' rfl rfl hb350 (QP.val (v := (.int .i64 x351.Wind)) rfl (fun w' hm' => x_load1 U2 rfl rfl (rdF_cells ((hL.call hm').rdS 0 rfl h2) hix356 ha357 0 _ rfl)) ?_))
       refine QW.cons rfl (QP.yes' rfl rfl hb350 (QP.val (v := v1) rfl (fun w' hm' => x_mv f307) ?_))
       refine QW.cons rfl (QP.yes' rfl rfl hb350 (QP.val (v := (.int .i64 s_l1)) rfl (fun w' hm' => x_mv f308) ?_))
       refine QW.cons rfl (QP.yes' rfl rfl hb350 (QP.val (v := (.int .i64 (w64 (s_l1 - 1)))) rfl (fun w' hm' => x_sub rfl rfl) ?_))
       obtain ⟨x358, ha359, hm⟩ := bndE hm
       obtain ⟨hz360, ha364⟩ := idxE ha359
       obtain ⟨b361, q362, hix363⟩ := rdL_ix (hL.rdS 0 rfl h2) hz360 ha364
       refine QW.cons rfl (QP.yes' rfl rfl hb350 (QP.val (v := (.pointer (some ⟨b361, q362, none⟩))) rfl (fun w' hm' => x_ix U34 Try_T62 rfl rfl hix363) ?_))
       refine QW.cons rfl (QP.yes' rfl rfl hb350 (QP.val (v := (.pointer (some ⟨b361, q362, none⟩))) rfl (fun w' hm' => x_fieldAddr (fsz := 1) q362 0 q362 U62 rfl Try_T2 rfl rfl rfl) ?_))
       refine QW.cons rfl (QP.yes' rfl rfl hb350 (QP.val (v := (.int .i64 x358.Wind)) rfl (fun w' hm' => x_load1 U2 rfl rfl (rdF_cells ((hL.call hm').rdS 0 rfl h2) hix363 ha364 0 _ rfl)) ?_))
       refine QW.cons rfl (QP.yes' rfl rfl hb350 (QP.val (v := (.bool (decide (x351.Wind ≤ x358.Wind)))) rfl (fun w' hm' => x_leq rfl rfl) ?_))
       refine QW.cons rfl (QP.yes' rfl rfl hb350 (QP.val (v := (.bool (decide (x351.Wind ≤ x358.Wind)))) rfl (fun w' hm' => x_move) ?_))
       refine ifB_elim hm (fun hb365 hm => ?_) (fun hb365 hm => ?_)
       · refine QW.cons rfl (QP.no' rfl rfl hb365 rfl ?_)
         refine QW.cons rfl (QP.no' rfl rfl hb365 rfl ?_)
         refine QW.cons rfl (QP.no' rfl rfl hb365 rfl ?_)
         refine QW.cons rfl (QP.no' rfl rfl hb365 rfl ?_)
         refine QW.cons rfl (QP.no' rfl rfl hb365 rfl ?_)
         refine QW.cons rfl (QP.no' rfl rfl hb365 rfl ?_)
         refine QW.cons rfl (QP.no' rfl rfl hb365 rfl ?_)
         refine QW.cons rfl (QP.no' rfl rfl hb365 rfl ?_)
         refine QW.cons rfl (QP.no' rfl rfl hb365 rfl ?_)
         refine QW.cons rfl (QP.no' rfl rfl hb365 rfl ?_)
         refine QW.cons rfl (QP.no' rfl rfl hb365 rfl ?_)
         refine QW.cons rfl (QP.no' rfl rfl hb365 rfl ?_)
         refine QW.cons rfl (QP.yes' rfl rfl hb350 (QP.val (v := (.bool true)) rfl (fun w' hm' => x_pickT' rfl hb365 rfl) ?_))
         refine QW.cons rfl (QP.val (v := (.bool true)) rfl (fun w' hm' => x_pickT' rfl hb350 rfl) ?_)
         refine QW.nil ?_
         intro wd366 hmod
         have hL := hL.call hmod
         refine DW.done (by kernel_rfl) ?_
         exact ⟨true, hm, ⟨f307, f308, rfl, hL⟩⟩
       refine QW.cons rfl (QP.yes' rfl rfl hb365 (QP.val (v := v1) rfl (fun w' hm' => x_mv f307) ?_))
       refine QW.cons rfl (QP.yes' rfl rfl hb365 (QP.val (v := (.int .i64 s_l1)) rfl (fun w' hm' => x_mv f308) ?_))
       obtain ⟨x367, ha368, hm⟩ := bndE hm
       obtain ⟨hz369, ha373⟩ := idxE ha368
       obtain ⟨b370, q371, hix372⟩ := rdL_ix (hL.rdS 0 rfl h2) hz369 ha373
       refine QW.cons rfl (QP.yes' rfl rfl hb365 (QP.val (v := (.pointer (some ⟨b370, q371, none⟩))) rfl (fun w' hm' => x_ix U34 Try_T62 rfl rfl hix372) ?_))
       refine QW.cons rfl (QP.yes' rfl rfl hb365 (QP.val (v := (.pointer (some ⟨b370, q371 + 1, none⟩))) rfl (fun w' hm' => x_fieldAddr (fsz := 1) q371 1 (q371 + 1) U62 rfl Try_T2 rfl rfl rfl) ?_))
       refine QW.cons rfl (QP.yes' rfl rfl hb365 (QP.val (v := (.int .i64 x367.Pace)) rfl (fun w' hm' => x_load1 U2 rfl rfl (rdF_cells ((hL.call hm').rdS 0 rfl h2) hix372 ha373 1 _ rfl)) ?_))
       refine QW.cons rfl (QP.yes' rfl rfl hb365 (QP.val (v := v1) rfl (fun w' hm' => x_mv f307) ?_))
       refine QW.cons rfl (QP.yes' rfl rfl hb365 (QP.val (v := (.int .i64 s_l1)) rfl (fun w' hm' => x_mv f308) ?_))
       refine QW.cons rfl (QP.yes' rfl rfl hb365 (QP.val (v := (.int .i64 (w64 (s_l1 - 1)))) rfl (fun w' hm' => x_sub rfl rfl) ?_))
       obtain ⟨x374, ha375, hm⟩ := bndE hm
       obtain ⟨hz376, ha380⟩ := idxE ha375
       obtain ⟨b377, q378, hix379⟩ := rdL_ix (hL.rdS 0 rfl h2) hz376 ha380
       refine QW.cons rfl (QP.yes' rfl rfl hb365 (QP.val (v := (.pointer (some ⟨b377, q378, none⟩))) rfl (fun w' hm' => x_ix U34 Try_T62 rfl rfl hix379) ?_))
       refine QW.cons rfl (QP.yes' rfl rfl hb365 (QP.val (v := (.pointer (some ⟨b377, q378 + 1, none⟩))) rfl (fun w' hm' => x_fieldAddr (fsz := 1) q378 1 (q378 + 1) U62 rfl Try_T2 rfl rfl rfl) ?_))
       refine QW.cons rfl (QP.yes' rfl rfl hb365 (QP.val (v := (.int .i64 x374.Pace)) rfl (fun w' hm' => x_load1 U2 rfl rfl (rdF_cells ((hL.call hm').rdS 0 rfl h2) hix379 ha380 1 _ rfl)) ?_))
       refine QW.cons rfl (QP.yes' rfl rfl hb365 (QP.val (v := (.bool (decide (x374.Pace ≤ x367.Pace)))) rfl (fun w' hm' => x_geq rfl rfl) ?_))
       refine QW.cons rfl (QP.yes' rfl rfl hb350 (QP.val (v := (.bool (decide (x374.Pace ≤ x367.Pace)))) rfl (fun w' hm' => x_pickF' rfl hb365 rfl) ?_))
       refine QW.cons rfl (QP.val (v := (.bool (decide (x374.Pace ≤ x367.Pace)))) rfl (fun w' hm' => x_pickT' rfl hb350 rfl) ?_)
       refine QW.nil ?_
       intro wd381 hmod
       have hL := hL.call hmod
       refine DW.done (by kernel_rfl) ?_
       exact ⟨decide (x374.Pace ≤ x367.Pace), hm, ⟨f307, f308, rfl, hL⟩⟩
     refine QW.cons rfl (QP.no' rfl rfl hb350 rfl ?_)
     refine QW.cons rfl (QP.no' rfl rfl hb350 rfl ?_)
     refine QW.cons rfl (QP.no' rfl rfl hb350 rfl ?_)
     refine QW.cons rfl (QP.no' rfl rfl hb350 rfl ?_)
     refine QW.cons rfl (QP.no' rfl rfl hb350 rfl ?_)
     refine QW.cons rfl (QP.no' rfl rfl hb350 rfl ?_)
     refine QW.cons rfl (QP.no' rfl rfl hb350 rfl ?_)
     refine QW.cons rfl (QP.no' rfl rfl hb350 rfl ?_)
     refine QW.cons rfl (QP.no' rfl rfl hb350 rfl ?_)
     refine QW.cons rfl (QP.no' rfl rfl hb350 rfl ?_)
     refine QW.cons rfl (QP.no' rfl rfl hb350 rfl ?_)
     refine QW.cons rfl (QP.no' rfl rfl hb350 rfl ?_)
     refine QW.cons rfl (QP.no' rfl rfl hb350 rfl ?_)
     refine QW.cons rfl (QP.noU rfl rfl rfl ?_)
     refine QW.cons rfl (QP.noU rfl rfl rfl ?_)
     refine QW.cons rfl (QP.noU rfl rfl rfl ?_)
     refine QW.cons rfl (QP.noU rfl rfl rfl ?_)
     refine QW.cons rfl (QP.noU rfl rfl rfl ?_)
     refine QW.cons rfl (QP.noU rfl rfl rfl ?_)
     refine QW.cons rfl (QP.noU rfl rfl rfl ?_)
     refine QW.cons rfl (QP.noU rfl rfl rfl ?_)
     refine QW.cons rfl (QP.noU rfl rfl rfl ?_)
     refine QW.cons rfl (QP.noU rfl rfl rfl ?_)
     refine QW.cons rfl (QP.noU rfl rfl rfl ?_)
     refine QW.cons rfl (QP.noU rfl rfl rfl ?_)
     refine QW.cons rfl (QP.no' rfl rfl hb350 rfl ?_)
     refine QW.cons rfl (QP.val (v := (.bool false)) rfl (fun w' hm' => x_pickF' rfl hb350 rfl) ?_)
     refine QW.nil ?_
     intro wd382 hmod
     have hL := hL.call hmod
     refine DW.done (by kernel_rfl) ?_
     exact ⟨false, hm, ⟨f307, f308, rfl, hL⟩⟩
   intro s_j3 F344 wd345 hJ hm
   unfold M.spec_IsCurve_j3 at hm
   obtain ⟨f346, f347, f348, hL⟩ := hJ
   refine CW.condM (t := s_j3) f348 hm (fun hb349 hm => ?_) (fun hb349 hm => ?_)
   · refine CSR ?_
     refine OV (.bool false) rfl (x_assign) ?_
     refine OW.nil ?_
     refine CW.ret ?_
     obtain rfl := Option.some.inj hm
     have hm := hr268 _ rfl
     obtain rfl := Option.some.inj hm
     exact RR1 rfl rfl ⟨rfl, hL.fresh 0 rfl [] (by decide) (by decide) rfl⟩
   refine CW.skip ?_
   refine CW.regionL ?_
   refine OV (.int .i64 s_l1) rfl (x_mv f347) ?_
   refine OV (.int .i64 (w64 (s_l1 + 1))) rfl (x_add rfl rfl) ?_
   refine OV (.int .i64 (w64 (s_l1 + 1))) rfl (x_assign) ?_
   refine OW.nil ?_
   obtain rfl := Option.some.inj hm
   exact ⟨_, rfl, ⟨f346, rfl, hL⟩⟩
 refine CW.exit ?_
 refine XJ.hit ?_
 obtain rfl := Option.some.inj hm
 exact ⟨_, rfl, ⟨f277, f278, hL⟩⟩

theorem M.impl_within_ok (w0 : World) (a0 : Int) (a1 : Int) (a2 : Int) {r : Bool} (hm : M.impl_within a0 a1 a2 = some r) :
    Calls Try.prog 37 #[(.int .i64 a0), (.int .i64 a1), (.int .i64 a2)] w0 fun e w' => e = .returned (.bool r) ∧ Fresh w0 w' [] := by
 unfold M.impl_within at hm
 refine calls_CW (args := [(.int .i64 a0), (.int .i64 a1), (.int .i64 a2)]) Try.func37 rfl rfl rfl ?_
 have hL := Hp.start w0
 refine CSR ?_
 refine OV (.bool false) rfl (x_assign) ?_
 refine OW.nil ?_
 refine CW.seqJ (fun (s_j1 : Bool) (F : Fr) (w : World) => F 6 = (.bool s_j1) ∧ Hp w0 [Ent.snap w0 w0.heap.size] w) (fun s_j1 => M.impl_within_j1 s_j1 = some r) ?_ ?_
 · refine CW.regionL ?_
   refine OV (.int .i64 a0) rfl (x_move) ?_
   refine OV (.int .i64 a1) rfl (x_move) ?_
   refine OV (.bool (decide (a1 ≤ a0))) rfl (x_geq rfl rfl) ?_
   refine OV (.bool (decide (a1 ≤ a0))) rfl (x_move) ?_
   refine ifB_elim hm (fun hb5 hm => ?_) (fun hb5 hm => ?_)
   · refine OW.cons (OP.yes' rfl rfl hb5 (OP.val (v := (.int .i64 a0)) rfl (x_move) ?_))
     refine OW.cons (OP.yes' rfl rfl hb5 (OP.val (v := (.int .i64 a2)) rfl (x_move) ?_))
     refine OW.cons (OP.yes' rfl rfl hb5 (OP.val (v := (.bool (decide (a0 ≤ a2)))) rfl (x_leq rfl rfl) ?_))
     refine OV (.bool (decide (a0 ≤ a2))) rfl (x_pickT' rfl hb5 rfl) ?_
     refine OV (.bool (decide (a0 ≤ a2))) rfl (x_assign) ?_
     refine OW.nil ?_
     exact ⟨decide (a0 ≤ a2), hm, ⟨rfl, hL⟩⟩
   refine OW.cons (OP.no' rfl rfl hb5 rfl ?_)
   refine OW.cons (OP.no' rfl rfl hb5 rfl ?_)
   refine OW.cons (OP.no' rfl rfl hb5 rfl ?_)
   refine OV (.bool false) rfl (x_pickF' rfl hb5 rfl) ?_
   refine OV (.bool false) rfl (x_assign) ?_
   refine OW.nil ?_
   exact ⟨false, hm, ⟨rfl, hL⟩⟩
 intro s_j1 F2 wd3 hJ hm
 unfold M.impl_within_j1 at hm
 obtain ⟨f4, hL⟩ := hJ
 refine CW.ret ?_
 obtain rfl := Option.some.inj hm
 exact RR1 rfl f4 ⟨rfl, hL.fresh 0 rfl [] (by decide) (by decide) rfl⟩

theorem M.impl_IsCurve_ok (w0 : World) (a0 : List CurvePoint) {v1 : Value} (h2 : rdL (· < w0.heap.size) w0 v1 a0) {r : Bool} (hm : M.impl_IsCurve a0 = some r) :
    Calls Try.prog 36 #[v1] w0 fun e w' => e = .returned (.bool r) ∧ Fresh w0 w' [] := by
 unfold M.impl_IsCurve at hm
 refine calls_CW (args := [v1]) Try.func36 rfl rfl rfl ?_
 have hL := Hp.start w0
 refine CSR ?_
 refine OV (.bool false) rfl (x_assign) ?_
 refine ONS ?_
 refine CSR ?_
 refine OV v1 rfl (x_move) ?_
 refine OV (.int .i64 (a0.length : Int)) rfl (x_lenR U34 rfl (hL.rdS 0 rfl h2)) ?_
 refine OV (.int .i64 0) rfl (x_move) ?_
 refine OW.nil ?_
 obtain ⟨o151, ho152, hm⟩ := bndE hm
 refine CW.loopB (fun (s_l1 : Int) (F : Fr) (w : World) => F 0 = v1 ∧ F 5 = v1 ∧ F 6 = (.int .i64 (a0.length : Int)) ∧ F 7 = (.int .i64 s_l1) ∧ Hp w0 [Ent.snap w0 w0.heap.size] w) (fun o => outc o (fun x => some x) (fun s => M.impl_IsCurve_a1 a0 s) = some r) ho152 hm ⟨rfl, rfl, rfl, rfl, hL⟩ ?_ ?_
 · intro s_l1 F153 wd154 hJ hm
   have hm := outcE hm
   have hm : M.impl_IsCurve_a1 a0 s_l1 = some r := hm
   unfold M.impl_IsCurve_a1 at hm
   obtain ⟨f155, f156, f157, f158, hL⟩ := hJ
   refine CW.seqJ (fun (s_j1 : Bool) (F : Fr) (w : World) => F 2 = (.bool s_j1) ∧ Hp w0 [Ent.snap w0 w0.heap.size] w) (fun s_j1 => M.impl_IsCurve_j1 s_j1 = some r) ?_ ?_
   · refine CW.regionL ?_
     refine OV v1 rfl (x_mv f155) ?_
     refine OV (.int .i64 (a0.length : Int)) rfl (x_lenR U34 rfl (hL.rdS 0 rfl h2)) ?_
     refine OV (.bool (decide (2 ≤ (a0.length : Int)))) rfl (x_geq rfl rfl) ?_
     refine OV (.bool (decide (2 ≤ (a0.length : Int)))) rfl (x_move) ?_
     refine ifB_elim hm (fun hb163 hm => ?_) (fun hb163 hm => ?_)
     · refine OW.cons (OP.yes' rfl rfl hb163 (OP.val (v := v1) rfl (x_mv f155) ?_))
       refine OW.cons (OP.yes' rfl rfl hb163 (OP.val (v := (.int .i64 (a0.length : Int))) rfl (x_lenR U34 rfl (hL.rdS 0 rfl h2)) ?_))
       refine OW.cons (OP.yes' rfl rfl hb163 (OP.val (v := (.bool (decide ((a0.length : Int) ≤ 12)))) rfl (x_leq rfl rfl) ?_))
       refine OV (.bool (decide ((a0.length : Int) ≤ 12))) rfl (x_pickT' rfl hb163 rfl) ?_
       refine OV (.bool (decide ((a0.length : Int) ≤ 12))) rfl (x_assign) ?_
       refine OW.nil ?_
       exact ⟨decide ((a0.length : Int) ≤ 12), hm, ⟨rfl, hL⟩⟩
     refine OW.cons (OP.no' rfl rfl hb163 rfl ?_)
     refine OW.cons (OP.no' rfl rfl hb163 rfl ?_)
     refine OW.cons (OP.no' rfl rfl hb163 rfl ?_)
     refine OV (.bool false) rfl (x_pickF' rfl hb163 rfl) ?_
     refine OV (.bool false) rfl (x_assign) ?_
     refine OW.nil ?_
     exact ⟨false, hm, ⟨rfl, hL⟩⟩
   intro s_j1 F160 wd161 hJ hm
   unfold M.impl_IsCurve_j1 at hm
   obtain ⟨f162, hL⟩ := hJ
   refine CW.ret ?_
   obtain rfl := Option.some.inj hm
   exact RR1 rfl f162 ⟨rfl, hL.fresh 0 rfl [] (by decide) (by decide) rfl⟩
 intro s_l1 F164 wd165 t149 hJ hm hr150
 unfold M.impl_IsCurve_l1 at hm
 obtain ⟨f166, f167, f168, f169, hL⟩ := hJ
 refine CSR ?_
 refine OV (.bool (decide (s_l1 < (a0.length : Int)))) rfl (x_lss f169 f168) ?_
 refine ONS ?_
 refine CW.condM (t := decide (s_l1 < (a0.length : Int))) rfl hm (fun hb170 hm => ?_) (fun hb170 hm => ?_)
 · refine CW.skip ?_
   refine CW.seq ?_
   refine CW.block ?_
   refine CSR ?_
   refine OV (.int .i64 s_l1) rfl (x_mv f169) ?_
   obtain ⟨x171, ha172, hm⟩ := bndE hm
   obtain ⟨hz173, ha177⟩ := idxE ha172
   obtain ⟨b174, q175, hix176⟩ := rdL_ix (hL.rdS 0 rfl h2) hz173 ha177
   refine OV (.pointer (some ⟨b174, q175, none⟩)) rfl (x_ix U34 Try_T62 f167 f169 hix176) ?_
   refine OV (.agg #[(.int .i64 x171.Wind), (.int .i64 x171.Pace)]) rfl (x_loadN (cs := [(.int .i64 x171.Wind), (.int .i64 x171.Pace)]) U62 Try_T62 rfl rfl (rdF_cells (hL.rdS 0 rfl h2) hix176 ha177)) ?_
   refine OW.cons (S_alloc (cs := #[(.int .i64 0), (.int .i64 0)]) hL Try_T62 rfl rfl ?_)
   intro wd178 b179 hL
   refine OV (.int .i64 s_l1) rfl (x_assign) ?_
   refine OW.cons (S_storeN (l := [(.int .i64 x171.Wind), (.int .i64 x171.Pace)]) (cs' := #[(.int .i64 x171.Wind), (.int .i64 x171.Pace)]) hL 0 rfl Try_T62 rfl rfl (List.forall_mem_cons.2 ⟨rfl, (List.forall_mem_cons.2 ⟨rfl, (fun _ h => by cases h)⟩)⟩) rfl (Nat.le_of_ble_eq_true rfl) rfl ?_)
   intro wd180 hL
   refine OW.nil ?_
   refine CW.seqJ (fun (s_j2 : Bool) (F : Fr) (w : World) => F 0 = v1 ∧ F 5 = v1 ∧ F 6 = (.int .i64 (a0.length : Int)) ∧ F 7 = (.int .i64 s_l1) ∧ F 47 = (.bool s_j2) ∧ Hp w0 [Ent.blk b179 62 #[(.int .i64 x171.Wind), (.int .i64 x171.Pace)], Ent.snap w0 w0.heap.size] w) (fun s_j2 => M.impl_IsCurve_j2 s_l1 s_j2 = some t149) ?_ ?_
   · refine CW.draw Try_mixed ?_
     have hL := hL.call (Mod.drew _)
     refine DW.pre (fuel := 0) (fin := bma 36 68719476735) (C := fun w' => Mod None_ _ w') [0, 1, 2, 3, 4, 5, 6, 7, 8, 9, 10, 11, 12, 13, 14, 15, 16, 17, 18, 19, 20, 21, 22, 23, 24, 25, 26, 27, 28, 29, 30, 31, 32, 33, 34, 35] (Mod.refl _ _) (by kernel_rfl) (by kernel_rfl) ?_
     refine QW.cons rfl (QP.val (v := (.pointer (some ⟨b179, 0, none⟩))) rfl (fun w' hm' => x_fieldAddr (fsz := 1) 0 0 0 U62 rfl Try_T2 rfl rfl rfl) ?_)
     refine QW.cons rfl (QP.val (v := (.int .i64 x171.Wind)) rfl (fun w' hm' => x_load1 U2 rfl rfl ((hL.call hm').cellB 0 rfl rfl)) ?_)
     obtain ⟨x216, hx217, hm⟩ := bndE hm
     refine QW.cons rfl (QP.call (v := (.bool x216)) rfl (fun w' hm' => x_call (vs := [(.int .i64 x171.Wind), (.int .i64 0), (.int .i64 1000)]) Try_C37 ⟨rfl, rfl, rfl, trivial⟩) (fun w' hm' => (M.impl_within_ok w' x171.Wind 0 1000 hx217).mono (fun e w'' h => ⟨h.1, hm'.trans h.2.mod⟩)) ?_)
     refine QW.cons rfl (QP.val (v := (.bool (!x216))) rfl (fun w' hm' => x_not rfl) ?_)
     refine QW.cons rfl (QP.val (v := (.bool (!x216))) rfl (fun w' hm' => x_move) ?_)
     refine ifB_elim hm (fun hb218 hm => ?_) (fun hb218 hm => ?_)
     · refine QW.cons rfl (QP.no' rfl rfl hb218 rfl ?_)
       refine QW.cons rfl (QP.no' rfl rfl hb218 rfl ?_)
       refine QW.cons rfl (QP.no' rfl rfl hb218 rfl ?_)
       refine QW.cons rfl (QP.no' rfl rfl hb218 rfl ?_)
       refine QW.cons rfl (QP.val (v := (.bool true)) rfl (fun w' hm' => x_pickT' rfl hb218 rfl) ?_)
       refine QW.cons rfl (QP.val (v := (.bool true)) rfl (fun w' hm' => x_move) ?_)
       refine QW.cons rfl (QP.no' rfl rfl rfl rfl ?_)
       refine QW.cons rfl (QP.no' rfl rfl rfl rfl ?_)
       refine QW.cons rfl (QP.no' rfl rfl rfl rfl ?_)
       refine QW.cons rfl (QP.noU rfl rfl rfl ?_)
       refine QW.cons rfl (QP.noU rfl rfl rfl ?_)
       refine QW.cons rfl (QP.noU rfl rfl rfl ?_)
       refine QW.cons rfl (QP.noU rfl rfl rfl ?_)
       refine QW.cons rfl (QP.noU rfl rfl rfl ?_)
       refine QW.cons rfl (QP.noU rfl rfl rfl ?_)
       refine QW.cons rfl (QP.noU rfl rfl rfl ?_)
       refine QW.cons rfl (QP.noU rfl rfl rfl ?_)
       refine QW.cons rfl (QP.noU rfl rfl rfl ?_)
       refine QW.cons rfl (QP.noU rfl rfl rfl ?_)
       refine QW.cons rfl (QP.noU rfl rfl rfl ?_)
       refine QW.cons rfl (QP.noU rfl rfl rfl ?_)
       refine QW.cons rfl (QP.noU rfl rfl rfl ?_)
       refine QW.cons rfl (QP.noU rfl rfl rfl ?_)
       refine QW.cons rfl (QP.noU rfl rfl rfl ?_)
       refine QW.cons rfl (QP.noU rfl rfl rfl ?_)
       refine QW.cons rfl (QP.noU rfl rfl rfl ?_)
       refine QW.cons rfl (QP.noU rfl rfl rfl ?_)
       refine QW.cons rfl (QP.noU rfl rfl rfl ?_)
       refine QW.cons rfl (QP.noU rfl rfl rfl ?_)
       refine QW.cons rfl (QP.no' rfl rfl rfl rfl ?_)
       refine QW.cons rfl (QP.val (v := (.bool true)) rfl (fun w' hm' => x_pickT' rfl rfl rfl) ?_)
       refine QW.nil ?_
       intro wd219 hmod
       have hL := hL.call hmod
       refine DW.done (by kernel_rfl) ?_
       exact ⟨true, hm, ⟨f166, f167, f168, f169, rfl, hL⟩⟩
     refine QW.cons rfl (QP.yes' rfl rfl hb218 (QP.val (v := (.pointer (some ⟨b179, 1, none⟩))) rfl (fun w' hm' => x_fieldAddr (fsz := 1) 0 1 1 U62 rfl Try_T2 rfl rfl rfl) ?_))
     refine QW.cons rfl (QP.yes' rfl rfl hb218 (QP.val (v := (.int .i64 x171.Pace)) rfl (fun w' hm' => x_load1 U2 rfl rfl ((hL.call hm').cellB 0 rfl rfl)) ?_))
     obtain ⟨x220, hx221, hm⟩ := bndE hm
     refine QW.cons rfl (QP.yes' rfl rfl hb218 (QP.call (v := (.bool x220)) rfl (fun w' hm' => x_call (vs := [(.int .i64 x171.Pace), (.int .i64 1), (.int .i64 1000000)]) Try_C37 ⟨rfl, rfl, rfl, trivial⟩) (fun w' hm' => (M.impl_within_ok w' x171.Pace 1 1000000 hx221).mono (fun e w'' h => ⟨h.1, hm'.trans h.2.mod⟩)) ?_))
     refine QW.cons rfl (QP.yes' rfl rfl hb218 (QP.val (v := (.bool (!x220))) rfl (fun w' hm' => x_not rfl) ?_))
     refine QW.cons rfl (QP.val (v := (.bool (!x220))) rfl (fun w' hm' => x_pickF' rfl hb218 rfl) ?_)
     refine QW.cons rfl (QP.val (v := (.bool (!x220))) rfl (fun w' hm' => x_move) ?_)
     refine ifB_elim hm (fun hb222 hm => ?_) (fun hb222 hm => ?_)
     · refine QW.cons rfl (QP.no' rfl rfl hb222 rfl ?_)
       refine QW.cons rfl (QP.no' rfl rfl hb222 rfl ?_)
       refine QW.cons rfl (QP.no' rfl rfl hb222 rfl ?_)
       refine QW.cons rfl (QP.noU rfl rfl rfl ?_)
       refine QW.cons rfl (QP.noU rfl rfl rfl ?_)
       refine QW.cons rfl (QP.noU rfl rfl rfl ?_)
       refine QW.cons rfl (QP.noU rfl rfl rfl ?_)
       refine QW.cons rfl (QP.noU rfl rfl rfl ?_)
       refine QW.cons rfl (QP.noU rfl rfl rfl ?_)
       refine QW.cons rfl (QP.noU rfl rfl rfl ?_)
       refine QW.cons rfl (QP.noU rfl rfl rfl ?_)
       refine QW.cons rfl (QP.noU rfl rfl rfl ?_)
       refine QW.cons rfl (QP.noU rfl rfl rfl ?_)
       refine QW.cons rfl (QP.noU rfl rfl rfl ?_)
       refine QW.cons rfl (QP.noU rfl rfl rfl ?_)
       refine QW.cons rfl (QP.noU rfl rfl rfl ?_)
       refine QW.cons rfl (QP.noU rfl rfl rfl ?_)
       refine QW.cons rfl (QP.noU rfl rfl rfl ?_)
       refine QW.cons rfl (QP.noU rfl rfl rfl ?_)
       refine QW.cons rfl (QP.noU rfl rfl rfl ?_)
       refine QW.cons rfl (QP.noU rfl rfl rfl ?_)
       refine QW.cons rfl (QP.noU rfl rfl rfl ?_)
       refine QW.cons rfl (QP.noU rfl rfl rfl ?_)
       refine QW.cons rfl (QP.no' rfl rfl hb222 rfl ?_)
       refine QW.cons rfl (QP.val (v := (.bool true)) rfl (fun w' hm' => x_pickT' rfl hb222 rfl) ?_)
       refine QW.nil ?_
       intro wd223 hmod
       have hL := hL.call hmod
       refine DW.done (by kernel_rfl) ?_
       exact ⟨true, hm, ⟨f166, f167, f168, f169, rfl, hL⟩⟩
     refine QW.cons rfl (QP.yes' rfl rfl hb222 (QP.val (v := (.int .i64 s_l1)) rfl (fun w' hm' => x_move) ?_))
     refine QW.cons rfl (QP.yes' rfl rfl hb222 (QP.val (v := (.bool (decide (0 < s_l1)))) rfl (fun w' hm' => x_gtr rfl rfl) ?_))
     refine QW.cons rfl (QP.yes' rfl rfl hb222 (QP.val (v := (.bool (decide (0 < s_l1)))) rfl (fun w' hm' => x_move) ?_))
     refine ifB_elim hm (fun hb224 hm => ?_) (fun hb224 hm => ?_)
     · refine QW.cons rfl (QP.yes' rfl rfl hb224 (QP.val (v := v1) rfl (fun w' hm' => x_mv f166) ?_))
       refine QW.cons rfl (QP.yes' rfl rfl hb224 (QP.val (v := (.int .i64 s_l1)) rfl (fun w' hm' => x_move) ?_))
       refine QW.cons rfl (QP.yes' rfl rfl hb224 (QP.val (v := (.int .i64 (w64 (s_l1 - 1)))) rfl (fun w' hm' => x_sub rfl rfl) ?_))
       obtain ⟨x225, ha226, hm⟩ := bndE hm
       obtain ⟨hz227, ha231⟩ := idxE ha226
       obtain ⟨b228, q229, hix230⟩ := rdL_ix (hL.rdS 1 rfl h2) hz227 ha231
       refine QW.cons rfl (QP.yes' rfl rfl hb224 (QP.val (v := (.pointer (some ⟨b228, q229, none⟩))) rfl (fun w' hm' => x_ix U34 Try_T62 rfl rfl hix230) ?_))
       refine QW.cons rfl (QP.yes' rfl rfl hb224 (QP.val (v := (.pointer (some ⟨b228, q229, none⟩))) rfl (fun w' hm' => x_fieldAddr (fsz := 1) q229 0 q229 U62 rfl Try_T2 rfl rfl rfl) ?_))
       refine QW.cons rfl (QP.yes' rfl rfl hb224 (QP.val (v := (.int .i64 x225.Wind)) rfl (fun w' hm' => x_load1 U2 rfl rfl (rdF_cells ((hL.call hm').rdS 1 rfl h2) hix230 ha231 0 _ rfl)) ?_))
       refine QW.cons rfl (QP.yes' rfl rfl hb224 (QP.val (v := (.pointer (some ⟨b179, 0, none⟩))) rfl (fun w' hm' => x_fieldAddr (fsz := 1) 0 0 0 U62 rfl Try_T2 rfl rfl rfl) ?_))
       refine QW.cons rfl (QP.yes' rfl rfl hb224 (QP.val (v := (.int .i64 x171.Wind)) rfl (fun w' hm' => x_load1 U2 rfl rfl ((hL.call hm').cellB 0 rfl rfl)) ?_))
       refine QW.cons rfl (QP.yes' rfl rfl hb224 (QP.val (v := (.bool (decide (x171.Wind ≤ x225.Wind)))) rfl (fun w' hm' => x_geq rfl rfl) ?_))
       refine QW.cons rfl (QP.yes' rfl rfl hb224 (QP.val (v := (.bool (decide (x171.Wind ≤ x225.Wind)))) rfl (fun w' hm' => x_move) ?_))
       refine ifB_elim hm (fun hb232 hm => ?_) (fun hb232 hm => ?_)
       · refine QW.cons rfl (QP.no' rfl rfl hb232 rfl ?_)
         refine QW.cons rfl (QP.no' rfl rfl hb232 rfl ?_)
         refine QW.cons rfl (QP.no' rfl rfl hb232 rfl ?_)
         refine QW.cons rfl (QP.no' rfl rfl hb232 rfl ?_)
         refine QW.cons rfl (QP.no' rfl rfl hb232 rfl ?_)
         refine QW.cons rfl (QP.no' rfl rfl hb232 rfl ?_)
         refine QW.cons rfl (QP.no' rfl rfl hb232 rfl ?_)
         refine QW.cons rfl (QP.no' rfl rfl hb232 rfl ?_)
         refine QW.cons rfl (QP.no' rfl rfl hb232 rfl ?_)
         refine QW.cons rfl (QP.yes' rfl rfl hb224 (QP.val (v := (.bool true)) rfl (fun w' hm' => x_pickT' rfl hb232 rfl) ?_))
         refine QW.cons rfl (QP.yes' rfl rfl hb222 (QP.val (v := (.bool true)) rfl (fun w' hm' => x_pickT' rfl hb224 rfl) ?_))
         refine QW.cons rfl (QP.val (v := (.bool true)) rfl (fun w' hm' => x_pickF' rfl hb222 rfl) ?_)
         refine QW.nil ?_
         intro wd233 hmod
         have hL := hL.call hmod
         refine DW.done (by kernel_rfl) ?_
         exact ⟨true, hm, ⟨f166, f167, f168, f169, rfl, hL⟩⟩
       refine QW.cons rfl (QP.yes' rfl rfl hb232 (QP.val (v := v1) rfl (fun w' hm' => x_mv f166) ?_))
       refine QW.cons rfl (QP.yes' rfl rfl hb232 (QP.val (v := (.int .i64 s_l1)) rfl (fun w' hm' => x_move) ?_))
       refine QW.cons rfl (QP.yes' rfl rfl hb232 (QP.val (v := (.int .i64 (w64 (s_l1 - 1)))) rfl (fun w' hm' => x_sub rfl rfl) ?_))
       obtain ⟨x234, ha235, hm⟩ := bndE hm
       obtain ⟨hz236, ha240⟩ := idxE ha235
       obtain ⟨b237, q238, hix239⟩ := rdL_ix (hL.rdS 1 rfl h2) hz236 ha240
       refine QW.cons rfl (QP.yes' rfl rfl hb232 (QP.val (v := (.pointer (some ⟨b237, q238, none⟩))) rfl (fun w' hm' => x_ix U34 Try_T62 rfl rfl hix239) ?_))
       refine QW.cons rfl (QP.yes' rfl rfl hb232 (QP.val (v := (.pointer (some ⟨b237, q238 + 1, none⟩))) rfl (fun w' hm' => x_fieldAddr (fsz := 1) q238 1 (q238 + 1) U62 rfl Try_T2 rfl rfl rfl) ?_))
       refine QW.cons rfl (QP.yes' rfl rfl hb232 (QP.val (v := (.int .i64 x234.Pace)) rfl (fun w' hm' => x_load1 U2 rfl rfl (rdF_cells ((hL.call hm').rdS 1 rfl h2) hix239 ha240 1 _ rfl)) ?_))
       refine QW.cons rfl (QP.yes' rfl rfl hb232 (QP.val (v := (.pointer (some ⟨b179, 1, none⟩))) rfl (fun w' hm' => x_fieldAddr (fsz := 1) 0 1 1 U62 rfl Try_T2 rfl rfl rfl) ?_))
       refine QW.cons rfl (QP.yes' rfl rfl hb232 (QP.val (v := (.int .i64 x171.Pace)) rfl (fun w' hm' => x_load1 U2 rfl rfl ((hL.call hm').cellB 0 rfl rfl)) ?_))
       refine QW.cons rfl (QP.yes' rfl rfl hb232 (QP.val (v := (.bool (decide (x234.Pace ≤ x171.Pace)))) rfl (fun w' hm' => x_leq rfl rfl) ?_))
       refine QW.cons rfl (QP.yes' rfl rfl hb224 (QP.val (v := (.bool (decide (x234.Pace ≤ x171.Pace)))) rfl (fun w' hm' => x_pickF' rfl hb232 rfl) ?_))
       refine QW.cons rfl (QP.yes' rfl rfl hb222 (QP.val (v := (.bool (decide (x234.Pace ≤ x171.Pace)))) rfl (fun w' hm' => x_pickT' rfl hb224 rfl) ?_))
       refine QW.cons rfl (QP.val (v := (.bool (decide (x234.Pace ≤ x171.Pace)))) rfl (fun w' hm' => x_pickF' rfl hb222 rfl) ?_)
       refine QW.nil ?_
       intro wd241 hmod
       have hL := hL.call hmod
       refine DW.done (by kernel_rfl) ?_
       exact ⟨decide (x234.Pace ≤ x171.Pace), hm, ⟨f166, f167, f168, f169, rfl, hL⟩⟩
     refine QW.cons rfl (QP.no' rfl rfl hb224 rfl ?_)
     refine QW.cons rfl (QP.no' rfl rfl hb224 rfl ?_)
     refine QW.cons rfl (QP.no' rfl rfl hb224 rfl ?_)
     refine QW.cons rfl (QP.no' rfl rfl hb224 rfl ?_)
     refine QW.cons rfl (QP.no' rfl rfl hb224 rfl ?_)
     refine QW.cons rfl (QP.no' rfl rfl hb224 rfl ?_)
     refine QW.cons rfl (QP.no' rfl rfl hb224 rfl ?_)
     refine QW.cons rfl (QP.no' rfl rfl hb224 rfl ?_)
     refine QW.cons rfl (QP.no' rfl rfl hb224 rfl ?_)
     refine QW.cons rfl (QP.no' rfl rfl hb224 rfl ?_)
     refine QW.cons rfl (QP.noU rfl rfl rfl ?_)
     refine QW.cons rfl (QP.noU rfl rfl rfl ?_)
     refine QW.cons rfl (QP.noU rfl rfl rfl ?_)
     refine QW.cons rfl (QP.noU rfl rfl rfl ?_)
     refine QW.cons rfl (QP.noU rfl rfl rfl ?_)
     refine QW.cons rfl (QP.noU rfl rfl rfl ?_)
     refine QW.cons rfl (QP.noU rfl rfl rfl ?_)
     refine QW.cons rfl (QP.noU rfl rfl rfl ?_)
     refine QW.cons rfl (QP.noU rfl rfl rfl ?_)
     refine QW.cons rfl (QP.no' rfl rfl hb224 rfl ?_)
     refine QW.cons rfl (QP.yes' rfl rfl hb222 (QP.val (v := (.bool false)) rfl (fun w' hm' => x_pickF' rfl hb224 rfl) ?_))
     refine QW.cons rfl (QP.val (v := (.bool false)) rfl (fun w' hm' => x_pickF' rfl hb222 rfl) ?_)
     refine QW.nil ?_
     intro wd242 hmod
     have hL := hL.call hmod
     refine DW.done (by kernel_rfl) ?_
     exact ⟨false, hm, ⟨f166, f167, f168, f169, rfl, hL⟩⟩
   intro s_j2 F208 wd209 hJ hm
   unfold M.impl_IsCurve_j2 at hm
   obtain ⟨f210, f211, f212, f213, f214, hL⟩ := hJ
   refine CW.condM (t := s_j2) f214 hm (fun hb215 hm => ?_) (fun hb215 hm => ?_)
   · refine CSR ?_
     refine OV (.bool false) rfl (x_assign) ?_
     refine OW.nil ?_
     refine CW.ret ?_
     obtain rfl := Option.some.inj hm
     have hm := hr150 _ rfl
     obtain rfl := Option.some.inj hm
     exact RR1 rfl rfl ⟨rfl, hL.fresh 1 rfl [] (by decide) (by decide) rfl⟩
   refine CW.skip ?_
   refine CW.regionL ?_
   refine OV (.int .i64 (w64 (s_l1 + 1))) rfl (x_add f213 rfl) ?_
   refine OV (.int .i64 (w64 (s_l1 + 1))) rfl (x_move) ?_
   refine OW.nil ?_
   have hL := hL.sel [1] (by decide) rfl
   obtain rfl := Option.some.inj hm
   exact ⟨_, rfl, ⟨f210, f211, f212, rfl, hL⟩⟩
 refine CW.exit ?_
 refine XJ.hit ?_
 obtain rfl := Option.some.inj hm
 exact ⟨_, rfl, ⟨f166, f167, f168, f169, hL⟩⟩

theorem M.impl_floorDiv_ok (w0 : World) (a0 : Int) (a1 : Int) {r : Int} (hm : M.impl_floorDiv a0 a1 = some r) :
    Calls Try.prog 65 #[(.int .i64 a0), (.int .i64 a1)] w0 fun e w' => e = .returned (.int .i64 r) ∧ Fresh w0 w' [] := by
 unfold M.impl_floorDiv at hm
 refine calls_CW (args := [(.int .i64 a0), (.int .i64 a1)]) Try.func65 rfl rfl rfl ?_
 have hL := Hp.start w0
 refine CSR ?_
 refine OV (.int .i64 0) rfl (x_assign) ?_
 refine ONR ?_
 refine OV (.int .i64 a0) rfl (x_move) ?_
 refine OV (.int .i64 a1) rfl (x_move) ?_
 obtain ⟨hc1, hm⟩ := chkE hm
 refine OV (.int .i64 (w64 (a0.tdiv a1))) rfl (x_quo rfl rfl hc1) ?_
 refine OV (.int .i64 (w64 (a0.tdiv a1))) rfl (x_assign) ?_
 refine OW.nil ?_
 refine CW.seqJ (fun (s_j1 : Int) (F : Fr) (w : World) => F 5 = (.int .i64 s_j1) ∧ Hp w0 [Ent.snap w0 w0.heap.size] w) (fun s_j1 => M.impl_floorDiv_j1 s_j1 = some r) ?_ ?_
 · refine CSR ?_
   refine OV (.int .i64 a0) rfl (x_move) ?_
   refine OV (.int .i64 a1) rfl (x_move) ?_
   obtain ⟨hc7, hm⟩ := chkE hm
   refine OV (.int .i64 (a0.tmod a1)) rfl (x_rem rfl rfl hc7) ?_
   refine OV (.bool (decide ((a0.tmod a1) < 0))) rfl (x_lss rfl rfl) ?_
   refine OW.nil ?_
   refine CW.condM (t := decide ((a0.tmod a1) < 0)) rfl hm (fun hb8 hm => ?_) (fun hb8 hm => ?_)
   · refine CW.regionL ?_
     refine OV (.int .i64 (w64 (a0.tdiv a1))) rfl (x_move) ?_
     refine OV (.int .i64 (w64 ((w64 (a0.tdiv a1)) - 1))) rfl (x_sub rfl rfl) ?_
     refine OV (.int .i64 (w64 ((w64 (a0.tdiv a1)) - 1))) rfl (x_assign) ?_
     refine OW.nil ?_
     exact ⟨w64 ((w64 (a0.tdiv a1)) - 1), hm, ⟨rfl, hL⟩⟩
   refine CW.skip ?_
   exact ⟨w64 (a0.tdiv a1), hm, ⟨rfl, hL⟩⟩
 intro s_j1 F4 wd5 hJ hm
 unfold M.impl_floorDiv_j1 at hm
 obtain ⟨f6, hL⟩ := hJ
 refine CSR ?_
 refine OV (.int .i64 s_j1) rfl (x_mv f6) ?_
 refine OV (.int .i64 s_j1) rfl (x_assign) ?_
 refine OW.nil ?_
 refine CW.ret ?_
 obtain rfl := Option.some.inj hm
 exact RR1 rfl rfl ⟨rfl, hL.fresh 0 rfl [] (by decide) (by decide) rfl⟩

theorem M.impl_paceAt_ok (w0 : World) (a0 : List CurvePoint) {v1 : Value} (h2 : rdL (· < w0.heap.size) w0 v1 a0) (a1 : Int) {r : Int} (hm : M.impl_paceAt a0 a1 = some r) :
    Calls Try.prog 51 #[v1, (.int .i64 a1)] w0 fun e w' => e = .returned (.int .i64 r) ∧ Fresh w0 w' [] := by
 unfold M.impl_paceAt at hm
 refine calls_CW (args := [v1, (.int .i64 a1)]) Try.func51 rfl rfl rfl ?_
 have hL := Hp.start w0
 refine CSR ?_
 refine OV (.int .i64 0) rfl (x_assign) ?_
 refine ONS ?_
 refine CSR ?_
 refine OV v1 rfl (x_move) ?_
 refine OV (.int .i64 (a0.length : Int)) rfl (x_lenR U34 rfl (hL.rdS 0 rfl h2)) ?_
 refine OV (.int .i64 0) rfl (x_move) ?_
 refine OW.nil ?_
 obtain ⟨o57, ho58, hm⟩ := bndE hm
 refine CW.loopB (fun (s_l1 : Int) (F : Fr) (w : World) => F 0 = v1 ∧ F 1 = (.int .i64 a1) ∧ F 8 = v1 ∧ F 9 = (.int .i64 (a0.length : Int)) ∧ F 10 = (.int .i64 s_l1) ∧ Hp w0 [Ent.snap w0 w0.heap.size] w) (fun o => outc o (fun x => some x) (fun s => M.impl_paceAt_a1 a0 s) = some r) ho58 hm ⟨rfl, rfl, rfl, rfl, rfl, hL⟩ ?_ ?_
 · intro s_l1 F59 wd60 hJ hm
   have hm := outcE hm
   have hm : M.impl_paceAt_a1 a0 s_l1 = some r := hm
   unfold M.impl_paceAt_a1 at hm
   obtain ⟨f61, f62, f63, f64, f65, hL⟩ := hJ
   refine CSR ?_
   refine OV v1 rfl (x_mv f61) ?_
   refine OV v1 rfl (x_mv f61) ?_
   refine OV (.int .i64 (a0.length : Int)) rfl (x_lenR U34 rfl (hL.rdS 0 rfl h2)) ?_
   refine OV (.int .i64 (w64 ((a0.length : Int) - 1))) rfl (x_sub rfl rfl) ?_
   obtain ⟨x66, ha67, hm⟩ := bndE hm
   obtain ⟨hz68, ha72⟩ := idxE ha67
   obtain ⟨b69, q70, hix71⟩ := rdL_ix (hL.rdS 0 rfl h2) hz68 ha72
   refine OV (.pointer (some ⟨b69, q70, none⟩)) rfl (x_ix U34 Try_T62 rfl rfl hix71) ?_
   refine OV (.pointer (some ⟨b69, q70 + 1, none⟩)) rfl (x_fieldAddr (fsz := 1) q70 1 (q70 + 1) U62 rfl Try_T2 rfl rfl rfl) ?_
   refine OV (.int .i64 x66.Pace) rfl (x_load1 U2 rfl rfl (rdF_cells (hL.rdS 0 rfl h2) hix71 ha72 1 _ rfl)) ?_
   refine OV (.int .i64 x66.Pace) rfl (x_assign) ?_
   refine OW.nil ?_
   refine CW.ret ?_
   obtain rfl := Option.some.inj hm
   exact RR1 rfl rfl ⟨rfl, hL.fresh 0 rfl [] (by decide) (by decide) rfl⟩
 intro s_l1 F73 wd74 t55 hJ hm hr56
 unfold M.impl_paceAt_l1 at hm
 obtain ⟨f75, f76, f77, f78, f79, hL⟩ := hJ
 refine CSR ?_
 refine OV (.bool (decide (s_l1 < (a0.length : Int)))) rfl (x_lss f79 f78) ?_
 refine ONS ?_
 refine CW.condM (t := decide (s_l1 < (a0.length : Int))) rfl hm (fun hb80 hm => ?_) (fun hb80 hm => ?_)
 · refine CW.skip ?_
   refine CW.seq ?_
   refine CW.block ?_
   refine CSR ?_
   refine OV (.int .i64 s_l1) rfl (x_mv f79) ?_
   obtain ⟨x81, ha82, hm⟩ := bndE hm
   obtain ⟨hz83, ha87⟩ := idxE ha82
   obtain ⟨b84, q85, hix86⟩ := rdL_ix (hL.rdS 0 rfl h2) hz83 ha87
   refine OV (.pointer (some ⟨b84, q85, none⟩)) rfl (x_ix U34 Try_T62 f77 f79 hix86) ?_
   refine OV (.agg #[(.int .i64 x81.Wind), (.int .i64 x81.Pace)]) rfl (x_loadN (cs := [(.int .i64 x81.Wind), (.int .i64 x81.Pace)]) U62 Try_T62 rfl rfl (rdF_cells (hL.rdS 0 rfl h2) hix86 ha87)) ?_
   refine OW.cons (S_alloc (cs := #[(.int .i64 0), (.int .i64 0)]) hL Try_T62 rfl rfl ?_)
   intro wd88 b89 hL
   refine OV (.int .i64 s_l1) rfl (x_assign) ?_
   refine OW.cons (S_storeN (l := [(.int .i64 x81.Wind), (.int .i64 x81.Pace)]) (cs' := #[(.int .i64 x81.Wind), (.int .i64 x81.Pace)]) hL 0 rfl Try_T62 rfl rfl (List.forall_mem_cons.2 ⟨rfl, (List.forall_mem_cons.2 ⟨rfl, (fun _ h => by cases h)⟩)⟩) rfl (Nat.le_of_ble_eq_true rfl) rfl ?_)
   intro wd90 hL
   refine ONS ?_
   refine CSR ?_
   refine OV (.int .i64 a1) rfl (x_mv f76) ?_
   refine OV (.pointer (some ⟨b89, 0, none⟩)) rfl (x_fieldAddr (fsz := 1) 0 0 0 U62 rfl Try_T2 rfl rfl rfl) ?_
   refine OV (.int .i64 x81.Wind) rfl (x_load1 U2 rfl rfl (hL.cellB 0 rfl rfl)) ?_
   refine OV (.bool (decide (x81.Wind < a1))) rfl (x_gtr rfl rfl) ?_
   refine OW.nil ?_
   refine CW.condM (t := decide (x81.Wind < a1)) rfl hm (fun hb91 hm => ?_) (fun hb91 hm => ?_)
   · refine CW.exit ?_
     refine XX.hit ?_
     refine CW.regionL ?_
     refine OV (.int .i64 (w64 (s_l1 + 1))) rfl (x_add f79 rfl) ?_
     refine OV (.int .i64 (w64 (s_l1 + 1))) rfl (x_move) ?_
     refine OW.nil ?_
     have hL := hL.sel [1] (by decide) rfl
     obtain rfl := Option.some.inj hm
     exact ⟨_, rfl, ⟨f75, f76, f77, f78, rfl, hL⟩⟩
   refine CW.skip ?_
   refine CW.seq ?_
   refine CSR ?_
   refine OV (.int .i64 s_l1) rfl (x_move) ?_
   refine OV (.bool (s_l1 == 0)) rfl (x_eql rfl rfl) ?_
   refine OW.nil ?_
   refine CW.condM (t := s_l1 == 0) rfl hm (fun hb92 hm => ?_) (fun hb92 hm => ?_)
   · refine CSR ?_
     refine OV (.pointer (some ⟨b89, 1, none⟩)) rfl (x_fieldAddr (fsz := 1) 0 1 1 U62 rfl Try_T2 rfl rfl rfl) ?_
     refine OV (.int .i64 x81.Pace) rfl (x_load1 U2 rfl rfl (hL.cellB 0 rfl rfl)) ?_
     refine OV (.int .i64 x81.Pace) rfl (x_assign) ?_
     refine OW.nil ?_
     refine CW.ret ?_
     obtain rfl := Option.some.inj hm
     have hm := hr56 _ rfl
     obtain rfl := Option.some.inj hm
     exact RR1 rfl rfl ⟨rfl, hL.fresh 1 rfl [] (by decide) (by decide) rfl⟩
   refine CW.skip ?_
   refine CSR ?_
   refine OV v1 rfl (x_mv f75) ?_
   refine OV (.int .i64 s_l1) rfl (x_move) ?_
   refine OV (.int .i64 (w64 (s_l1 - 1))) rfl (x_sub rfl rfl) ?_
   obtain ⟨x93, ha94, hm⟩ := bndE hm
   obtain ⟨hz95, ha99⟩ := idxE ha94
   obtain ⟨b96, q97, hix98⟩ := rdL_ix (hL.rdS 1 rfl h2) hz95 ha99
   refine OV (.pointer (some ⟨b96, q97, none⟩)) rfl (x_ix U34 Try_T62 rfl rfl hix98) ?_
   refine OV (.agg #[(.int .i64 x93.Wind), (.int .i64 x93.Pace)]) rfl (x_loadN (cs := [(.int .i64 x93.Wind), (.int .i64 x93.Pace)]) U62 Try_T62 rfl rfl (rdF_cells (hL.rdS 1 rfl h2) hix98 ha99)) ?_
   refine OW.cons (S_alloc (cs := #[(.int .i64 0), (.int .i64 0)]) hL Try_T62 rfl rfl ?_)
   intro wd100 b101 hL
   refine OW.cons (S_storeN (l := [(.int .i64 x93.Wind), (.int .i64 x93.Pace)]) (cs' := #[(.int .i64 x93.Wind), (.int .i64 x93.Pace)]) hL 0 rfl Try_T62 rfl rfl (List.forall_mem_cons.2 ⟨rfl, (List.forall_mem_cons.2 ⟨rfl, (fun _ h => by cases h)⟩)⟩) rfl (Nat.le_of_ble_eq_true rfl) rfl ?_)
   intro wd102 hL
   refine ONS ?_
   refine CW.draw Try_mixed ?_
   have hL := hL.call (Mod.drew _)
   refine DW.pre (fuel := 0) (fin := bma 20 1048575) (C := fun w' => Mod None_ _ w') [0, 1, 2, 3, 4, 5, 6, 7, 8, 9, 10, 11, 12, 13, 14, 15, 16, 17, 18, 19] (Mod.refl _ _) (by kernel_rfl) (by kernel_rfl) ?_
   refine QW.cons rfl (QP.val (v := (.pointer (some ⟨b101, 1, none⟩))) rfl (fun w' hm' => x_fieldAddr (fsz := 1) 0 1 1 U62 rfl Try_T2 rfl rfl rfl) ?_)
   refine QW.cons rfl (QP.val (v := (.int .i64 x93.Pace)) rfl (fun w' hm' => x_load1 U2 rfl rfl ((hL.call hm').cellB 0 rfl rfl)) ?_)
   refine QW.cons rfl (QP.val (v := (.pointer (some ⟨b89, 1, none⟩))) rfl (fun w' hm' => x_fieldAddr (fsz := 1) 0 1 1 U62 rfl Try_T2 rfl rfl rfl) ?_)
   refine QW.cons rfl (QP.val (v := (.int .i64 x81.Pace)) rfl (fun w' hm' => x_load1 U2 rfl rfl ((hL.call hm').cellB 1 rfl rfl)) ?_)
   refine QW.cons rfl (QP.val (v := (.pointer (some ⟨b101, 1, none⟩))) rfl (fun w' hm' => x_fieldAddr (fsz := 1) 0 1 1 U62 rfl Try_T2 rfl rfl rfl) ?_)
   refine QW.cons rfl (QP.val (v := (.int .i64 x93.Pace)) rfl (fun w' hm' => x_load1 U2 rfl rfl ((hL.call hm').cellB 0 rfl rfl)) ?_)
   refine QW.cons rfl (QP.val (v := (.int .i64 (w64 (x81.Pace - x93.Pace)))) rfl (fun w' hm' => x_sub rfl rfl) ?_)
   refine QW.cons rfl (QP.val (v := (.int .i64 a1)) rfl (fun w' hm' => x_mv f76) ?_)
   refine QW.cons rfl (QP.val (v := (.pointer (some ⟨b101, 0, none⟩))) rfl (fun w' hm' => x_fieldAddr (fsz := 1) 0 0 0 U62 rfl Try_T2 rfl rfl rfl) ?_)
   refine QW.cons rfl (QP.val (v := (.int .i64 x93.Wind)) rfl (fun w' hm' => x_load1 U2 rfl rfl ((hL.call hm').cellB 0 rfl rfl)) ?_)
   refine QW.cons rfl (QP.val (v := (.int .i64 (w64 (a1 - x93.Wind)))) rfl (fun w' hm' => x_sub rfl rfl) ?_)
   refine QW.cons rfl (QP.val (v := (.int .i64 (w64 ((w64 (x81.Pace - x93.Pace)) * (w64 (a1 - x93.Wind)))))) rfl (fun w' hm' => x_mul rfl rfl) ?_)
   refine QW.cons rfl (QP.val (v := (.pointer (some ⟨b89, 0, none⟩))) rfl (fun w' hm' => x_fieldAddr (fsz := 1) 0 0 0 U62 rfl Try_T2 rfl rfl rfl) ?_)
   refine QW.cons rfl (QP.val (v := (.int .i64 x81.Wind)) rfl (fun w' hm' => x_load1 U2 rfl rfl ((hL.call hm').cellB 1 rfl rfl)) ?_)
   refine QW.cons rfl (QP.val (v := (.pointer (some ⟨b101, 0, none⟩))) rfl (fun w' hm' => x_fieldAddr (fsz := 1) 0 0 0 U62 rfl Try_T2 rfl rfl rfl) ?_)
   refine QW.cons rfl (QP.val (v := (.int .i64 x93.Wind)) rfl (fun w' hm' => x_load1 U2 rfl rfl ((hL.call hm').cellB 0 rfl rfl)) ?_)
   refine QW.cons rfl (QP.val (v := (.int .i64 (w64 (x81.Wind - x93.Wind)))) rfl (fun w' hm' => x_sub rfl rfl) ?_)
   obtain ⟨x103, hx104, hm⟩ := bndE hm
   refine QW.cons rfl (QP.call (v := (.int .i64 x103)) rfl (fun w' hm' => x_call (vs := [(.int .i64 (w64 ((w64 (x81.Pace - x93.Pace)) * (w64 (a1 - x93.Wind))))), (.int .i64 (w64 (x81.Wind - x93.Wind)))]) Try_C65 ⟨rfl, rfl, trivial⟩) (fun w' hm' => (M.impl_floorDiv_ok w' (w64 ((w64 (x81.Pace - x93.Pace)) * (w64 (a1 - x93.Wind)))) (w64 (x81.Wind - x93.Wind)) hx104).mono (fun e w'' h => ⟨h.1, hm'.trans h.2.mod⟩)) ?_)
   refine QW.cons rfl (QP.val (v := (.int .i64 (w64 (x93.Pace + x103)))) rfl (fun w' hm' => x_add rfl rfl) ?_)
   refine QW.cons rfl (QP.val (v := (.int .i64 (w64 (x93.Pace + x103)))) rfl (fun w' hm' => x_assign) ?_)
   refine QW.nil ?_
   intro wd105 hmod
   have hL := hL.call hmod
   refine DW.done (by kernel_rfl) ?_
   refine CW.ret ?_
   obtain rfl := Option.some.inj hm
   have hm := hr56 _ rfl
   obtain rfl := Option.some.inj hm
   exact RR1 rfl rfl ⟨rfl, hL.fresh 2 rfl [] (by decide) (by decide) rfl⟩
 refine CW.exit ?_
 refine XJ.hit ?_
 obtain rfl := Option.some.inj hm
 exact ⟨_, rfl, ⟨f75, f76, f77, f78, f79, hL⟩⟩

theorem M.spec_l01Floor_ok (w0 : World) (a0 : Int) (a1 : Int) {r : Int} (hm : M.spec_l01Floor a0 a1 = some r) :
    Calls Try.prog 69 #[(.int .i64 a0), (.int .i64 a1)] w0 fun e w' => e = .returned (.int .i64 r) ∧ Fresh w0 w' [] := by
 unfold M.spec_l01Floor at hm
 refine calls_CW (args := [(.int .i64 a0), (.int .i64 a1)]) Try.func69 rfl rfl rfl ?_
 have hL := Hp.start w0
 refine CSR ?_
 refine OV (.int .i64 0) rfl (x_assign) ?_
 refine ONR ?_
 refine OV (.int .i64 a0) rfl (x_move) ?_
 refine OV (.int .i64 a1) rfl (x_move) ?_
 obtain ⟨hc1, hm⟩ := chkE hm
 refine OV (.int .i64 (w64 (a0.tdiv a1))) rfl (x_quo rfl rfl hc1) ?_
 refine OV (.int .i64 (w64 (a0.tdiv a1))) rfl (x_assign) ?_
 refine OW.nil ?_
 refine CW.seqJ (fun (s_j1 : Int) (F : Fr) (w : World) => F 5 = (.int .i64 s_j1) ∧ Hp w0 [Ent.snap w0 w0.heap.size] w) (fun s_j1 => M.spec_l01Floor_j1 s_j1 = some r) ?_ ?_
 · refine CSR ?_
   refine OV (.int .i64 a0) rfl (x_move) ?_
   refine OV (.int .i64 a1) rfl (x_move) ?_
   obtain ⟨hc7, hm⟩ := chkE hm
   refine OV (.int .i64 (a0.tmod a1)) rfl (x_rem rfl rfl hc7) ?_
   refine OV (.bool (decide ((a0.tmod a1) < 0))) rfl (x_lss rfl rfl) ?_
   refine OW.nil ?_
   refine CW.condM (t := decide ((a0.tmod a1) < 0)) rfl hm (fun hb8 hm => ?_) (fun hb8 hm => ?_)
   · refine CW.regionL ?_
     refine OV (.int .i64 (w64 (a0.tdiv a1))) rfl (x_move) ?_
     refine OV (.int .i64 (w64 ((w64 (a0.tdiv a1)) - 1))) rfl (x_sub rfl rfl) ?_
     refine OV (.int .i64 (w64 ((w64 (a0.tdiv a1)) - 1))) rfl (x_assign) ?_
     refine OW.nil ?_
     exact ⟨w64 ((w64 (a0.tdiv a1)) - 1), hm, ⟨rfl, hL⟩⟩
   refine CW.skip ?_
   exact ⟨w64 (a0.tdiv a1), hm, ⟨rfl, hL⟩⟩
 intro s_j1 F4 wd5 hJ hm
 unfold M.spec_l01Floor_j1 at hm
 obtain ⟨f6, hL⟩ := hJ
 refine CSR ?_
 refine OV (.int .i64 s_j1) rfl (x_mv f6) ?_
 refine OV (.int .i64 s_j1) rfl (x_assign) ?_
 refine OW.nil ?_
 refine CW.ret ?_
 obtain rfl := Option.some.inj hm
 exact RR1 rfl rfl ⟨rfl, hL.fresh 0 rfl [] (by decide) (by decide) rfl⟩

theorem M.spec_l24Pace_ok (w0 : World) (a0 : List CurvePoint) {v1 : Value} (h2 : rdL (· < w0.heap.size) w0 v1 a0) (a1 : Int) {r : Int} (hm : M.spec_l24Pace a0 a1 = some r) :
    Calls Try.prog 62 #[v1, (.int .i64 a1)] w0 fun e w' => e = .returned (.int .i64 r) ∧ Fresh w0 w' [] := by
 unfold M.spec_l24Pace at hm
 refine calls_CW (args := [v1, (.int .i64 a1)]) Try.func62 rfl rfl rfl ?_
 have hL := Hp.start w0
 refine CSR ?_
 refine OV (.int .i64 0) rfl (x_assign) ?_
 refine ONS ?_
 refine CSR ?_
 refine OV (.int .i64 a1) rfl (x_move) ?_
 refine OV v1 rfl (x_move) ?_
 obtain ⟨x3, ha4, hm⟩ := bndE hm
 obtain ⟨hz5, ha9⟩ := idxE ha4
 obtain ⟨b6, q7, hix8⟩ := rdL_ix (hL.rdS 0 rfl h2) hz5 ha9
 refine OV (.pointer (some ⟨b6, q7, none⟩)) rfl (x_ix U34 Try_T62 rfl rfl hix8) ?_
 refine OV (.pointer (some ⟨b6, q7, none⟩)) rfl (x_fieldAddr (fsz := 1) q7 0 q7 U62 rfl Try_T2 rfl rfl rfl) ?_
 refine OV (.int .i64 x3.Wind) rfl (x_load1 U2 rfl rfl (rdF_cells (hL.rdS 0 rfl h2) hix8 ha9 0 _ rfl)) ?_
 refine OV (.bool (decide (a1 ≤ x3.Wind))) rfl (x_leq rfl rfl) ?_
 refine OW.nil ?_
 refine CW.condM (t := decide (a1 ≤ x3.Wind)) rfl hm (fun hb10 hm => ?_) (fun hb10 hm => ?_)
 · refine CSR ?_
   refine OV v1 rfl (x_move) ?_
   obtain ⟨x11, ha12, hm⟩ := bndE hm
   obtain ⟨hz13, ha17⟩ := idxE ha12
   obtain ⟨b14, q15, hix16⟩ := rdL_ix (hL.rdS 0 rfl h2) hz13 ha17
   refine OV (.pointer (some ⟨b14, q15, none⟩)) rfl (x_ix U34 Try_T62 rfl rfl hix16) ?_
   refine OV (.pointer (some ⟨b14, q15 + 1, none⟩)) rfl (x_fieldAddr (fsz := 1) q15 1 (q15 + 1) U62 rfl Try_T2 rfl rfl rfl) ?_
   refine OV (.int .i64 x11.Pace) rfl (x_load1 U2 rfl rfl (rdF_cells (hL.rdS 0 rfl h2) hix16 ha17 1 _ rfl)) ?_
   refine OV (.int .i64 x11.Pace) rfl (x_assign) ?_
   refine OW.nil ?_
   refine CW.ret ?_
   obtain rfl := Option.some.inj hm
   exact RR1 rfl rfl ⟨rfl, hL.fresh 0 rfl [] (by decide) (by decide) rfl⟩
 refine CW.skip ?_
 refine CW.seq ?_
 refine CSR ?_
 refine OV (.int .i64 1) rfl (x_assign) ?_
 refine OW.nil ?_
 obtain ⟨o134, ho135, hm⟩ := bndE hm
 refine CW.loopB (fun (s_l1 : Int) (F : Fr) (w : World) => F 0 = v1 ∧ F 1 = (.int .i64 a1) ∧ F 5 = (.int .i64 s_l1) ∧ Hp w0 [Ent.snap w0 w0.heap.size] w) (fun o => outc o (fun x => some x) (fun s => M.spec_l24Pace_a1 a0 s) = some r) ho135 hm ⟨rfl, rfl, rfl, hL⟩ ?_ ?_
 · intro s_l1 F136 wd137 hJ hm
   have hm := outcE hm
   have hm : M.spec_l24Pace_a1 a0 s_l1 = some r := hm
   unfold M.spec_l24Pace_a1 at hm
   obtain ⟨f138, f139, f140, hL⟩ := hJ
   refine CSR ?_
   refine OV v1 rfl (x_mv f138) ?_
   refine OV v1 rfl (x_mv f138) ?_
   refine OV (.int .i64 (a0.length : Int)) rfl (x_lenR U34 rfl (hL.rdS 0 rfl h2)) ?_
   refine OV (.int .i64 (w64 ((a0.length : Int) - 1))) rfl (x_sub rfl rfl) ?_
   obtain ⟨x141, ha142, hm⟩ := bndE hm
   obtain ⟨hz143, ha147⟩ := idxE ha142
   obtain ⟨b144, q145, hix146⟩ := rdL_ix (hL.rdS 0 rfl h2) hz143 ha147
   refine OV (.pointer (some ⟨b144, q145, none⟩)) rfl (x_ix U34 Try_T62 rfl rfl hix146) ?_
   refine OV (.pointer (some ⟨b144, q145 + 1, none⟩)) rfl (x_fieldAddr (fsz := 1) q145 1 (q145 + 1) U62 rfl Try_T2 rfl rfl rfl) ?_
   refine OV (.int .i64 x141.Pace) rfl (x_load1 U2 rfl rfl (rdF_cells (hL.rdS 0 rfl h2) hix146 ha147 1 _ rfl)) ?_
   refine OV (.int .i64 x141.Pace) rfl (x_assign) ?_
   refine OW.nil ?_
   refine CW.ret ?_
   obtain rfl := Option.some.inj hm
   exact RR1 rfl rfl ⟨rfl, hL.fresh 0 rfl [] (by decide) (by decide) rfl⟩
 intro s_l1 F148 wd149 t132 hJ hm hr133
 unfold M.spec_l24Pace_l1 at hm
 obtain ⟨f150, f151, f152, hL⟩ := hJ
 refine CW.seq ?_
 refine CSR ?_
 refine OV (.int .i64 s_l1) rfl (x_mv f152) ?_
 refine OV v1 rfl (x_mv f150) ?_
 refine OV (.int .i64 (a0.length : Int)) rfl (x_lenR U34 rfl (hL.rdS 0 rfl h2)) ?_
 refine OV (.bool (decide (s_l1 < (a0.length : Int)))) rfl (x_lss rfl rfl) ?_
 refine OW.nil ?_
 refine CW.condM (t := decide (s_l1 < (a0.length : Int))) rfl hm (fun hb153 hm => ?_) (fun hb153 hm => ?_)
 · refine CW.skip ?_
   refine CW.seq ?_
   refine CW.block ?_
   refine CW.seq ?_
   refine CW.drawH (fun w' => Hp w0 [Ent.snap w0 w0.heap.size] w') Try_mixed ?_
   have hL := hL.call (Mod.drew _)
   have hS := (hL.sel [0] (by decide) rfl)
   refine DH.take 0 rfl (by kernel_rfl) (by kernel_rfl) (by kernel_rfl) rfl rfl hS (YH.val (v := v1) (fun w' hS' => x_mv f150)) ?_
   have hS := (hL.sel [0] (by decide) rfl)
   refine DH.take 1 rfl (by kernel_rfl) (by kernel_rfl) (by kernel_rfl) rfl rfl hS (YH.val (v := (.int .i64 s_l1)) (fun w' hS' => x_mv f152)) ?_
   have hS := (hL.sel [0] (by decide) rfl)
   refine DH.take 2 rfl (by kernel_rfl) (by kernel_rfl) (by kernel_rfl) rfl rfl hS (YH.val (v := (.int .i64 (w64 (s_l1 - 1)))) (fun w' hS' => x_sub rfl rfl)) ?_
   have hS := (hL.sel [0] (by decide) rfl)
   obtain ⟨x174, ha175, hm⟩ := bndE hm
   obtain ⟨hz176, ha180⟩ := idxE ha175
   obtain ⟨b177, q178, hix179⟩ := rdL_ix (hL.rdS 0 rfl h2) hz176 ha180
   refine DH.take 3 rfl (by kernel_rfl) (by kernel_rfl) (by kernel_rfl) rfl rfl hS (YH.val (v := (.pointer (some ⟨b177, q178, none⟩))) (fun w' hS' => x_ix U34 Try_T62 rfl rfl hix179)) ?_
   have hS := (hL.sel [0] (by decide) rfl)
   refine DH.take 4 rfl (by kernel_rfl) (by kernel_rfl) (by kernel_rfl) rfl rfl hS (YH.val (v := (.agg #[(.int .i64 x174.Wind), (.int .i64 x174.Pace)])) (fun w' hS' => x_loadN (cs := [(.int .i64 x174.Wind), (.int .i64 x174.Pace)]) U62 Try_T62 rfl rfl (rdF_cells (hS'.rdS 0 rfl h2) hix179 ha180))) ?_
   have hS := (hL.sel [0] (by decide) rfl)
   refine DH.take 5 rfl (by kernel_rfl) (by kernel_rfl) (by kernel_rfl) rfl rfl hS (YH.val (v := v1) (fun w' hS' => x_mv f150)) ?_
   have hS := (hL.sel [0] (by decide) rfl)
   refine DH.take 6 rfl (by kernel_rfl) (by kernel_rfl) (by kernel_rfl) rfl rfl hS (YH.val (v := (.int .i64 s_l1)) (fun w' hS' => x_mv f152)) ?_
   have hS := (hL.sel [0] (by decide) rfl)
   obtain ⟨x181, ha182, hm⟩ := bndE hm
   obtain ⟨hz183, ha187⟩ := idxE ha182
   obtain ⟨b184, q185, hix186⟩ := rdL_ix (hL.rdS 0 rfl h2) hz183 ha187
   refine DH.take 7 rfl (by kernel_rfl) (by kernel_rfl) (by kernel_rfl) rfl rfl hS (YH.val (v := (.pointer (some ⟨b184, q185, none⟩))) (fun w' hS' => x_ix U34 Try_T62 rfl rfl hix186)) ?_
   have hS := (hL.sel [0] (by decide) rfl)
   refine DH.take 8 rfl (by kernel_rfl) (by kernel_rfl) (by kernel_rfl) rfl rfl hS (YH.val (v := (.agg #[(.int .i64 x181.Wind), (.int .i64 x181.Pace)])) (fun w' hS' => x_loadN (cs := [(.int .i64 x181.Wind), (.int .i64 x181.Pace)]) U62 Try_T62 rfl rfl (rdF_cells (hS'.rdS 0 rfl h2) hix186 ha187))) ?_
   refine DH.all (rs := [9, 10]) (by kernel_rfl) (by simp) ?_
   intro i188 hi189
   simp only [List.mem_cons, List.not_mem_nil, or_false] at hi189
   rcases hi189 with rfl | rfl
   · refine ⟨_, rfl, ?_⟩
     refine S_alloc (cs := #[(.int .i64 0), (.int .i64 0)]) hL Try_T62 rfl rfl ?_
     intro wd190 b191 hL
     refine ⟨(hL.sel [1] (by decide) rfl), ?_⟩
     refine DH.only 10 rfl (by kernel_rfl) (S_alloc (cs := #[(.int .i64 0), (.int .i64 0)]) hL Try_T62 rfl rfl ?_)
     intro wd192 b193 hL
     refine ⟨(hL.sel [2] (by decide) rfl), ?_⟩
     refine DH.only 11 rfl (by kernel_rfl) (S_storeN (l := [(.int .i64 x174.Wind), (.int .i64 x174.Pace)]) (cs' := #[(.int .i64 x174.Wind), (.int .i64 x174.Pace)]) hL 1 rfl Try_T62 rfl rfl (List.forall_mem_cons.2 ⟨rfl, (List.forall_mem_cons.2 ⟨rfl, (fun _ h => by cases h)⟩)⟩) rfl (Nat.le_of_ble_eq_true rfl) rfl ?_)
     intro wd194 hL
     refine ⟨(hL.sel [2] (by decide) rfl), ?_⟩
     refine DH.only 12 rfl (by kernel_rfl) (S_storeN (l := [(.int .i64 x181.Wind), (.int .i64 x181.Pace)]) (cs' := #[(.int .i64 x181.Wind), (.int .i64 x181.Pace)]) hL 0 rfl Try_T62 rfl rfl (List.forall_mem_cons.2 ⟨rfl, (List.forall_mem_cons.2 ⟨rfl, (fun _ h => by cases h)⟩)⟩) rfl (Nat.le_of_ble_eq_true rfl) rfl ?_)
     intro wd195 hL
     refine ⟨(hL.sel [2] (by decide) rfl), ?_⟩
     refine DH.done (by kernel_rfl) ?_
     refine CSR ?_
     refine OV (.int .i64 a1) rfl (x_mv f151) ?_
     refine OV (.pointer (some ⟨b193, 0, none⟩)) rfl (x_fieldAddr (fsz := 1) 0 0 0 U62 rfl Try_T2 rfl rfl rfl) ?_
     refine OV (.int .i64 x181.Wind) rfl (x_load1 U2 rfl rfl (hL.cellB 0 rfl rfl)) ?_
     refine OV (.bool (decide (a1 ≤ x181.Wind))) rfl (x_leq rfl rfl) ?_
     refine OW.nil ?_
     refine CW.condM (t := decide (a1 ≤ x181.Wind)) rfl hm (fun hb196 hm => ?_) (fun hb196 hm => ?_)
     · refine CW.seq ?_
       refine CW.draw Try_mixed ?_
       have hL := hL.call (Mod.drew _)
       refine DW.pre (fuel := 0) (fin := bma 20 1048575) (C := fun w' => Mod None_ _ w') [0, 1, 2, 3, 4, 5, 6, 7, 8, 9, 10, 11, 12, 13, 14, 15, 16, 17, 18, 19] (Mod.refl _ _) (by kernel_rfl) (by kernel_rfl) ?_
       refine QW.cons rfl (QP.val (v := (.pointer (some ⟨b191, 1, none⟩))) rfl (fun w' hm' => x_fieldAddr (fsz := 1) 0 1 1 U62 rfl Try_T2 rfl rfl rfl) ?_)
       refine QW.cons rfl (QP.val (v := (.int .i64 x174.Pace)) rfl (fun w' hm' => x_load1 U2 rfl rfl ((hL.call hm').cellB 1 rfl rfl)) ?_)
       refine QW.cons rfl (QP.val (v := (.pointer (some ⟨b193, 1, none⟩))) rfl (fun w' hm' => x_fieldAddr (fsz := 1) 0 1 1 U62 rfl Try_T2 rfl rfl rfl) ?_)
       refine QW.cons rfl (QP.val (v := (.int .i64 x181.Pace)) rfl (fun w' hm' => x_load1 U2 rfl rfl ((hL.call hm').cellB 0 rfl rfl)) ?_)
       refine QW.cons rfl (QP.val (v := (.pointer (some ⟨b191, 1, none⟩))) rfl (fun w' hm' => x_fieldAddr (fsz := 1) 0 1 1 U62 rfl Try_T2 rfl rfl rfl) ?_)
       refine QW.cons rfl (QP.val (v := (.int .i64 x174.Pace)) rfl (fun w' hm' => x_load1 U2 rfl rfl ((hL.call hm').cellB 1 rfl rfl)) ?_)
       refine QW.cons rfl (QP.val (v := (.int .i64 (w64 (x181.Pace - x174.Pace)))) rfl (fun w' hm' => x_sub rfl rfl) ?_)
       refine QW.cons rfl (QP.val (v := (.int .i64 a1)) rfl (fun w' hm' => x_mv f151) ?_)
       refine QW.cons rfl (QP.val (v := (.pointer (some ⟨b191, 0, none⟩))) rfl (fun w' hm' => x_fieldAddr (fsz := 1) 0 0 0 U62 rfl Try_T2 rfl rfl rfl) ?_)
       refine QW.cons rfl (QP.val (v := (.int .i64 x174.Wind)) rfl (fun w' hm' => x_load1 U2 rfl rfl ((hL.call hm').cellB 1 rfl rfl)) ?_)
       refine QW.cons rfl (QP.val (v := (.int .i64 (w64 (a1 - x174.Wind)))) rfl (fun w' hm' => x_sub rfl rfl) ?_)
       refine QW.cons rfl (QP.val (v := (.int .i64 (w64 ((w64 (x181.Pace - x174.Pace)) * (w64 (a1 - x174.Wind)))))) rfl (fun w' hm' => x_mul rfl rfl) ?_)
       refine QW.cons rfl (QP.val (v := (.pointer (some ⟨b193, 0, none⟩))) rfl (fun w' hm' => x_fieldAddr (fsz := 1) 0 0 0 U62 rfl Try_T2 rfl rfl rfl) ?_)
       refine QW.cons rfl (QP.val (v := (.int .i64 x181.Wind)) rfl (fun w' hm' => x_load1 U2 rfl rfl ((hL.call hm').cellB 0 rfl rfl)) ?_)
       refine QW.cons rfl (QP.val (v := (.pointer (some ⟨b191, 0, none⟩))) rfl (fun w' hm' => x_fieldAddr (fsz := 1) 0 0 0 U62 rfl Try_T2 rfl rfl rfl) ?_)
       refine QW.cons rfl (QP.val (v := (.int .i64 x174.Wind)) rfl (fun w' hm' => x_load1 U2 rfl rfl ((hL.call hm').cellB 1 rfl rfl)) ?_)
       refine QW.cons rfl (QP.val (v := (.int .i64 (w64 (x181.Wind - x174.Wind)))) rfl (fun w' hm' => x_sub rfl rfl) ?_)
       obtain ⟨x197, hx198, hm⟩ := bndE hm
       refine QW.cons rfl (QP.call (v := (.int .i64 x197)) rfl (fun w' hm' => x_call (vs := [(.int .i64 (w64 ((w64 (x181.Pace - x174.Pace)) * (w64 (a1 - x174.Wind))))), (.int .i64 (w64 (x181.Wind - x174.Wind)))]) Try_C69 ⟨rfl, rfl, trivial⟩) (fun w' hm' => (M.spec_l01Floor_ok w' (w64 ((w64 (x181.Pace - x174.Pace)) * (w64 (a1 - x174.Wind)))) (w64 (x181.Wind - x174.Wind)) hx198).mono (fun e w'' h => ⟨h.1, hm'.trans h.2.mod⟩)) ?_)
       refine QW.cons rfl (QP.val (v := (.int .i64 (w64 (x174.Pace + x197)))) rfl (fun w' hm' => x_add rfl rfl) ?_)
       refine QW.cons rfl (QP.val (v := (.int .i64 (w64 (x174.Pace + x197)))) rfl (fun w' hm' => x_assign) ?_)
       refine QW.nil ?_
       intro wd199 hmod
       have hL := hL.call hmod
       refine DW.done (by kernel_rfl) ?_
       refine CW.ret ?_
       obtain rfl := Option.some.inj hm
       have hm := hr133 _ rfl
       obtain rfl := Option.some.inj hm
       exact RR1 rfl rfl ⟨rfl, hL.fresh 2 rfl [] (by decide) (by decide) rfl⟩
     refine CW.skip ?_
     refine CW.regionL ?_
     refine OV (.int .i64 s_l1) rfl (x_mv f152) ?_
     refine OV (.int .i64 (w64 (s_l1 + 1))) rfl (x_add rfl rfl) ?_
     refine OV (.int .i64 (w64 (s_l1 + 1))) rfl (x_assign) ?_
     refine OW.nil ?_
     have hL := hL.sel [2] (by decide) rfl
     obtain rfl := Option.some.inj hm
     exact ⟨_, rfl, ⟨f150, f151, rfl, hL⟩⟩
   refine ⟨_, rfl, ?_⟩
   refine S_alloc (cs := #[(.int .i64 0), (.int .i64 0)]) hL Try_T62 rfl rfl ?_
   intro wd200 b201 hL
   refine ⟨(hL.sel [1] (by decide) rfl), ?_⟩
   refine DH.only 9 rfl (by kernel_rfl) (S_alloc (cs := #[(.int .i64 0), (.int .i64 0)]) hL Try_T62 rfl rfl ?_)
   intro wd202 b203 hL
   refine ⟨(hL.sel [2] (by decide) rfl), ?_⟩
   refine DH.only 11 rfl (by kernel_rfl) (S_storeN (l := [(.int .i64 x174.Wind), (.int .i64 x174.Pace)]) (cs' := #[(.int .i64 x174.Wind), (.int .i64 x174.Pace)]) hL 0 rfl Try_T62 rfl rfl (List.forall_mem_cons.2 ⟨rfl, (List.forall_mem_cons.2 ⟨rfl, (fun _ h => by cases h)⟩)⟩) rfl (Nat.le_of_ble_eq_true rfl) rfl ?_)
   intro wd204 hL
   refine ⟨(hL.sel [2] (by decide) rfl), ?_⟩
   refine DH.only 12 rfl (by kernel_rfl) (S_storeN (l := [(.int .i64 x181.Wind), (.int .i64 x181.Pace)]) (cs' := #[(.int .i64 x181.Wind), (.int .i64 x181.Pace)]) hL 1 rfl Try_T62 rfl rfl (List.forall_mem_cons.2 ⟨rfl, (List.forall_mem_cons.2 ⟨rfl, (fun _ h => by cases h)⟩)⟩) rfl (Nat.le_of_ble_eq_true rfl) rfl ?_)
   intro wd205 hL
   refine ⟨(hL.sel [2] (by decide) rfl), ?_⟩
   refine DH.done (by kernel_rfl) ?_
   refine CSR ?_
   refine OV (.int .i64 a1) rfl (x_mv f151) ?_
   refine OV (.pointer (some ⟨b201, 0, none⟩)) rfl (x_fieldAddr (fsz := 1) 0 0 0 U62 rfl Try_T2 rfl rfl rfl) ?_
   refine OV (.int .i64 x181.Wind) rfl (x_load1 U2 rfl rfl (hL.cellB 1 rfl rfl)) ?_
   refine OV (.bool (decide (a1 ≤ x181.Wind))) rfl (x_leq rfl rfl) ?_
   refine OW.nil ?_
   refine CW.condM (t := decide (a1 ≤ x181.Wind)) rfl hm (fun hb206 hm => ?_) (fun hb206 hm => ?_)
   · refine CW.seq ?_
     refine CW.draw Try_mixed ?_
     have hL := hL.call (Mod.drew _)
     refine DW.pre (fuel := 0) (fin := bma 20 1048575) (C := fun w' => Mod None_ _ w') [0, 1, 2, 3, 4, 5, 6, 7, 8, 9, 10, 11, 12, 13, 14, 15, 16, 17, 18, 19] (Mod.refl _ _) (by kernel_rfl) (by kernel_rfl) ?_
     refine QW.cons rfl (QP.val (v := (.pointer (some ⟨b203, 1, none⟩))) rfl (fun w' hm' => x_fieldAddr (fsz := 1) 0 1 1 U62 rfl Try_T2 rfl rfl rfl) ?_)
     refine QW.cons rfl (QP.val (v := (.int .i64 x174.Pace)) rfl (fun w' hm' => x_load1 U2 rfl rfl ((hL.call hm').cellB 0 rfl rfl)) ?_)
     refine QW.cons rfl (QP.val (v := (.pointer (some ⟨b201, 1, none⟩))) rfl (fun w' hm' => x_fieldAddr (fsz := 1) 0 1 1 U62 rfl Try_T2 rfl rfl rfl) ?_)
     refine QW.cons rfl (QP.val (v := (.int .i64 x181.Pace)) rfl (fun w' hm' => x_load1 U2 rfl rfl ((hL.call hm').cellB 1 rfl rfl)) ?_)
     refine QW.cons rfl (QP.val (v := (.pointer (some ⟨b203, 1, none⟩))) rfl (fun w' hm' => x_fieldAddr (fsz := 1) 0 1 1 U62 rfl Try_T2 rfl rfl rfl) ?_)
     refine QW.cons rfl (QP.val (v := (.int .i64 x174.Pace)) rfl (fun w' hm' => x_load1 U2 rfl rfl ((hL.call hm').cellB 0 rfl rfl)) ?_)
     refine QW.cons rfl (QP.val (v := (.int .i64 (w64 (x181.Pace - x174.Pace)))) rfl (fun w' hm' => x_sub rfl rfl) ?_)
     refine QW.cons rfl (QP.val (v := (.int .i64 a1)) rfl (fun w' hm' => x_mv f151) ?_)
     refine QW.cons rfl (QP.val (v := (.pointer (some ⟨b203, 0, none⟩))) rfl (fun w' hm' => x_fieldAddr (fsz := 1) 0 0 0 U62 rfl Try_T2 rfl rfl rfl) ?_)
     refine QW.cons rfl (QP.val (v := (.int .i64 x174.Wind)) rfl (fun w' hm' => x_load1 U2 rfl rfl ((hL.call hm').cellB 0 rfl rfl)) ?_)
     refine QW.cons rfl (QP.val (v := (.int .i64 (w64 (a1 - x174.Wind)))) rfl (fun w' hm' => x_sub rfl rfl) ?_)
     refine QW.cons rfl (QP.val (v := (.int .i64 (w64 ((w64 (x181.Pace - x174.Pace)) * (w64 (a1 - x174.Wind)))))) rfl (fun w' hm' => x_mul rfl rfl) ?_)
     refine QW.cons rfl (QP.val (v := (.pointer (some ⟨b201, 0, none⟩))) rfl (fun w' hm' => x_fieldAddr (fsz := 1) 0 0 0 U62 rfl Try_T2 rfl rfl rfl) ?_)
     refine QW.cons rfl (QP.val (v := (.int .i64 x181.Wind)) rfl (fun w' hm' => x_load1 U2 rfl rfl ((hL.call hm').cellB 1 rfl rfl)) ?_)
     refine QW.cons rfl (QP.val (v := (.pointer (some ⟨b203, 0, none⟩))) rfl (fun w' hm' => x_fieldAddr (fsz := 1) 0 0 0 U62 rfl Try_T2 rfl rfl rfl) ?_)
     refine QW.cons rfl (QP.val (v := (.int .i64 x174.Wind)) rfl (fun w' hm' => x_load1 U2 rfl rfl ((hL.call hm').cellB 0 rfl rfl)) ?_)
     refine QW.cons rfl (QP.val (v := (.int .i64 (w64 (x181.Wind - x174.Wind)))) rfl (fun w' hm' => x_sub rfl rfl) ?_)
     obtain ⟨x207, hx208, hm⟩ := bndE hm
     refine QW.cons rfl (QP.call (v := (.int .i64 x207)) rfl (fun w' hm' => x_call (vs := [(.int .i64 (w64 ((w64 (x181.Pace - x174.Pace)) * (w64 (a1 - x174.Wind))))), (.int .i64 (w64 (x181.Wind - x174.Wind)))]) Try_C69 ⟨rfl, rfl, trivial⟩) (fun w' hm' => (M.spec_l01Floor_ok w' (w64 ((w64 (x181.Pace - x174.Pace)) * (w64 (a1 - x174.Wind)))) (w64 (x181.Wind - x174.Wind)) hx208).mono (fun e w'' h => ⟨h.1, hm'.trans h.2.mod⟩)) ?_)
     refine QW.cons rfl (QP.val (v := (.int .i64 (w64 (x174.Pace + x207)))) rfl (fun w' hm' => x_add rfl rfl) ?_)
     refine QW.cons rfl (QP.val (v := (.int .i64 (w64 (x174.Pace + x207)))) rfl (fun w' hm' => x_assign) ?_)
     refine QW.nil ?_
     intro wd209 hmod
     have hL := hL.call hmod
     refine DW.done (by kernel_rfl) ?_
     refine CW.ret ?_
     obtain rfl := Option.some.inj hm
     have hm := hr133 _ rfl
     obtain rfl := Option.some.inj hm
     exact RR1 rfl rfl ⟨rfl, hL.fresh 2 rfl [] (by decide) (by decide) rfl⟩
   refine CW.skip ?_
   refine CW.regionL ?_
   refine OV (.int .i64 s_l1) rfl (x_mv f152) ?_
   refine OV (.int .i64 (w64 (s_l1 + 1))) rfl (x_add rfl rfl) ?_
   refine OV (.int .i64 (w64 (s_l1 + 1))) rfl (x_assign) ?_
   refine OW.nil ?_
   have hL := hL.sel [2] (by decide) rfl
   obtain rfl := Option.some.inj hm
   exact ⟨_, rfl, ⟨f150, f151, rfl, hL⟩⟩
 refine CW.exit ?_
 refine XJ.hit ?_
 obtain rfl := Option.some.inj hm
 exact ⟨_, rfl, ⟨f150, f151, f152, hL⟩⟩

theorem M.laws_szCurvePointS_ok (w0 : World) (a0 : List CurvePoint) {v1 : Value} (h2 : rdL (· < w0.heap.size) w0 v1 a0) (a1 : Int) {r : Int} (hm : M.laws_szCurvePointS a0 a1 = some r) :
    Calls Try.prog 20 #[v1, (.int .i64 a1)] w0 fun e w' => e = .returned (.int .i64 r) ∧ Fresh w0 w' [] := by
 unfold M.laws_szCurvePointS at hm
 refine calls_CW (args := [v1, (.int .i64 a1)]) Try.func20 rfl rfl rfl ?_
 have hL := Hp.start w0
 refine CSR ?_
 refine OV (.int .i64 0) rfl (x_assign) ?_
 refine ONR ?_
 refine OV (.int .i64 a1) rfl (x_move) ?_
 refine OV v1 rfl (x_move) ?_
 refine OV (.int .i64 (a0.length : Int)) rfl (x_lenR U46 rfl (hL.rdS 0 rfl h2)) ?_
 refine OV (.int .i64 (w64 (a1 - (a0.length : Int)))) rfl (x_sub rfl rfl) ?_
 refine OV (.int .i64 (w64 (a1 - (a0.length : Int)))) rfl (x_assign) ?_
 refine ONS ?_
 refine CSR ?_
 refine OV (.int .i64 (w64 (a1 - (a0.length : Int)))) rfl (x_move) ?_
 refine OV (.bool (decide ((w64 (a1 - (a0.length : Int))) < 0))) rfl (x_lss rfl rfl) ?_
 refine OW.nil ?_
 refine CW.condM (t := decide ((w64 (a1 - (a0.length : Int))) < 0)) rfl hm (fun hb3 hm => ?_) (fun hb3 hm => ?_)
 · refine CSR ?_
   refine OV (.int .i64 (-1)) rfl (x_assign) ?_
   refine OW.nil ?_
   refine CW.ret ?_
   obtain rfl := Option.some.inj hm
   exact RR1 rfl rfl ⟨rfl, hL.fresh 0 rfl [] (by decide) (by decide) rfl⟩
 refine CW.skip ?_
 refine CSR ?_
 refine OV (.int .i64 (w64 (a1 - (a0.length : Int)))) rfl (x_move) ?_
 refine OV (.int .i64 (w64 (a1 - (a0.length : Int)))) rfl (x_assign) ?_
 refine OW.nil ?_
 refine CW.ret ?_
 obtain rfl := Option.some.inj hm
 exact RR1 rfl rfl ⟨rfl, hL.fresh 0 rfl [] (by decide) (by decide) rfl⟩

theorem M.laws_toCurvePoint_ok (w0 : World) (a0 : CurvePoint) {r : CurvePoint} (hm : M.laws_toCurvePoint a0 = some r) :
    Calls Try.prog 48 #[(.agg #[(.int .i64 a0.Wind), (.int .i64 a0.Pace)])] w0 fun e w' => e = .returned (.agg #[(.int .i64 r.Wind), (.int .i64 r.Pace)]) ∧ Fresh w0 w' [] := by
 unfold M.laws_toCurvePoint at hm
 refine calls_CW (args := [(.agg #[(.int .i64 a0.Wind), (.int .i64 a0.Pace)])]) Try.func48 rfl rfl rfl ?_
 have hL := Hp.start w0
 refine CSR ?_
 refine OW.cons (S_box (cs := #[(.int .i64 a0.Wind), (.int .i64 a0.Pace)]) hL rfl rfl rfl ?_)
 intro wd1 b2 hL
 refine OW.cons (S_alloc (cs := #[(.int .i64 0), (.int .i64 0)]) hL Try_T62 rfl rfl ?_)
 intro wd3 b4 hL
 refine ONR ?_
 refine OW.cons (S_alloc (cs := #[(.int .i64 0), (.int .i64 0)]) hL Try_T62 rfl rfl ?_)
 intro wd5 b6 hL
 refine ONR ?_
 refine OV (.pointer (some ⟨b2, 0, none⟩)) rfl (x_fieldAddr (fsz := 1) 0 0 0 U75 rfl Try_T2 rfl rfl rfl) ?_
 refine OV (.int .i64 a0.Wind) rfl (x_load1 U2 rfl rfl (hL.cellB 2 rfl rfl)) ?_
 refine OV (.pointer (some ⟨b6, 0, none⟩)) rfl (x_fieldAddr (fsz := 1) 0 0 0 U62 rfl Try_T2 rfl rfl rfl) ?_
 refine OW.cons (S_store (cs' := #[(.int .i64 a0.Wind), (.int .i64 0)]) hL 0 rfl Try_T2 rfl rfl rfl rfl rfl ?_)
 intro wd7 hL
 refine ONR ?_
 refine OV (.pointer (some ⟨b2, 1, none⟩)) rfl (x_fieldAddr (fsz := 1) 0 1 1 U75 rfl Try_T2 rfl rfl rfl) ?_
 refine OV (.int .i64 a0.Pace) rfl (x_load1 U2 rfl rfl (hL.cellB 2 rfl rfl)) ?_
 refine OV (.pointer (some ⟨b6, 1, none⟩)) rfl (x_fieldAddr (fsz := 1) 0 1 1 U62 rfl Try_T2 rfl rfl rfl) ?_
 refine OW.cons (S_store (cs' := #[(.int .i64 a0.Wind), (.int .i64 a0.Pace)]) hL 0 rfl Try_T2 rfl rfl rfl rfl rfl ?_)
 intro wd8 hL
 refine ONR ?_
 refine OV (.agg #[(.int .i64 a0.Wind), (.int .i64 a0.Pace)]) rfl (x_loadN (cs := [(.int .i64 a0.Wind), (.int .i64 a0.Pace)]) U62 Try_T62 rfl rfl (hL.cellsB 0 rfl (o := 0) (l := [(.int .i64 a0.Wind), (.int .i64 a0.Pace)]) (by intro j u hj; exact (by simpa using hj)))) ?_
 refine OW.cons (S_storeN (l := [(.int .i64 a0.Wind), (.int .i64 a0.Pace)]) (cs' := #[(.int .i64 a0.Wind), (.int .i64 a0.Pace)]) hL 1 rfl Try_T62 rfl rfl (List.forall_mem_cons.2 ⟨rfl, (List.forall_mem_cons.2 ⟨rfl, (fun _ h => by cases h)⟩)⟩) rfl (Nat.le_of_ble_eq_true rfl) rfl ?_)
 intro wd9 hL
 refine OW.nil ?_
 refine CW.ret ?_
 obtain rfl := Option.some.inj hm
 exact RRc rfl rfl (run_loadBlk U62 Try_T62 (hL.get 1 rfl) rfl) ⟨rfl, hL.fresh 3 rfl [] (by decide) (by decide) rfl⟩

theorem M.laws_toCurvePointS_ok (w0 : World) (a0 : List CurvePoint) {v1 : Value} (h2 : rdL (· < w0.heap.size) w0 v1 a0) {r : (List CurvePoint)} (hm : M.laws_toCurvePointS a0 = some r) :
    Calls Try.prog 22 #[v1] w0 fun e w' => ∃ (rv0 : Value) (rS0 : Nat → Prop), e = .returned rv0 ∧ Fresh w0 w' [Ent.own 62 rS0 rv0 r] := by
 unfold M.laws_toCurvePointS at hm
 refine calls_CW (args := [v1]) Try.func22 rfl rfl rfl ?_
 have hL := Hp.start w0
 refine CSR ?_
 refine OV (.slice none 0 0) rfl (x_assign) ?_
 refine ONR ?_
 refine OV v1 rfl (x_move) ?_
 refine OV (.int .i64 (a0.length : Int)) rfl (x_lenR U46 rfl (hL.rdS 0 rfl h2)) ?_
 obtain ⟨hc6, hm⟩ := chkE hm
 refine OW.cons (S_make (α := CurvePoint) (CurvePoint.mk 0 0) hL U34 Try_T62 rfl rfl rfl hc6 (by decide) rfl ?_)
 intro wd3 v4 S5 hL
 refine OV v4 rfl (x_assign) ?_
 refine ONS ?_
 refine CSR ?_
 refine OV (.int .i64 0) rfl (x_assign) ?_
 refine OW.nil ?_
 obtain ⟨o53, ho54, hm⟩ := bndE hm
 refine CW.loopB (fun (s_l1 : (List CurvePoint) × Int) (F : Fr) (w : World) => ∃ (S50 : Nat → Prop), F 0 = v1 ∧ F 3 = v4 ∧ F 4 = (.int .i64 s_l1.2) ∧ Hp w0 [Ent.own 62 S50 v4 s_l1.1, Ent.snap w0 w0.heap.size] w) (fun o => outc o (fun x => some x) (fun s => M.laws_toCurvePointS_a1 s) = some r) ho54 hm ⟨S5, rfl, rfl, rfl, hL⟩ ?_ ?_
 · intro s_l1 F55 wd56 hJ hm
   have hm := outcE hm
   have hm : M.laws_toCurvePointS_a1 s_l1 = some r := hm
   unfold M.laws_toCurvePointS_a1 at hm
   obtain ⟨S50, f57, f58, f59, hL⟩ := hJ
   refine CSR ?_
   refine OV v4 rfl (x_mv f58) ?_
   refine OV v4 rfl (x_assign) ?_
   refine OW.nil ?_
   refine CW.ret ?_
   obtain rfl := Option.some.inj hm
   exact RR1 rfl rfl ⟨v4, S50, rfl, hL.fresh 1 rfl [0] (by decide) (by decide) rfl⟩
 intro s_l1 F60 wd61 t51 hJ hm hr52
 unfold M.laws_toCurvePointS_l1 at hm
 obtain ⟨S50, f62, f63, f64, hL⟩ := hJ
 refine CW.seq ?_
 refine CSR ?_
 refine OV (.int .i64 s_l1.2) rfl (x_mv f64) ?_
 refine OV v1 rfl (x_mv f62) ?_
 refine OV (.int .i64 (a0.length : Int)) rfl (x_lenR U46 rfl (hL.rdS 1 rfl h2)) ?_
 refine OV (.bool (decide (s_l1.2 < (a0.length : Int)))) rfl (x_lss rfl rfl) ?_
 refine OW.nil ?_
 refine CW.condM (t := decide (s_l1.2 < (a0.length : Int))) rfl hm (fun hb65 hm => ?_) (fun hb65 hm => ?_)
 · refine CW.skip ?_
   refine CW.seq ?_
   refine CW.block ?_
   refine CW.regionL ?_
   refine OV v4 rfl (x_mv f63) ?_
   refine OV (.int .i64 s_l1.2) rfl (x_mv f64) ?_
   refine OV v1 rfl (x_mv f62) ?_
   refine OV (.int .i64 s_l1.2) rfl (x_mv f64) ?_
   obtain ⟨x66, ha67, hm⟩ := bndE hm
   obtain ⟨hz68, ha72⟩ := idxE ha67
   obtain ⟨b69, q70, hix71⟩ := rdL_ix (hL.rdS 1 rfl h2) hz68 ha72
   refine OV (.pointer (some ⟨b69, q70, none⟩)) rfl (x_ix U46 Try_T75 rfl rfl hix71) ?_
   refine OV (.agg #[(.int .i64 x66.Wind), (.int .i64 x66.Pace)]) rfl (x_loadN (cs := [(.int .i64 x66.Wind), (.int .i64 x66.Pace)]) U75 Try_T75 rfl rfl (rdF_cells (hL.rdS 1 rfl h2) hix71 ha72)) ?_
   obtain ⟨x73, hx74, hm⟩ := bndE hm
   refine OW.cons (OP.call rfl (x_call (vs := [(.agg #[(.int .i64 x66.Wind), (.int .i64 x66.Pace)])]) Try_C48 ⟨rfl, trivial⟩) (M.laws_toCurvePoint_ok _ x66 hx74) ?_)
   rintro e75 wd76 ⟨rfl, hF77⟩
   refine ⟨_, rfl, ?_⟩
   have hL := hL.pushAll hF77
   simp only [lA, lB, lC, lD] at hL
   obtain ⟨x78, ha79, hm⟩ := bndE hm
   obtain ⟨hz80, ha84⟩ := idxE ha79
   obtain ⟨b81, q82, hix83⟩ := rdL_ix (hL.rdO 0 rfl) hz80 ha84
   refine OV (.pointer (some ⟨b81, q82, none⟩)) rfl (x_ix U34 Try_T62 rfl rfl hix83) ?_
   refine OW.cons (S_storeXN (l := [(.int .i64 x73.Wind), (.int .i64 x73.Pace)]) x73 hL 0 rfl Try_T62 hix83 ha84 rfl rfl rfl ?_)
   intro wd85 hL
   refine OW.nil ?_
   refine CW.regionL ?_
   refine OV (.int .i64 s_l1.2) rfl (x_mv f64) ?_
   refine OV (.int .i64 (w64 (s_l1.2 + 1))) rfl (x_add rfl rfl) ?_
   refine OV (.int .i64 (w64 (s_l1.2 + 1))) rfl (x_assign) ?_
   refine OW.nil ?_
   obtain rfl := Option.some.inj hm
   exact ⟨_, rfl, ⟨S50, f62, f63, rfl, hL⟩⟩
 refine CW.exit ?_
 refine XJ.hit ?_
 obtain rfl := Option.some.inj hm
 exact ⟨_, rfl, ⟨S50, f62, f63, f64, hL⟩⟩

theorem M.laws_eqCurvePoint_ok (w0 : World) (a0 : CurvePoint) (a1 : CurvePoint) {r : Bool} (hm : M.laws_eqCurvePoint a0 a1 = some r) :
    Calls Try.prog 53 #[(.agg #[(.int .i64 a0.Wind), (.int .i64 a0.Pace)]), (.agg #[(.int .i64 a1.Wind), (.int .i64 a1.Pace)])] w0 fun e w' => e = .returned (.bool r) ∧ Fresh w0 w' [] := by
 unfold M.laws_eqCurvePoint at hm
 refine calls_CW (args := [(.agg #[(.int .i64 a0.Wind), (.int .i64 a0.Pace)]), (.agg #[(.int .i64 a1.Wind), (.int .i64 a1.Pace)])]) Try.func53 rfl rfl rfl ?_
 have hL := Hp.start w0
 refine CSR ?_
 refine OW.cons (S_box (cs := #[(.int .i64 a0.Wind), (.int .i64 a0.Pace)]) hL rfl rfl rfl ?_)
 intro wd1 b2 hL
 refine OW.cons (S_box (cs := #[(.int .i64 a1.Wind), (.int .i64 a1.Pace)]) hL rfl rfl rfl ?_)
 intro wd3 b4 hL
 refine OV (.bool false) rfl (x_assign) ?_
 refine ONS ?_
 refine CSR ?_
 refine OV (.pointer (some ⟨b2, 0, none⟩)) rfl (x_fieldAddr (fsz := 1) 0 0 0 U62 rfl Try_T2 rfl rfl rfl) ?_
 refine OV (.int .i64 a0.Wind) rfl (x_load1 U2 rfl rfl (hL.cellB 1 rfl rfl)) ?_
 refine OV (.pointer (some ⟨b4, 0, none⟩)) rfl (x_fieldAddr (fsz := 1) 0 0 0 U62 rfl Try_T2 rfl rfl rfl) ?_
 refine OV (.int .i64 a1.Wind) rfl (x_load1 U2 rfl rfl (hL.cellB 0 rfl rfl)) ?_
 refine OV (.bool (a0.Wind != a1.Wind)) rfl (x_neq rfl rfl) ?_
 refine OW.nil ?_
 refine CW.condM (t := a0.Wind != a1.Wind) rfl hm (fun hb5 hm => ?_) (fun hb5 hm => ?_)
 · refine CSR ?_
   refine OV (.bool false) rfl (x_assign) ?_
   refine OW.nil ?_
   refine CW.ret ?_
   obtain rfl := Option.some.inj hm
   exact RR1 rfl rfl ⟨rfl, hL.fresh 2 rfl [] (by decide) (by decide) rfl⟩
 refine CW.skip ?_
 refine CW.seq ?_
 refine CSR ?_
 refine OV (.pointer (some ⟨b2, 1, none⟩)) rfl (x_fieldAddr (fsz := 1) 0 1 1 U62 rfl Try_T2 rfl rfl rfl) ?_
 refine OV (.int .i64 a0.Pace) rfl (x_load1 U2 rfl rfl (hL.cellB 1 rfl rfl)) ?_
 refine OV (.pointer (some ⟨b4, 1, none⟩)) rfl (x_fieldAddr (fsz := 1) 0 1 1 U62 rfl Try_T2 rfl rfl rfl) ?_
 refine OV (.int .i64 a1.Pace) rfl (x_load1 U2 rfl rfl (hL.cellB 0 rfl rfl)) ?_
 refine OV (.bool (a0.Pace != a1.Pace)) rfl (x_neq rfl rfl) ?_
 refine OW.nil ?_
 refine CW.condM (t := a0.Pace != a1.Pace) rfl hm (fun hb6 hm => ?_) (fun hb6 hm => ?_)
 · refine CSR ?_
   refine OV (.bool false) rfl (x_assign) ?_
   refine OW.nil ?_
   refine CW.ret ?_
   obtain rfl := Option.some.inj hm
   exact RR1 rfl rfl ⟨rfl, hL.fresh 2 rfl [] (by decide) (by decide) rfl⟩
 refine CW.skip ?_
 refine CSR ?_
 refine OV (.bool true) rfl (x_assign) ?_
 refine OW.nil ?_
 refine CW.ret ?_
 obtain rfl := Option.some.inj hm
 exact RR1 rfl rfl ⟨rfl, hL.fresh 2 rfl [] (by decide) (by decide) rfl⟩

theorem M.laws_eqCurvePointS_ok (w0 : World) (a0 : List CurvePoint) {v1 : Value} (h2 : rdL (· < w0.heap.size) w0 v1 a0) (a1 : List CurvePoint) {v3 : Value} (h4 : rdL (· < w0.heap.size) w0 v3 a1) {r : Bool} (hm : M.laws_eqCurvePointS a0 a1 = some r) :
    Calls Try.prog 24 #[v1, v3] w0 fun e w' => e = .returned (.bool r) ∧ Fresh w0 w' [] := by
 unfold M.laws_eqCurvePointS at hm
 refine calls_CW (args := [v1, v3]) Try.func24 rfl rfl rfl ?_
 have hL := Hp.start w0
 refine CSR ?_
 refine OV (.bool false) rfl (x_assign) ?_
 refine ONS ?_
 refine CSR ?_
 refine OV v1 rfl (x_move) ?_
 refine OV (.int .i64 (a0.length : Int)) rfl (x_lenR U34 rfl (hL.rdS 0 rfl h2)) ?_
 refine OV v3 rfl (x_move) ?_
 refine OV (.int .i64 (a1.length : Int)) rfl (x_lenR U34 rfl (hL.rdS 0 rfl h4)) ?_
 refine OV (.bool ((a0.length : Int) != (a1.length : Int))) rfl (x_neq rfl rfl) ?_
 refine OW.nil ?_
 refine CW.condM (t := (a0.length : Int) != (a1.length : Int)) rfl hm (fun hb5 hm => ?_) (fun hb5 hm => ?_)
 · refine CSR ?_
   refine OV (.bool false) rfl (x_assign) ?_
   refine OW.nil ?_
   refine CW.ret ?_
   obtain rfl := Option.some.inj hm
   exact RR1 rfl rfl ⟨rfl, hL.fresh 0 rfl [] (by decide) (by decide) rfl⟩
 refine CW.skip ?_
 refine CW.seq ?_
 refine CSR ?_
 refine OV (.int .i64 0) rfl (x_assign) ?_
 refine OW.nil ?_
 obtain ⟨o46, ho47, hm⟩ := bndE hm
 refine CW.loopB (fun (s_l1 : Int) (F : Fr) (w : World) => F 0 = v1 ∧ F 1 = v3 ∧ F 5 = (.int .i64 s_l1) ∧ Hp w0 [Ent.snap w0 w0.heap.size] w) (fun o => outc o (fun x => some x) (fun s => M.laws_eqCurvePointS_a1 s) = some r) ho47 hm ⟨rfl, rfl, rfl, hL⟩ ?_ ?_
 · intro s_l1 F48 wd49 hJ hm
   have hm := outcE hm
   have hm : M.laws_eqCurvePointS_a1 s_l1 = some r := hm
   unfold M.laws_eqCurvePointS_a1 at hm
   obtain ⟨f50, f51, f52, hL⟩ := hJ
   refine CSR ?_
   refine OV (.bool true) rfl (x_assign) ?_
   refine OW.nil ?_
   refine CW.ret ?_
   obtain rfl := Option.some.inj hm
   exact RR1 rfl rfl ⟨rfl, hL.fresh 0 rfl [] (by decide) (by decide) rfl⟩
 intro s_l1 F53 wd54 t44 hJ hm hr45
 unfold M.laws_eqCurvePointS_l1 at hm
 obtain ⟨f55, f56, f57, hL⟩ := hJ
 refine CW.seq ?_
 refine CSR ?_
 refine OV (.int .i64 s_l1) rfl (x_mv f57) ?_
 refine OV v1 rfl (x_mv f55) ?_
 refine OV (.int .i64 (a0.length : Int)) rfl (x_lenR U34 rfl (hL.rdS 0 rfl h2)) ?_
 refine OV (.bool (decide (s_l1 < (a0.length : Int)))) rfl (x_lss rfl rfl) ?_
 refine OW.nil ?_
 refine CW.condM (t := decide (s_l1 < (a0.length : Int))) rfl hm (fun hb58 hm => ?_) (fun hb58 hm => ?_)
 · refine CW.skip ?_
   refine CW.seq ?_
   refine CW.block ?_
   refine CW.seq ?_
   refine CW.draw Try_mixed ?_
   have hL := hL.call (Mod.drew _)
   refine DW.pre (fuel := 0) (fin := bma 10 1023) (C := fun w' => Mod None_ _ w') [0, 1, 2, 3, 4, 5, 6, 7, 8, 9] (Mod.refl _ _) (by kernel_rfl) (by kernel_rfl) ?_
   refine QW.cons rfl (QP.val (v := v1) rfl (fun w' hm' => x_mv f55) ?_)
   refine QW.cons rfl (QP.val (v := (.int .i64 s_l1)) rfl (fun w' hm' => x_mv f57) ?_)
   obtain ⟨x59, ha60, hm⟩ := bndE hm
   obtain ⟨hz61, ha65⟩ := idxE ha60
   obtain ⟨b62, q63, hix64⟩ := rdL_ix (hL.rdS 0 rfl h2) hz61 ha65
   refine QW.cons rfl (QP.val (v := (.pointer (some ⟨b62, q63, none⟩))) rfl (fun w' hm' => x_ix U34 Try_T62 rfl rfl hix64) ?_)
   refine QW.cons rfl (QP.val (v := (.agg #[(.int .i64 x59.Wind), (.int .i64 x59.Pace)])) rfl (fun w' hm' => x_loadN (cs := [(.int .i64 x59.Wind), (.int .i64 x59.Pace)]) U62 Try_T62 rfl rfl (rdF_cells ((hL.call hm').rdS 0 rfl h2) hix64 ha65)) ?_)
   refine QW.cons rfl (QP.val (v := v3) rfl (fun w' hm' => x_mv f56) ?_)
   refine QW.cons rfl (QP.val (v := (.int .i64 s_l1)) rfl (fun w' hm' => x_mv f57) ?_)
   obtain ⟨x66, ha67, hm⟩ := bndE hm
   obtain ⟨hz68, ha72⟩ := idxE ha67
   obtain ⟨b69, q70, hix71⟩ := rdL_ix (hL.rdS 0 rfl h4) hz68 ha72
   refine QW.cons rfl (QP.val (v := (.pointer (some ⟨b69, q70, none⟩))) rfl (fun w' hm' => x_ix U34 Try_T62 rfl rfl hix71) ?_)
   refine QW.cons rfl (QP.val (v := (.agg #[(.int .i64 x66.Wind), (.int .i64 x66.Pace)])) rfl (fun w' hm' => x_loadN (cs := [(.int .i64 x66.Wind), (.int .i64 x66.Pace)]) U62 Try_T62 rfl rfl (rdF_cells ((hL.call hm').rdS 0 rfl h4) hix71 ha72)) ?_)
   obtain ⟨x73, hx74, hm⟩ := bndE hm
   refine QW.cons rfl (QP.call (v := (.bool x73)) rfl (fun w' hm' => x_call (vs := [(.agg #[(.int .i64 x59.Wind), (.int .i64 x59.Pace)]), (.agg #[(.int .i64 x66.Wind), (.int .i64 x66.Pace)])]) Try_C53 ⟨rfl, rfl, trivial⟩) (fun w' hm' => (M.laws_eqCurvePoint_ok w' x59 x66 hx74).mono (fun e w'' h => ⟨h.1, hm'.trans h.2.mod⟩)) ?_)
   refine QW.cons rfl (QP.val (v := (.bool (!x73))) rfl (fun w' hm' => x_not rfl) ?_)
   refine QW.nil ?_
   intro wd75 hmod
   have hL := hL.call hmod
   refine DW.done (by kernel_rfl) ?_
   refine CW.condM (t := !x73) rfl hm (fun hb76 hm => ?_) (fun hb76 hm => ?_)
   · refine CSR ?_
     refine OV (.bool false) rfl (x_assign) ?_
     refine OW.nil ?_
     refine CW.ret ?_
     obtain rfl := Option.some.inj hm
     have hm := hr45 _ rfl
     obtain rfl := Option.some.inj hm
     exact RR1 rfl rfl ⟨rfl, hL.fresh 0 rfl [] (by decide) (by decide) rfl⟩
   refine CW.skip ?_
   refine CW.regionL ?_
   refine OV (.int .i64 s_l1) rfl (x_mv f57) ?_
   refine OV (.int .i64 (w64 (s_l1 + 1))) rfl (x_add rfl rfl) ?_
   refine OV (.int .i64 (w64 (s_l1 + 1))) rfl (x_assign) ?_
   refine OW.nil ?_
   obtain rfl := Option.some.inj hm
   exact ⟨_, rfl, ⟨f55, f56, rfl, hL⟩⟩
 refine CW.exit ?_
 refine XJ.hit ?_
 obtain rfl := Option.some.inj hm
 exact ⟨_, rfl, ⟨f55, f56, f57, hL⟩⟩

theorem M.laws_markCurvePointS_ok (w0 : World) {E4 : TypeId} {S2 : Nat → Prop} {v1 : Value} (a0 : List CurvePoint) (he3 : (Ent.own E4 S2 v1 a0).H w0) (a1 : Int) {r : (Int) × (List CurvePoint)} (hm : M.laws_markCurvePointS a0 a1 = some r) :
    Calls Try.prog 25 #[v1, (.int .i64 a1)] w0 fun e w' => ∃ (ioS : Nat → Prop), e = .returned (.int .i64 r.1) ∧ Mut w0 w' (Ent.own E4 S2 v1 a0).S [Ent.own E4 ioS v1 r.2] := by
 unfold M.laws_markCurvePointS at hm
 refine calls_CW (args := [v1, (.int .i64 a1)]) Try.func25 rfl rfl rfl ?_
 have hL := Hp.startIO he3
 refine CSR ?_
 refine OV (.int .i64 0) rfl (x_assign) ?_
 refine ONS ?_
 refine CSR ?_
 refine OV (.int .i64 0) rfl (x_assign) ?_
 refine OW.nil ?_
 obtain ⟨o43, ho44, hm⟩ := bndE hm
 refine CW.loopB (fun (s_l1 : (List CurvePoint) × Int × Int) (F : Fr) (w : World) => ∃ (S40 : Nat → Prop), F 0 = v1 ∧ F 1 = (.int .i64 s_l1.2.1) ∧ F 5 = (.int .i64 s_l1.2.2) ∧ Hp w0 [Ent.own E4 S40 v1 s_l1.1, Ent.frz w0 (Ent.own E4 S2 v1 a0).S] w) (fun o => outc o (fun x => some x) (fun s => M.laws_markCurvePointS_a1 s) = some r) ho44 hm ⟨S2, rfl, rfl, rfl, hL⟩ ?_ ?_
 · intro s_l1 F45 wd46 hJ hm
   have hm := outcE hm
   have hm : M.laws_markCurvePointS_a1 s_l1 = some r := hm
   unfold M.laws_markCurvePointS_a1 at hm
   obtain ⟨S40, f47, f48, f49, hL⟩ := hJ
   refine CSR ?_
   refine OV (.int .i64 s_l1.2.1) rfl (x_mv f48) ?_
   refine OV (.int .i64 s_l1.2.1) rfl (x_assign) ?_
   refine OW.nil ?_
   refine CW.ret ?_
   obtain rfl := Option.some.inj hm
   exact RR1 rfl rfl ⟨S40, rfl, hL.mutOut 1 rfl [0] (by decide) (by decide) rfl⟩
 intro s_l1 F50 wd51 t41 hJ hm hr42
 unfold M.laws_markCurvePointS_l1 at hm
 obtain ⟨S40, f52, f53, f54, hL⟩ := hJ
 refine CW.seq ?_
 refine CSR ?_
 refine OV (.int .i64 s_l1.2.2) rfl (x_mv f54) ?_
 refine OV v1 rfl (x_mv f52) ?_
 refine OV (.int .i64 (s_l1.1.length : Int)) rfl (x_lenR U34 rfl (hL.rdO 0 rfl)) ?_
 refine OV (.bool (decide (s_l1.2.2 < (s_l1.1.length : Int)))) rfl (x_lss rfl rfl) ?_
 refine OW.nil ?_
 refine CW.condM (t := decide (s_l1.2.2 < (s_l1.1.length : Int))) rfl hm (fun hb55 hm => ?_) (fun hb55 hm => ?_)
 · refine CW.skip ?_
   refine CW.seq ?_
   refine CW.block ?_
   refine CSR ?_
   refine OV v1 rfl (x_mv f52) ?_
   refine OV (.int .i64 s_l1.2.2) rfl (x_mv f54) ?_
   refine OV (.int .i64 s_l1.2.1) rfl (x_mv f53) ?_
   obtain ⟨x56, ha57, hm⟩ := bndE hm
   obtain ⟨hz58, ha62⟩ := idxE ha57
   obtain ⟨b59, q60, hix61⟩ := rdL_ix (hL.rdO 0 rfl) hz58 ha62
   refine OV (.pointer (some ⟨b59, q60, none⟩)) rfl (x_ix U34 Try_T62 rfl rfl hix61) ?_
   refine OV (.pointer (some ⟨b59, q60, none⟩)) rfl (x_fieldAddr (fsz := 1) q60 0 q60 U62 rfl Try_T2 rfl rfl rfl) ?_
   refine OW.cons (S_storeX (j := 0) (CurvePoint.mk s_l1.2.1 x56.Pace) hL 0 rfl Try_T2 hix61 ha62 rfl rfl rfl rfl rfl rfl ?_)
   intro wd63 hL
   refine ONR ?_
   refine OV (.int .i64 s_l1.2.1) rfl (x_mv f53) ?_
   refine OV (.int .i64 (w64 (s_l1.2.1 + 1))) rfl (x_add rfl rfl) ?_
   refine OV (.int .i64 (w64 (s_l1.2.1 + 1))) rfl (x_assign) ?_
   refine ONR ?_
   refine OV v1 rfl (x_mv f52) ?_
   refine OV (.int .i64 s_l1.2.2) rfl (x_mv f54) ?_
   refine OV (.int .i64 (w64 (s_l1.2.1 + 1))) rfl (x_move) ?_
   obtain ⟨x64, ha65, hm⟩ := bndE hm
   obtain ⟨hz66, ha70⟩ := idxE ha65
   obtain ⟨b67, q68, hix69⟩ := rdL_ix (hL.rdO 0 rfl) hz66 ha70
   refine OV (.pointer (some ⟨b67, q68, none⟩)) rfl (x_ix U34 Try_T62 rfl rfl hix69) ?_
   refine OV (.pointer (some ⟨b67, q68 + 1, none⟩)) rfl (x_fieldAddr (fsz := 1) q68 1 (q68 + 1) U62 rfl Try_T2 rfl rfl rfl) ?_
   refine OW.cons (S_storeX (j := 1) (CurvePoint.mk x64.Wind (w64 (s_l1.2.1 + 1))) hL 0 rfl Try_T2 hix69 ha70 rfl rfl rfl rfl rfl rfl ?_)
   intro wd71 hL
   refine OW.nil ?_
   refine CW.regionL ?_
   refine OV (.int .i64 (w64 (s_l1.2.1 + 1))) rfl (x_move) ?_
   refine OV (.int .i64 (w64 ((w64 (s_l1.2.1 + 1)) + 1))) rfl (x_add rfl rfl) ?_
   refine OV (.int .i64 (w64 ((w64 (s_l1.2.1 + 1)) + 1))) rfl (x_assign) ?_
   refine OW.nil ?_
   refine CW.regionL ?_
   refine OV (.int .i64 s_l1.2.2) rfl (x_mv f54) ?_
   refine OV (.int .i64 (w64 (s_l1.2.2 + 1))) rfl (x_add rfl rfl) ?_
   refine OV (.int .i64 (w64 (s_l1.2.2 + 1))) rfl (x_assign) ?_
   refine OW.nil ?_
   obtain rfl := Option.some.inj hm
   exact ⟨_, rfl, ⟨S40, f52, rfl, rfl, hL⟩⟩
 refine CW.exit ?_
 refine XJ.hit ?_
 obtain rfl := Option.some.inj hm
 exact ⟨_, rfl, ⟨S40, f52, f53, f54, hL⟩⟩

theorem M.spec_l01Abs_ok (w0 : World) (a0 : Int) {r : Int} (hm : M.spec_l01Abs a0 = some r) :
    Calls Try.prog 61 #[(.int .i64 a0)] w0 fun e w' => e = .returned (.int .i64 r) ∧ Fresh w0 w' [] := by
 unfold M.spec_l01Abs at hm
 refine calls_CW (args := [(.int .i64 a0)]) Try.func61 rfl rfl rfl ?_
 have hL := Hp.start w0
 refine CSR ?_
 refine OV (.int .i64 0) rfl (x_assign) ?_
 refine ONR ?_
 refine OV (.int .i64 a0) rfl (x_move) ?_
 refine OV (.int .i64 a0) rfl (x_move) ?_
 refine OV (.int .i64 (w64 (0 - a0))) rfl (x_neg rfl) ?_
 refine OV (.int .i64 (max a0 (w64 (0 - a0)))) rfl (x_max2 rfl rfl) ?_
 refine OV (.int .i64 (max a0 (w64 (0 - a0)))) rfl (x_assign) ?_
 refine OW.nil ?_
 refine CW.ret ?_
 obtain rfl := Option.some.inj hm
 exact RR1 rfl rfl ⟨rfl, hL.fresh 0 rfl [] (by decide) (by decide) rfl⟩

theorem M.spec_l24Near_ok (w0 : World) (a0 : List CurvePoint) {v1 : Value} (h2 : rdL (· < w0.heap.size) w0 v1 a0) (a1 : Int) (a2 : Int) (a3 : Int) {r : Bool} (hm : M.spec_l24Near a0 a1 a2 a3 = some r) :
    Calls Try.prog 47 #[v1, (.int .i64 a1), (.int .i64 a2), (.int .i64 a3)] w0 fun e w' => e = .returned (.bool r) ∧ Fresh w0 w' [] := by
 unfold M.spec_l24Near at hm
 refine calls_CW (args := [v1, (.int .i64 a1), (.int .i64 a2), (.int .i64 a3)]) Try.func47 rfl rfl rfl ?_
 have hL := Hp.start w0
 refine CSR ?_
 refine OV (.bool false) rfl (x_assign) ?_
 refine ONS ?_
 refine CW.drawH (fun w' => Hp w0 [Ent.snap w0 w0.heap.size] w') Try_mixed ?_
 have hL := hL.call (Mod.drew _)
 have hS := (hL.sel [0] (by decide) rfl)
 refine DH.take 0 rfl (by kernel_rfl) (by kernel_rfl) (by kernel_rfl) rfl rfl hS (YH.val (v := v1) (fun w' hS' => x_move)) ?_
 have hS := (hL.sel [0] (by decide) rfl)
 refine DH.take 1 rfl (by kernel_rfl) (by kernel_rfl) (by kernel_rfl) rfl rfl hS (YH.val (v := (.int .i64 a1)) (fun w' hS' => x_move)) ?_
 have hS := (hL.sel [0] (by decide) rfl)
 obtain ⟨x20, ha21, hm⟩ := bndE hm
 obtain ⟨hz22, ha26⟩ := idxE ha21
 obtain ⟨b23, q24, hix25⟩ := rdL_ix (hL.rdS 0 rfl h2) hz22 ha26
 refine DH.take 2 rfl (by kernel_rfl) (by kernel_rfl) (by kernel_rfl) rfl rfl hS (YH.val (v := (.pointer (some ⟨b23, q24, none⟩))) (fun w' hS' => x_ix U34 Try_T62 rfl rfl hix25)) ?_
 have hS := (hL.sel [0] (by decide) rfl)
 refine DH.take 3 rfl (by kernel_rfl) (by kernel_rfl) (by kernel_rfl) rfl rfl hS (YH.val (v := (.agg #[(.int .i64 x20.Wind), (.int .i64 x20.Pace)])) (fun w' hS' => x_loadN (cs := [(.int .i64 x20.Wind), (.int .i64 x20.Pace)]) U62 Try_T62 rfl rfl (rdF_cells (hS'.rdS 0 rfl h2) hix25 ha26))) ?_
 have hS := (hL.sel [0] (by decide) rfl)
 refine DH.take 4 rfl (by kernel_rfl) (by kernel_rfl) (by kernel_rfl) rfl rfl hS (YH.val (v := v1) (fun w' hS' => x_move)) ?_
 have hS := (hL.sel [0] (by decide) rfl)
 refine DH.take 5 rfl (by kernel_rfl) (by kernel_rfl) (by kernel_rfl) rfl rfl hS (YH.val (v := (.int .i64 a2)) (fun w' hS' => x_move)) ?_
 have hS := (hL.sel [0] (by decide) rfl)
 obtain ⟨x27, ha28, hm⟩ := bndE hm
 obtain ⟨hz29, ha33⟩ := idxE ha28
 obtain ⟨b30, q31, hix32⟩ := rdL_ix (hL.rdS 0 rfl h2) hz29 ha33
 refine DH.take 6 rfl (by kernel_rfl) (by kernel_rfl) (by kernel_rfl) rfl rfl hS (YH.val (v := (.pointer (some ⟨b30, q31, none⟩))) (fun w' hS' => x_ix U34 Try_T62 rfl rfl hix32)) ?_
 have hS := (hL.sel [0] (by decide) rfl)
 refine DH.take 7 rfl (by kernel_rfl) (by kernel_rfl) (by kernel_rfl) rfl rfl hS (YH.val (v := (.agg #[(.int .i64 x27.Wind), (.int .i64 x27.Pace)])) (fun w' hS' => x_loadN (cs := [(.int .i64 x27.Wind), (.int .i64 x27.Pace)]) U62 Try_T62 rfl rfl (rdF_cells (hS'.rdS 0 rfl h2) hix32 ha33))) ?_
 refine DH.only 8 rfl (by kernel_rfl) (S_lit ([x20, x27] : List CurvePoint) hL U34 Try_T62 rfl (by decide) (by first | (simp [Instr.fill, madeCells, Value.cells, ev, upd, Flat.enc, Flat.sz]; done) | rfl | kernel_rfl) rfl rfl ?_)
 intro wd34 v35 S36 hL
 refine ⟨(hL.sel [1] (by decide) rfl), ?_⟩
 have hS := (hL.sel [1] (by decide) rfl)
 refine DH.take 9 rfl (by kernel_rfl) (by kernel_rfl) (by kernel_rfl) rfl rfl hS (YH.val (v := v35) (fun w' hS' => x_assign)) ?_
 refine DH.done (by kernel_rfl) ?_
 refine CW.seq ?_
 refine CSR ?_
 refine OV (.int .i64 a1) rfl (x_move) ?_
 refine OV (.int .i64 (w64 (a1 + 1))) rfl (x_add rfl rfl) ?_
 refine OV (.int .i64 (w64 (a1 + 1))) rfl (x_assign) ?_
 refine OW.nil ?_
 obtain ⟨o81, ho82, hm⟩ := bndE hm
 refine CW.loopB (fun (s_l1 : Int) (F : Fr) (w : World) => F 0 = v1 ∧ F 2 = (.int .i64 a2) ∧ F 3 = (.int .i64 a3) ∧ F 9 = v35 ∧ F 10 = (.int .i64 s_l1) ∧ Hp w0 [Ent.own 62 S36 v35 ([x20, x27] : List CurvePoint), Ent.snap w0 w0.heap.size] w) (fun o => outc o (fun x => some x) (fun s => M.spec_l24Near_a1 s) = some r) ho82 hm ⟨rfl, rfl, rfl, rfl, rfl, hL⟩ ?_ ?_
 · intro s_l1 F83 wd84 hJ hm
   have hm := outcE hm
   have hm : M.spec_l24Near_a1 s_l1 = some r := hm
   unfold M.spec_l24Near_a1 at hm
   obtain ⟨f85, f86, f87, f88, f89, hL⟩ := hJ
   refine CSR ?_
   refine OV (.bool true) rfl (x_assign) ?_
   refine OW.nil ?_
   refine CW.ret ?_
   obtain rfl := Option.some.inj hm
   exact RR1 rfl rfl ⟨rfl, hL.fresh 1 rfl [] (by decide) (by decide) rfl⟩
 intro s_l1 F90 wd91 t79 hJ hm hr80
 unfold M.spec_l24Near_l1 at hm
 obtain ⟨f92, f93, f94, f95, f96, hL⟩ := hJ
 refine CW.seq ?_
 refine CSR ?_
 refine OV (.int .i64 s_l1) rfl (x_mv f96) ?_
 refine OV (.int .i64 a2) rfl (x_mv f93) ?_
 refine OV (.bool (decide (s_l1 < a2))) rfl (x_lss rfl rfl) ?_
 refine OW.nil ?_
 refine CW.condM (t := decide (s_l1 < a2)) rfl hm (fun hb97 hm => ?_) (fun hb97 hm => ?_)
 · refine CW.skip ?_
   refine CW.seq ?_
   refine CW.block ?_
   refine CW.seq ?_
   refine CW.draw Try_mixed ?_
   have hL := hL.call (Mod.drew _)
   refine DW.pre (fuel := 0) (fin := bma 16 65535) (C := fun w' => Mod None_ _ w') [0, 1, 2, 3, 4, 5, 6, 7, 8, 9, 10, 11, 12, 13, 14, 15] (Mod.refl _ _) (by kernel_rfl) (by kernel_rfl) ?_
   refine QW.cons rfl (QP.val (v := v35) rfl (fun w' hm' => x_mv f95) ?_)
   refine QW.cons rfl (QP.val (v := v1) rfl (fun w' hm' => x_mv f92) ?_)
   refine QW.cons rfl (QP.val (v := (.int .i64 s_l1)) rfl (fun w' hm' => x_mv f96) ?_)
   obtain ⟨x98, ha99, hm⟩ := bndE hm
   obtain ⟨hz100, ha104⟩ := idxE ha99
   obtain ⟨b101, q102, hix103⟩ := rdL_ix (hL.rdS 1 rfl h2) hz100 ha104
   refine QW.cons rfl (QP.val (v := (.pointer (some ⟨b101, q102, none⟩))) rfl (fun w' hm' => x_ix U34 Try_T62 rfl rfl hix103) ?_)
   refine QW.cons rfl (QP.val (v := (.pointer (some ⟨b101, q102, none⟩))) rfl (fun w' hm' => x_fieldAddr (fsz := 1) q102 0 q102 U62 rfl Try_T2 rfl rfl rfl) ?_)
   refine QW.cons rfl (QP.val (v := (.int .i64 x98.Wind)) rfl (fun w' hm' => x_load1 U2 rfl rfl (rdF_cells ((hL.call hm').rdS 1 rfl h2) hix103 ha104 0 _ rfl)) ?_)
   obtain ⟨x105, hx106, hm⟩ := bndE hm
   refine QW.cons rfl (QP.call (v := (.int .i64 x105)) rfl (fun w' hm' => x_call (vs := [v35, (.int .i64 x98.Wind)]) Try_C62 ⟨rfl, rfl, trivial⟩) (fun w' hm' => (M.spec_l24Pace_ok w' ([x20, x27] : List CurvePoint) ((hL.call hm').rdO 0 rfl) x98.Wind hx106).mono (fun e w'' h => ⟨h.1, hm'.trans h.2.mod⟩)) ?_)
   refine QW.cons rfl (QP.val (v := v1) rfl (fun w' hm' => x_mv f92) ?_)
   refine QW.cons rfl (QP.val (v := (.int .i64 s_l1)) rfl (fun w' hm' => x_mv f96) ?_)
   obtain ⟨x107, ha108, hm⟩ := bndE hm
   obtain ⟨hz109, ha113⟩ := idxE ha108
   obtain ⟨b110, q111, hix112⟩ := rdL_ix (hL.rdS 1 rfl h2) hz109 ha113
   refine QW.cons rfl (QP.val (v := (.pointer (some ⟨b110, q111, none⟩))) rfl (fun w' hm' => x_ix U34 Try_T62 rfl rfl hix112) ?_)
   refine QW.cons rfl (QP.val (v := (.pointer (some ⟨b110, q111 + 1, none⟩))) rfl (fun w' hm' => x_fieldAddr (fsz := 1) q111 1 (q111 + 1) U62 rfl Try_T2 rfl rfl rfl) ?_)
   refine QW.cons rfl (QP.val (v := (.int .i64 x107.Pace)) rfl (fun w' hm' => x_load1 U2 rfl rfl (rdF_cells ((hL.call hm').rdS 1 rfl h2) hix112 ha113 1 _ rfl)) ?_)
   refine QW.cons rfl (QP.val (v := (.int .i64 (w64 (x105 - x107.Pace)))) rfl (fun w' hm' => x_sub rfl rfl) ?_)
   obtain ⟨x114, hx115, hm⟩ := bndE hm
   refine QW.cons rfl (QP.call (v := (.int .i64 x114)) rfl (fun w' hm' => x_call (vs := [(.int .i64 (w64 (x105 - x107.Pace)))]) Try_C61 ⟨rfl, trivial⟩) (fun w' hm' => (M.spec_l01Abs_ok w' (w64 (x105 - x107.Pace)) hx115).mono (fun e w'' h => ⟨h.1, hm'.trans h.2.mod⟩)) ?_)
   refine QW.cons rfl (QP.val (v := (.int .i64 a3)) rfl (fun w' hm' => x_mv f94) ?_)
   refine QW.cons rfl (QP.val (v := (.bool (decide (a3 < x114)))) rfl (fun w' hm' => x_gtr rfl rfl) ?_)
   refine QW.nil ?_
   intro wd116 hmod
   have hL := hL.call hmod
   refine DW.done (by kernel_rfl) ?_
   refine CW.condM (t := decide (a3 < x114)) rfl hm (fun hb117 hm => ?_) (fun hb117 hm => ?_)
   · refine CSR ?_
     refine OV (.bool false) rfl (x_assign) ?_
     refine OW.nil ?_
     refine CW.ret ?_
     obtain rfl := Option.some.inj hm
     have hm := hr80 _ rfl
     obtain rfl := Option.some.inj hm
     exact RR1 rfl rfl ⟨rfl, hL.fresh 1 rfl [] (by decide) (by decide) rfl⟩
   refine CW.skip ?_
   refine CW.regionL ?_
   refine OV (.int .i64 s_l1) rfl (x_mv f96) ?_
   refine OV (.int .i64 (w64 (s_l1 + 1))) rfl (x_add rfl rfl) ?_
   refine OV (.int .i64 (w64 (s_l1 + 1))) rfl (x_assign) ?_
   refine OW.nil ?_
   obtain rfl := Option.some.inj hm
   exact ⟨_, rfl, ⟨f92, f93, f94, f95, rfl, hL⟩⟩
 refine CW.exit ?_
 refine XJ.hit ?_
 obtain rfl := Option.some.inj hm
 exact ⟨_, rfl, ⟨f92, f93, f94, f95, f96, hL⟩⟩

theorem M.spec_SimplifyCurve_ok (w0 : World) (a0 : List CurvePoint) {v1 : Value} (h2 : rdL (· < w0.heap.size) w0 v1 a0) (a1 : Int) {r : (List CurvePoint) × Int} (hm : M.spec_SimplifyCurve a0 a1 = some r) :
    Calls Try.prog 21 #[v1, (.int .i64 a1)] w0 fun e w' => ∃ (rv0 : Value) (rS0 : Nat → Prop), e = .returned (.tuple #[rv0, (.int .i64 r.2)]) ∧ Fresh w0 w' [Ent.own 62 rS0 rv0 r.1] := by
 unfold M.spec_SimplifyCurve at hm
 refine calls_CW (args := [v1, (.int .i64 a1)]) Try.func21 rfl rfl rfl ?_
 have hL := Hp.start w0
 refine CSR ?_
 refine OV (.slice none 0 0) rfl (x_assign) ?_
 refine OV (.int .i64 0) rfl (x_assign) ?_
 refine ONS ?_
 refine CSR ?_
 refine OV v1 rfl (x_move) ?_
 obtain ⟨x3, hx4, hm⟩ := bndE hm
 refine OW.cons (OP.call rfl (x_call (vs := [v1]) Try_C31 ⟨rfl, trivial⟩) (M.spec_IsCurve_ok _ a0 (hL.rdS 0 rfl h2) hx4) ?_)
 rintro e5 wd6 ⟨rfl, hF7⟩
 refine ⟨_, rfl, ?_⟩
 have hL := hL.pushAll hF7
 simp only [lA, lB, lC, lD] at hL
 refine OV (.bool (!x3)) rfl (x_not rfl) ?_
 refine OW.nil ?_
 refine CW.condM (t := !x3) rfl hm (fun hb8 hm => ?_) (fun hb8 hm => ?_)
 · refine CSR ?_
   refine OV (.slice none 0 0) rfl (x_assign) ?_
   refine OV (.int .i64 1) rfl (x_assign) ?_
   refine OW.nil ?_
   refine CW.ret ?_
   have hL := hL.pushNil CurvePoint 62
   obtain rfl := Option.some.inj hm
   exact RR2 rfl rfl rfl ⟨(.slice none 0 0), None_, rfl, hL.fresh 1 rfl [0] (by decide) (by decide) rfl⟩
 refine CW.skip ?_
 refine CW.seq ?_
 refine CSR ?_
 refine OV (.int .i64 a1) rfl (x_move) ?_
 obtain ⟨x9, hx10, hm⟩ := bndE hm
 refine OW.cons (OP.call rfl (x_call (vs := [(.int .i64 a1), (.int .i64 0), (.int .i64 1000000)]) Try_C41 ⟨rfl, rfl, rfl, trivial⟩) (M.spec_l01In_ok _ a1 0 1000000 hx10) ?_)
 rintro e11 wd12 ⟨rfl, hF13⟩
 refine ⟨_, rfl, ?_⟩
 have hL := hL.pushAll hF13
 simp only [lA, lB, lC, lD] at hL
 refine OV (.bool (!x9)) rfl (x_not rfl) ?_
 refine OW.nil ?_
 refine CW.condM (t := !x9) rfl hm (fun hb14 hm => ?_) (fun hb14 hm => ?_)
 · refine CSR ?_
   refine OV (.slice none 0 0) rfl (x_assign) ?_
   refine OV (.int .i64 2) rfl (x_assign) ?_
   refine OW.nil ?_
   refine CW.ret ?_
   have hL := hL.pushNil CurvePoint 62
   obtain rfl := Option.some.inj hm
   exact RR2 rfl rfl rfl ⟨(.slice none 0 0), None_, rfl, hL.fresh 1 rfl [0] (by decide) (by decide) rfl⟩
 refine CW.skip ?_
 refine CSR ?_
 refine OV v1 rfl (x_move) ?_
 refine OV (.int .i64 (a0.length : Int)) rfl (x_lenR U34 rfl (hL.rdS 0 rfl h2)) ?_
 refine OV (.int .i64 (w64 ((a0.length : Int) - 1))) rfl (x_sub rfl rfl) ?_
 refine OV (.int .i64 (w64 ((a0.length : Int) - 1))) rfl (x_assign) ?_
 refine ONR ?_
 refine OV v1 rfl (x_move) ?_
 refine OV (.int .i64 (a0.length : Int)) rfl (x_lenR U34 rfl (hL.rdS 0 rfl h2)) ?_
 obtain ⟨hc18, hm⟩ := chkE hm
 refine OW.cons (S_make (α := Int) 0 hL U72 Try_T3 rfl rfl rfl hc18 (by decide) rfl ?_)
 intro wd15 v16 S17 hL
 refine OV v16 rfl (x_assign) ?_
 refine ONR ?_
 refine OV v1 rfl (x_move) ?_
 refine OV (.int .i64 (a0.length : Int)) rfl (x_lenR U34 rfl (hL.rdS 1 rfl h2)) ?_
 obtain ⟨hc22, hm⟩ := chkE hm
 refine OW.cons (S_make (α := Int) 0 hL U72 Try_T3 rfl rfl rfl hc22 (by decide) rfl ?_)
 intro wd19 v20 S21 hL
 refine OV v20 rfl (x_assign) ?_
 refine ONS ?_
 refine CSR ?_
 refine OV (.int .i64 (w64 ((a0.length : Int) - 1))) rfl (x_move) ?_
 refine OV (.int .i64 (w64 ((w64 ((a0.length : Int) - 1)) - 1))) rfl (x_sub rfl rfl) ?_
 refine OV (.int .i64 (w64 ((w64 ((a0.length : Int) - 1)) - 1))) rfl (x_assign) ?_
 refine OW.nil ?_
 obtain ⟨o2447, ho2448, hm⟩ := bndE hm
 refine CW.loopB (fun (s_l1 : (List Int) × (List Int) × Int) (F : Fr) (w : World) => ∃ (S2443 : Nat → Prop) (S2444 : Nat → Prop), F 0 = v1 ∧ F 1 = (.int .i64 a1) ∧ F 6 = (.int .i64 (w64 ((a0.length : Int) - 1))) ∧ F 7 = v16 ∧ F 8 = v20 ∧ F 9 = (.int .i64 s_l1.2.2) ∧ Hp w0 [Ent.own 3 S2444 v20 s_l1.2.1, Ent.own 3 S2443 v16 s_l1.1, Ent.snap w0 w0.heap.size] w) (fun o => outc o (fun x => some x) (fun s => M.spec_SimplifyCurve_a1 a0 s) = some r) ho2448 hm ⟨S17, S21, rfl, rfl, rfl, rfl, rfl, rfl, hL⟩ ?_ ?_
 · intro s_l1 F2449 wd2450 hJ hm
   have hm := outcE hm
   have hm : M.spec_SimplifyCurve_a1 a0 s_l1 = some r := hm
   unfold M.spec_SimplifyCurve_a1 at hm
   obtain ⟨S2443, S2444, f2451, f2452, f2453, f2454, f2455, f2456, hL⟩ := hJ
   refine CSR ?_
   refine OV v1 rfl (x_mv f2451) ?_
   obtain ⟨x2457, ha2458, hm⟩ := bndE hm
   obtain ⟨hz2459, ha2463⟩ := idxE ha2458
   obtain ⟨b2460, q2461, hix2462⟩ := rdL_ix (hL.rdS 2 rfl h2) hz2459 ha2463
   refine OV (.pointer (some ⟨b2460, q2461, none⟩)) rfl (x_ix U34 Try_T62 rfl rfl hix2462) ?_
   refine OV (.agg #[(.int .i64 x2457.Wind), (.int .i64 x2457.Pace)]) rfl (x_loadN (cs := [(.int .i64 x2457.Wind), (.int .i64 x2457.Pace)]) U62 Try_T62 rfl rfl (rdF_cells (hL.rdS 2 rfl h2) hix2462 ha2463)) ?_
   refine OW.cons (S_lit ([x2457] : List CurvePoint) hL U34 Try_T62 rfl (by decide) (by first | (simp [Instr.fill, madeCells, Value.cells, ev, upd, Flat.enc, Flat.sz]; done) | rfl | kernel_rfl) rfl rfl ?_)
   intro wd2464 v2465 S2466 hL
   refine OV v2465 rfl (x_assign) ?_
   refine ONS ?_
   refine CSR ?_
   refine OV (.int .i64 0) rfl (x_assign) ?_
   refine OW.nil ?_
   obtain ⟨o2517, ho2518, hm⟩ := bndE hm
   have hL := hL.sel [0, 1, 3] (by decide) rfl
   refine CW.loopB (fun (s_l2 : (List CurvePoint) × Int) (F : Fr) (w : World) => ∃ (v2513 : Value) (S2514 : Nat → Prop), F 0 = v1 ∧ F 6 = (.int .i64 (w64 ((a0.length : Int) - 1))) ∧ F 8 = v20 ∧ F 11 = v2513 ∧ F 12 = (.int .i64 s_l2.2) ∧ Hp w0 [Ent.own 62 S2514 v2513 s_l2.1, Ent.own 3 S2444 v20 s_l1.2.1, Ent.snap w0 w0.heap.size] w) (fun o => outc o (fun x => some x) (fun s => M.spec_SimplifyCurve_a2 s) = some r) ho2518 hm ⟨v2465, S2466, f2451, f2453, f2455, rfl, rfl, hL⟩ ?_ ?_
   · intro s_l2 F2519 wd2520 hJ hm
     have hm := outcE hm
     have hm : M.spec_SimplifyCurve_a2 s_l2 = some r := hm
     unfold M.spec_SimplifyCurve_a2 at hm
     obtain ⟨v2513, S2514, f2521, f2522, f2523, f2524, f2525, hL⟩ := hJ
     refine CSR ?_
     refine OV v2513 rfl (x_mv f2524) ?_
     refine OV v2513 rfl (x_assign) ?_
     refine OV (.int .i64 0) rfl (x_assign) ?_
     refine OW.nil ?_
     refine CW.ret ?_
     obtain rfl := Option.some.inj hm
     exact RR2 rfl rfl rfl ⟨v2513, S2514, rfl, hL.fresh 2 rfl [0] (by decide) (by decide) rfl⟩
   intro s_l2 F2526 wd2527 t2515 hJ hm hr2516
   unfold M.spec_SimplifyCurve_l2 at hm
   obtain ⟨v2513, S2514, f2528, f2529, f2530, f2531, f2532, hL⟩ := hJ
   refine CW.seq ?_
   refine CSR ?_
   refine OV (.int .i64 s_l2.2) rfl (x_mv f2532) ?_
   refine OV (.int .i64 (w64 ((a0.length : Int) - 1))) rfl (x_mv f2529) ?_
   refine OV (.bool (decide (s_l2.2 < (w64 ((a0.length : Int) - 1))))) rfl (x_lss rfl rfl) ?_
   refine OW.nil ?_
   refine CW.condM (t := decide (s_l2.2 < (w64 ((a0.length : Int) - 1)))) rfl hm (fun hb2533 hm => ?_) (fun hb2533 hm => ?_)
   · refine CW.skip ?_
     refine CW.block ?_
     refine CSR ?_
     refine OV v20 rfl (x_mv f2530) ?_
     refine OV (.int .i64 s_l2.2) rfl (x_mv f2532) ?_
     obtain ⟨x2534, ha2535, hm⟩ := bndE hm
     obtain ⟨hz2536, ha2540⟩ := idxE ha2535
     obtain ⟨b2537, q2538, hix2539⟩ := rdL_ix (hL.rdO 1 rfl) hz2536 ha2540
     refine OV (.pointer (some ⟨b2537, q2538, none⟩)) rfl (x_ix U72 Try_T3 rfl rfl hix2539) ?_
     refine OV (.int .i64 x2534) rfl (x_load1 U3 rfl rfl (rdF_cells (hL.rdO 1 rfl) hix2539 ha2540 0 _ rfl)) ?_
     refine OV (.int .i64 x2534) rfl (x_assign) ?_
     refine OW.nil ?_
     refine CW.regionL ?_
     refine OV v2513 rfl (x_mv f2531) ?_
     refine OV v1 rfl (x_mv f2528) ?_
     refine OV (.int .i64 x2534) rfl (x_move) ?_
     obtain ⟨x2541, ha2542, hm⟩ := bndE hm
     obtain ⟨hz2543, ha2547⟩ := idxE ha2542
     obtain ⟨b2544, q2545, hix2546⟩ := rdL_ix (hL.rdS 2 rfl h2) hz2543 ha2547
     refine OV (.pointer (some ⟨b2544, q2545, none⟩)) rfl (x_ix U34 Try_T62 rfl rfl hix2546) ?_
     refine OV (.agg #[(.int .i64 x2541.Wind), (.int .i64 x2541.Pace)]) rfl (x_loadN (cs := [(.int .i64 x2541.Wind), (.int .i64 x2541.Pace)]) U62 Try_T62 rfl rfl (rdF_cells (hL.rdS 2 rfl h2) hix2546 ha2547)) ?_
     refine OW.cons (S_lit ([x2541] : List CurvePoint) hL U34 Try_T62 rfl (by decide) (by first | (simp [Instr.fill, madeCells, Value.cells, ev, upd, Flat.enc, Flat.sz]; done) | rfl | kernel_rfl) rfl rfl ?_)
     intro wd2548 v2549 S2550 hL
     obtain ⟨hc2554, hm⟩ := chkE hm
     refine OW.cons (S_append (ys := ([x2541] : List CurvePoint)) hL 1 rfl U34 Try_T62 rfl rfl rfl (hL.rdO 0 rfl) hc2554 (by decide) rfl ?_)
     intro wd2551 v2552 S2553 hL
     refine OV v2552 rfl (x_assign) ?_
     refine OW.nil ?_
     have hL := hL.sel [1, 2, 3] (by decide) rfl
     obtain rfl := Option.some.inj hm
     exact ⟨_, rfl, ⟨v2552, S2553, f2528, f2529, f2530, rfl, rfl, hL⟩⟩
   refine CW.exit ?_
   refine XJ.hit ?_
   obtain rfl := Option.some.inj hm
   exact ⟨_, rfl, ⟨v2513, S2514, f2528, f2529, f2530, f2531, f2532, hL⟩⟩
 intro s_l1 F2555 wd2556 t2445 hJ hm hr2446
 unfold M.spec_SimplifyCurve_l1 at hm
 obtain ⟨S2443, S2444, f2557, f2558, f2559, f2560, f2561, f2562, hL⟩ := hJ
 refine CW.seq ?_
 refine CSR ?_
 refine OV (.int .i64 s_l1.2.2) rfl (x_mv f2562) ?_
 refine OV (.bool (decide (0 ≤ s_l1.2.2))) rfl (x_geq rfl rfl) ?_
 refine OW.nil ?_
 refine CW.condM (t := decide (0 ≤ s_l1.2.2)) rfl hm (fun hb2563 hm => ?_) (fun hb2563 hm => ?_)
 · refine CW.skip ?_
   refine CW.seq ?_
   refine CW.block ?_
   refine CSR ?_
   refine OV (.int .i64 s_l1.2.2) rfl (x_mv f2562) ?_
   refine OV (.int .i64 (w64 (s_l1.2.2 + 1))) rfl (x_add rfl rfl) ?_
   refine OV (.int .i64 (w64 (s_l1.2.2 + 1))) rfl (x_assign) ?_
   refine OW.nil ?_
   obtain ⟨o3358, ho3359, hm⟩ := bndE hm
   refine CW.loopB (fun (s_l3 : (List Int) × (List Int) × Int) (F : Fr) (w : World) => ∃ (S3354 : Nat → Prop) (S3355 : Nat → Prop), F 0 = v1 ∧ F 1 = (.int .i64 a1) ∧ F 6 = (.int .i64 (w64 ((a0.length : Int) - 1))) ∧ F 7 = v16 ∧ F 8 = v20 ∧ F 9 = (.int .i64 s_l1.2.2) ∧ F 10 = (.int .i64 s_l3.2.2) ∧ Hp w0 [Ent.own 3 S3355 v20 s_l3.2.1, Ent.own 3 S3354 v16 s_l3.1, Ent.snap w0 w0.heap.size] w) (fun o => outc o (fun x => some (.ret x)) (fun s => M.spec_SimplifyCurve_a3 s_l1 s) = some t2445) ho3359 hm ⟨S2443, S2444, f2557, f2558, f2559, f2560, f2561, f2562, rfl, hL⟩ ?_ ?_
   · intro s_l3 F3360 wd3361 hJ hm
     have hm := outcE hm
     have hm : M.spec_SimplifyCurve_a3 s_l1 s_l3 = some t2445 := hm
     unfold M.spec_SimplifyCurve_a3 at hm
     obtain ⟨S3354, S3355, f3362, f3363, f3364, f3365, f3366, f3367, f3368, hL⟩ := hJ
     refine CW.regionL ?_
     refine OV (.int .i64 s_l1.2.2) rfl (x_mv f3367) ?_
     refine OV (.int .i64 (w64 (s_l1.2.2 - 1))) rfl (x_sub rfl rfl) ?_
     refine OV (.int .i64 (w64 (s_l1.2.2 - 1))) rfl (x_assign) ?_
     refine OW.nil ?_
     obtain rfl := Option.some.inj hm
     exact ⟨_, rfl, ⟨S3354, S3355, f3362, f3363, f3364, f3365, f3366, rfl, hL⟩⟩
   intro s_l3 F3369 wd3370 t3356 hJ hm hr3357
   unfold M.spec_SimplifyCurve_l3 at hm
   obtain ⟨S3354, S3355, f3371, f3372, f3373, f3374, f3375, f3376, f3377, hL⟩ := hJ
   refine CW.seq ?_
   refine CSR ?_
   refine OV (.int .i64 s_l3.2.2) rfl (x_mv f3377) ?_
   refine OV (.int .i64 (w64 ((a0.length : Int) - 1))) rfl (x_mv f3373) ?_
   refine OV (.bool (decide (s_l3.2.2 ≤ (w64 ((a0.length : Int) - 1))))) rfl (x_leq rfl rfl) ?_
   refine OW.nil ?_
   refine CW.condM (t := decide (s_l3.2.2 ≤ (w64 ((a0.length : Int) - 1)))) rfl hm (fun hb3378 hm => ?_) (fun hb3378 hm => ?_)
   · refine CW.skip ?_
     refine CW.seqJ (fun (s_j1 : (List Int) × (List Int)) (F : Fr) (w : World) => ∃ (S3570 : Nat → Prop) (S3571 : Nat → Prop), F 0 = v1 ∧ F 1 = (.int .i64 a1) ∧ F 6 = (.int .i64 (w64 ((a0.length : Int) - 1))) ∧ F 7 = v16 ∧ F 8 = v20 ∧ F 9 = (.int .i64 s_l1.2.2) ∧ F 10 = (.int .i64 s_l3.2.2) ∧ Hp w0 [Ent.own 3 S3571 v20 s_j1.2, Ent.own 3 S3570 v16 s_j1.1, Ent.snap w0 w0.heap.size] w) (fun s_j1 => M.spec_SimplifyCurve_j1 s_l3 s_j1 = some t3356) ?_ ?_
     · refine CW.blockJ (fun (s_j2 : (List Int) × (List Int)) (F : Fr) (w : World) => ∃ (S3671 : Nat → Prop) (S3672 : Nat → Prop), F 0 = v1 ∧ F 1 = (.int .i64 a1) ∧ F 6 = (.int .i64 (w64 ((a0.length : Int) - 1))) ∧ F 7 = v16 ∧ F 8 = v20 ∧ F 9 = (.int .i64 s_l1.2.2) ∧ F 10 = (.int .i64 s_l3.2.2) ∧ Hp w0 [Ent.own 3 S3672 v20 s_j2.2, Ent.own 3 S3671 v16 s_j2.1, Ent.snap w0 w0.heap.size] w) (fun s_j2 => M.spec_SimplifyCurve_j2 s_l3 s_j2 = some t3356) ?_ ?_
       · refine CW.seqJ (fun (s_j3 : Bool) (F : Fr) (w : World) => F 0 = v1 ∧ F 1 = (.int .i64 a1) ∧ F 6 = (.int .i64 (w64 ((a0.length : Int) - 1))) ∧ F 7 = v16 ∧ F 8 = v20 ∧ F 9 = (.int .i64 s_l1.2.2) ∧ F 10 = (.int .i64 s_l3.2.2) ∧ F 64 = (.bool s_j3) ∧ Hp w0 [Ent.own 3 S3355 v20 s_l3.2.1, Ent.own 3 S3354 v16 s_l3.1, Ent.snap w0 w0.heap.size] w) (fun s_j3 => M.spec_SimplifyCurve_j3 s_l1 s_l3 s_j3 = some t3356) ?_ ?_
         · refine CW.draw Try_mixed ?_
           have hL := hL.call (Mod.drew _)
           refine DW.pre (fuel := 0) (fin := bma 24 16777215) (C := fun w' => Mod None_ _ w') [0, 1, 2, 3, 4, 5, 6, 7, 8, 9, 10, 11, 12, 13, 14, 15, 16, 17, 18, 19, 20, 21, 22, 23] (Mod.refl _ _) (by kernel_rfl) (by kernel_rfl) ?_
           refine QW.cons rfl (QP.val (v := v1) rfl (fun w' hm' => x_mv f3371) ?_)
           refine QW.cons rfl (QP.val (v := (.int .i64 s_l1.2.2)) rfl (fun w' hm' => x_mv f3376) ?_)
           refine QW.cons rfl (QP.val (v := (.int .i64 s_l3.2.2)) rfl (fun w' hm' => x_mv f3377) ?_)
           refine QW.cons rfl (QP.val (v := (.int .i64 a1)) rfl (fun w' hm' => x_mv f3372) ?_)
           obtain ⟨x3744, hx3745, hm⟩ := bndE hm
           refine QW.cons rfl (QP.call (v := (.bool x3744)) rfl (fun w' hm' => x_call (vs := [v1, (.int .i64 s_l1.2.2), (.int .i64 s_l3.2.2), (.int .i64 a1)]) Try_C47 ⟨rfl, rfl, rfl, rfl, trivial⟩) (fun w' hm' => (M.spec_l24Near_ok w' a0 ((hL.call hm').rdS 2 rfl h2) s_l1.2.2 s_l3.2.2 a1 hx3745).mono (fun e w'' h => ⟨h.1, hm'.trans h.2.mod⟩)) ?_)
           refine QW.cons rfl (QP.val (v := (.bool x3744)) rfl (fun w' hm' => x_move) ?_)
           refine ifB_elim hm (fun hb3746 hm => ?_) (fun hb3746 hm => ?_)
           · refine QW.cons rfl (QP.yes' rfl rfl hb3746 (QP.val (v := v16) rfl (fun w' hm' => x_mv f3374) ?_))
             refine QW.cons rfl (QP.yes' rfl rfl hb3746 (QP.val (v := (.int .i64 s_l1.2.2)) rfl (fun w' hm' => x_mv f3376) ?_))
             obtain ⟨x3747, ha3748, hm⟩ := bndE hm
             obtain ⟨hz3749, ha3753⟩ := idxE ha3748
             obtain ⟨b3750, q3751, hix3752⟩ := rdL_ix (hL.rdO 1 rfl) hz3749 ha3753
             refine QW.cons rfl (QP.yes' rfl rfl hb3746 (QP.val (v := (.pointer (some ⟨b3750, q3751, none⟩))) rfl (fun w' hm' => x_ix U72 Try_T3 rfl rfl hix3752) ?_))
             refine QW.cons rfl (QP.yes' rfl rfl hb3746 (QP.val (v := (.int .i64 x3747)) rfl (fun w' hm' => x_load1 U3 rfl rfl (rdF_cells ((hL.call hm').rdO 1 rfl) hix3752 ha3753 0 _ rfl)) ?_))
             refine QW.cons rfl (QP.yes' rfl rfl hb3746 (QP.val (v := (.bool (x3747 == 0))) rfl (fun w' hm' => x_eql rfl rfl) ?_))
             refine QW.cons rfl (QP.yes' rfl rfl hb3746 (QP.val (v := (.bool (x3747 == 0))) rfl (fun w' hm' => x_move) ?_))
             refine ifB_elim hm (fun hb3754 hm => ?_) (fun hb3754 hm => ?_)
             · refine QW.cons rfl (QP.no' rfl rfl hb3754 rfl ?_)
               refine QW.cons rfl (QP.no' rfl rfl hb3754 rfl ?_)
               refine QW.cons rfl (QP.no' rfl rfl hb3754 rfl ?_)
               refine QW.cons rfl (QP.no' rfl rfl hb3754 rfl ?_)
               refine QW.cons rfl (QP.no' rfl rfl hb3754 rfl ?_)
               refine QW.cons rfl (QP.no' rfl rfl hb3754 rfl ?_)
               refine QW.cons rfl (QP.no' rfl rfl hb3754 rfl ?_)
               refine QW.cons rfl (QP.no' rfl rfl hb3754 rfl ?_)
               refine QW.cons rfl (QP.no' rfl rfl hb3754 rfl ?_)
               refine QW.cons rfl (QP.no' rfl rfl hb3754 rfl ?_)
               refine QW.cons rfl (QP.yes' rfl rfl hb3746 (QP.val (v := (.bool true)) rfl (fun w' hm' => x_pickT' rfl hb3754 rfl) ?_))
               refine QW.cons rfl (QP.val (v := (.bool true)) rfl (fun w' hm' => x_pickT' rfl hb3746 rfl) ?_)
               refine QW.nil ?_
               intro wd3755 hmod
               have hL := hL.call hmod
               refine DW.done (by kernel_rfl) ?_
               exact ⟨true, hm, ⟨f3371, f3372, f3373, f3374, f3375, f3376, f3377, rfl, hL⟩⟩
             refine QW.cons rfl (QP.yes' rfl rfl hb3754 (QP.val (v := v16) rfl (fun w' hm' => x_mv f3374) ?_))
             refine QW.cons rfl (QP.yes' rfl rfl hb3754 (QP.val (v := (.int .i64 s_l3.2.2)) rfl (fun w' hm' => x_mv f3377) ?_))
             obtain ⟨x3756, ha3757, hm⟩ := bndE hm
             obtain ⟨hz3758, ha3762⟩ := idxE ha3757
             obtain ⟨b3759, q3760, hix3761⟩ := rdL_ix (hL.rdO 1 rfl) hz3758 ha3762
             refine QW.cons rfl (QP.yes' rfl rfl hb3754 (QP.val (v := (.pointer (some ⟨b3759, q3760, none⟩))) rfl (fun w' hm' => x_ix U72 Try_T3 rfl rfl hix3761) ?_))
             refine QW.cons rfl (QP.yes' rfl rfl hb3754 (QP.val (v := (.int .i64 x3756)) rfl (fun w' hm' => x_load1 U3 rfl rfl (rdF_cells ((hL.call hm').rdO 1 rfl) hix3761 ha3762 0 _ rfl)) ?_))
             refine QW.cons rfl (QP.yes' rfl rfl hb3754 (QP.val (v := (.int .i64 (w64 (x3756 + 1)))) rfl (fun w' hm' => x_add rfl rfl) ?_))
             refine QW.cons rfl (QP.yes' rfl rfl hb3754 (QP.val (v := v16) rfl (fun w' hm' => x_mv f3374) ?_))
             refine QW.cons rfl (QP.yes' rfl rfl hb3754 (QP.val (v := (.int .i64 s_l1.2.2)) rfl (fun w' hm' => x_mv f3376) ?_))
             obtain ⟨x3763, ha3764, hm⟩ := bndE hm
             obtain ⟨hz3765, ha3769⟩ := idxE ha3764
             obtain ⟨b3766, q3767, hix3768⟩ := rdL_ix (hL.rdO 1 rfl) hz3765 ha3769
             refine QW.cons rfl (QP.yes' rfl rfl hb3754 (QP.val (v := (.pointer (some ⟨b3766, q3767, none⟩))) rfl (fun w' hm' => x_ix U72 Try_T3 rfl rfl hix3768) ?_))
             refine QW.cons rfl (QP.yes' rfl rfl hb3754 (QP.val (v := (.int .i64 x3763)) rfl (fun w' hm' => x_load1 U3 rfl rfl (rdF_cells ((hL.call hm').rdO 1 rfl) hix3768 ha3769 0 _ rfl)) ?_))
             refine QW.cons rfl (QP.yes' rfl rfl hb3754 (QP.val (v := (.bool (decide ((w64 (x3756 + 1)) < x3763)))) rfl (fun w' hm' => x_lss rfl rfl) ?_))
             refine QW.cons rfl (QP.yes' rfl rfl hb3746 (QP.val (v := (.bool (decide ((w64 (x3756 + 1)) < x3763)))) rfl (fun w' hm' => x_pickF' rfl hb3754 rfl) ?_))
             refine QW.cons rfl (QP.val (v := (.bool (decide ((w64 (x3756 + 1)) < x3763)))) rfl (fun w' hm' => x_pickT' rfl hb3746 rfl) ?_)
             refine QW.nil ?_
             intro wd3770 hmod
             have hL := hL.call hmod
             refine DW.done (by kernel_rfl) ?_
             exact ⟨decide ((w64 (x3756 + 1)) < x3763), hm, ⟨f3371, f3372, f3373, f3374, f3375, f3376, f3377, rfl, hL⟩⟩
           refine QW.cons rfl (QP.no' rfl rfl hb3746 rfl ?_)
           refine QW.cons rfl (QP.no' rfl rfl hb3746 rfl ?_)
           refine QW.cons rfl (QP.no' rfl rfl hb3746 rfl ?_)
           refine QW.cons rfl (QP.no' rfl rfl hb3746 rfl ?_)
           refine QW.cons rfl (QP.no' rfl rfl hb3746 rfl ?_)
           refine QW.cons rfl (QP.no' rfl rfl hb3746 rfl ?_)
           refine QW.cons rfl (QP.noU rfl rfl rfl ?_)
           refine QW.cons rfl (QP.noU rfl rfl rfl ?_)
           refine QW.cons rfl (QP.noU rfl rfl rfl ?_)
           refine QW.cons rfl (QP.noU rfl rfl rfl ?_)
           refine QW.cons rfl (QP.noU rfl rfl rfl ?_)
           refine QW.cons rfl (QP.noU rfl rfl rfl ?_)
           refine QW.cons rfl (QP.noU rfl rfl rfl ?_)
           refine QW.cons rfl (QP.noU rfl rfl rfl ?_)
           refine QW.cons rfl (QP.noU rfl rfl rfl ?_)
           refine QW.cons rfl (QP.noU rfl rfl rfl ?_)
           refine QW.cons rfl (QP.no' rfl rfl hb3746 rfl ?_)
           refine QW.cons rfl (QP.val (v := (.bool false)) rfl (fun w' hm' => x_pickF' rfl hb3746 rfl) ?_)
           refine QW.nil ?_
           intro wd3771 hmod
           have hL := hL.call hmod
           refine DW.done (by kernel_rfl) ?_
           exact ⟨false, hm, ⟨f3371, f3372, f3373, f3374, f3375, f3376, f3377, rfl, hL⟩⟩
         intro s_j3 F3710 wd3711 hJ hm
         unfold M.spec_SimplifyCurve_j3 at hm
         obtain ⟨f3712, f3713, f3714, f3715, f3716, f3717, f3718, f3719, hL⟩ := hJ
         refine CW.condM (t := s_j3) f3719 hm (fun hb3720 hm => ?_) (fun hb3720 hm => ?_)
         · refine CSR ?_
           refine OV v16 rfl (x_mv f3715) ?_
           refine OV (.int .i64 s_l1.2.2) rfl (x_mv f3717) ?_
           refine OV v16 rfl (x_mv f3715) ?_
           refine OV (.int .i64 s_l3.2.2) rfl (x_mv f3718) ?_
           obtain ⟨x3721, ha3722, hm⟩ := bndE hm
           obtain ⟨hz3723, ha3727⟩ := idxE ha3722
           obtain ⟨b3724, q3725, hix3726⟩ := rdL_ix (hL.rdO 1 rfl) hz3723 ha3727
           refine OV (.pointer (some ⟨b3724, q3725, none⟩)) rfl (x_ix U72 Try_T3 rfl rfl hix3726) ?_
           refine OV (.int .i64 x3721) rfl (x_load1 U3 rfl rfl (rdF_cells (hL.rdO 1 rfl) hix3726 ha3727 0 _ rfl)) ?_
           refine OV (.int .i64 (w64 (x3721 + 1))) rfl (x_add rfl rfl) ?_
           obtain ⟨x3728, ha3729, hm⟩ := bndE hm
           obtain ⟨hz3730, ha3734⟩ := idxE ha3729
           obtain ⟨b3731, q3732, hix3733⟩ := rdL_ix (hL.rdO 1 rfl) hz3730 ha3734
           refine OV (.pointer (some ⟨b3731, q3732, none⟩)) rfl (x_ix U72 Try_T3 rfl rfl hix3733) ?_
           refine OW.cons (S_storeX (j := 0) (w64 (x3721 + 1)) hL 1 rfl Try_T3 hix3733 ha3734 rfl rfl rfl rfl rfl rfl ?_)
           intro wd3735 hL
           refine OW.nil ?_
           refine CW.regionL ?_
           refine OV v20 rfl (x_mv f3716) ?_
           refine OV (.int .i64 s_l1.2.2) rfl (x_mv f3717) ?_
           refine OV (.int .i64 s_l3.2.2) rfl (x_mv f3718) ?_
           obtain ⟨x3736, ha3737, hm⟩ := bndE hm
           obtain ⟨hz3738, ha3742⟩ := idxE ha3737
           obtain ⟨b3739, q3740, hix3741⟩ := rdL_ix (hL.rdO 0 rfl) hz3738 ha3742
           refine OV (.pointer (some ⟨b3739, q3740, none⟩)) rfl (x_ix U72 Try_T3 rfl rfl hix3741) ?_
           refine OW.cons (S_storeX (j := 0) s_l3.2.2 hL 0 rfl Try_T3 hix3741 ha3742 rfl rfl rfl rfl rfl rfl ?_)
           intro wd3743 hL
           refine OW.nil ?_
           exact ⟨(s_l3.1.set (s_l1.2.2 : Int).toNat (w64 (x3721 + 1)), s_l3.2.1.set (s_l1.2.2 : Int).toNat s_l3.2.2), hm, ⟨S3354, S3355, f3712, f3713, f3714, f3715, f3716, f3717, f3718, hL⟩⟩
         refine CW.skip ?_
         exact ⟨(s_l3.1, s_l3.2.1), hm, ⟨S3354, S3355, f3712, f3713, f3714, f3715, f3716, f3717, f3718, hL⟩⟩
       intro s_j2 F3673 wd3674 hJ hm
       unfold M.spec_SimplifyCurve_j2 at hm
       obtain ⟨S3671, S3672, f3675, f3676, f3677, f3678, f3679, f3680, f3681, hL⟩ := hJ
       exact ⟨(s_j2.1, s_j2.2), hm, ⟨S3671, S3672, f3675, f3676, f3677, f3678, f3679, f3680, f3681, hL⟩⟩
     intro s_j1 F3572 wd3573 hJ hm
     unfold M.spec_SimplifyCurve_j1 at hm
     obtain ⟨S3570, S3571, f3574, f3575, f3576, f3577, f3578, f3579, f3580, hL⟩ := hJ
     refine CW.regionL ?_
     refine OV (.int .i64 s_l3.2.2) rfl (x_mv f3580) ?_
     refine OV (.int .i64 (w64 (s_l3.2.2 + 1))) rfl (x_add rfl rfl) ?_
     refine OV (.int .i64 (w64 (s_l3.2.2 + 1))) rfl (x_assign) ?_
     refine OW.nil ?_
     obtain rfl := Option.some.inj hm
     exact ⟨_, rfl, ⟨S3570, S3571, f3574, f3575, f3576, f3577, f3578, f3579, rfl, hL⟩⟩
   refine CW.exit ?_
   refine XJ.hit ?_
   obtain rfl := Option.some.inj hm
   exact ⟨_, rfl, ⟨S3354, S3355, f3371, f3372, f3373, f3374, f3375, f3376, f3377, hL⟩⟩
 refine CW.exit ?_
 refine XJ.hit ?_
 obtain rfl := Option.some.inj hm
 exact ⟨_, rfl, ⟨S2443, S2444, f2557, f2558, f2559, f2560, f2561, f2562, hL⟩⟩

theorem M.math_bits_OnesCount64_ok (w0 : World) (a0 : Int) {r : Int} (hm : M.math_bits_OnesCount64 a0 = some r) :
    Calls Try.prog 64 #[(.int .u64 a0)] w0 fun e w' => e = .returned (.int .i64 r) ∧ Fresh w0 w' [] := by
 unfold M.math_bits_OnesCount64 at hm
 refine calls_CW (args := [(.int .u64 a0)]) Try.func64 rfl rfl rfl ?_
 have hL := Hp.start w0
 refine CSR ?_
 refine OV (.int .i64 0) rfl (x_assign) ?_
 refine ONR ?_
 refine OV (.int .u64 a0) rfl (x_move) ?_
 refine OV (.int .u64 (shrI .u64 a0 1)) rfl (x_shr rfl rfl (by decide)) ?_
 refine OV (.int .u64 (andI .u64 (shrI .u64 a0 1) 6148914691236517205)) rfl (x_and rfl rfl) ?_
 refine OV (.int .u64 a0) rfl (x_move) ?_
 refine OV (.int .u64 (andI .u64 a0 6148914691236517205)) rfl (x_and rfl rfl) ?_
 refine OV (.int .u64 (IntKind.u64.wrap ((andI .u64 (shrI .u64 a0 1) 6148914691236517205) + (andI .u64 a0 6148914691236517205)))) rfl (x_add rfl rfl) ?_
 refine OV (.int .u64 (IntKind.u64.wrap ((andI .u64 (shrI .u64 a0 1) 6148914691236517205) + (andI .u64 a0 6148914691236517205)))) rfl (x_assign) ?_
 refine ONR ?_
 refine OV (.int .u64 (IntKind.u64.wrap ((andI .u64 (shrI .u64 a0 1) 6148914691236517205) + (andI .u64 a0 6148914691236517205)))) rfl (x_move) ?_
 refine OV (.int .u64 (shrI .u64 (IntKind.u64.wrap ((andI .u64 (shrI .u64 a0 1) 6148914691236517205) + (andI .u64 a0 6148914691236517205))) 2)) rfl (x_shr rfl rfl (by decide)) ?_
 refine OV (.int .u64 (andI .u64 (shrI .u64 (IntKind.u64.wrap ((andI .u64 (shrI .u64 a0 1) 6148914691236517205) + (andI .u64 a0 6148914691236517205))) 2) 3689348814741910323)) rfl (x_and rfl rfl) ?_
 refine OV (.int .u64 (IntKind.u64.wrap ((andI .u64 (shrI .u64 a0 1) 6148914691236517205) + (andI .u64 a0 6148914691236517205)))) rfl (x_move) ?_
 refine OV (.int .u64 (andI .u64 (IntKind.u64.wrap ((andI .u64 (shrI .u64 a0 1) 6148914691236517205) + (andI .u64 a0 6148914691236517205))) 3689348814741910323)) rfl (x_and rfl rfl) ?_
 refine OV (.int .u64 (IntKind.u64.wrap ((andI .u64 (shrI .u64 (IntKind.u64.wrap ((andI .u64 (shrI .u64 a0 1) 6148914691236517205) + (andI .u64 a0 6148914691236517205))) 2) 3689348814741910323) + (andI .u64 (IntKind.u64.wrap ((andI .u64 (shrI .u64 a0 1) 6148914691236517205) + (andI .u64 a0 6148914691236517205))) 3689348814741910323)))) rfl (x_add rfl rfl) ?_
 refine OV (.int .u64 (IntKind.u64.wrap ((andI .u64 (shrI .u64 (IntKind.u64.wrap ((andI .u64 (shrI .u64 a0 1) 6148914691236517205) + (andI .u64 a0 6148914691236517205))) 2) 3689348814741910323) + (andI .u64 (IntKind.u64.wrap ((andI .u64 (shrI .u64 a0 1) 6148914691236517205) + (andI .u64 a0 6148914691236517205))) 3689348814741910323)))) rfl (x_assign) ?_
 refine ONR ?_
 refine OV (.int .u64 (IntKind.u64.wrap ((andI .u64 (shrI .u64 (IntKind.u64.wrap ((andI .u64 (shrI .u64 a0 1) 6148914691236517205) + (andI .u64 a0 6148914691236517205))) 2) 3689348814741910323) + (andI .u64 (IntKind.u64.wrap ((andI .u64 (shrI .u64 a0 1) 6148914691236517205) + (andI .u64 a0 6148914691236517205))) 3689348814741910323)))) rfl (x_move) ?_
 refine OV (.int .u64 (shrI .u64 (IntKind.u64.wrap ((andI .u64 (shrI .u64 (IntKind.u64.wrap ((andI .u64 (shrI .u64 a0 1) 6148914691236517205) + (andI .u64 a0 6148914691236517205))) 2) 3689348814741910323) + (andI .u64 (IntKind.u64.wrap ((andI .u64 (shrI .u64 a0 1) 6148914691236517205) + (andI .u64 a0 6148914691236517205))) 3689348814741910323))) 4)) rfl (x_shr rfl rfl (by decide)) ?_
 refine OV (.int .u64 (IntKind.u64.wrap ((andI .u64 (shrI .u64 (IntKind.u64.wrap ((andI .u64 (shrI .u64 a0 1) 6148914691236517205) + (andI .u64 a0 6148914691236517205))) 2) 3689348814741910323) + (andI .u64 (IntKind.u64.wrap ((andI .u64 (shrI .u64 a0 1) 6148914691236517205) + (andI .u64 a0 6148914691236517205))) 3689348814741910323)))) rfl (x_move) ?_
 refine OV (.int .u64 (IntKind.u64.wrap ((shrI .u64 (IntKind.u64.wrap ((andI .u64 (shrI .u64 (IntKind.u64.wrap ((andI .u64 (shrI .u64 a0 1) 6148914691236517205) + (andI .u64 a0 6148914691236517205))) 2) 3689348814741910323) + (andI .u64 (IntKind.u64.wrap ((andI .u64 (shrI .u64 a0 1) 6148914691236517205) + (andI .u64 a0 6148914691236517205))) 3689348814741910323))) 4) + (IntKind.u64.wrap ((andI .u64 (shrI .u64 (IntKind.u64.wrap ((andI .u64 (shrI .u64 a0 1) 6148914691236517205) + (andI .u64 a0 6148914691236517205))) 2) 3689348814741910323) + (andI .u64 (IntKind.u64.wrap ((andI .u64 (shrI .u64 a0 1) 6148914691236517205) + (andI .u64 a0 6148914691236517205))) 3689348814741910323)))))) rfl (x_add rfl rfl) ?_
 refine OV (.int .u64 (andI .u64 (IntKind.u64.wrap ((shrI .u64 (IntKind.u64.wrap ((andI .u64 (shrI .u64 (IntKind.u64.wrap ((andI .u64 (shrI .u64 a0 1) 6148914691236517205) + (andI .u64 a0 6148914691236517205))) 2) 3689348814741910323) + (andI .u64 (IntKind.u64.wrap ((andI .u64 (shrI .u64 a0 1) 6148914691236517205) + (andI .u64 a0 6148914691236517205))) 3689348814741910323))) 4) + (IntKind.u64.wrap ((andI .u64 (shrI .u64 (IntKind.u64.wrap ((andI .u64 (shrI .u64 a0 1) 6148914691236517205) + (andI .u64 a0 6148914691236517205))) 2) 3689348814741910323) + (andI .u64 (IntKind.u64.wrap ((andI .u64 (shrI .u64 a0 1) 6148914691236517205) + (andI .u64 a0 6148914691236517205))) 3689348814741910323))))) 1085102592571150095)) rfl (x_and rfl rfl) ?_
 refine OV (.int .u64 (andI .u64 (IntKind.u64.wrap ((shrI .u64 (IntKind.u64.wrap ((andI .u64 (shrI .u64 (IntKind.u64.wrap ((andI .u64 (shrI .u64 a0 1) 6148914691236517205) + (andI .u64 a0 6148914691236517205))) 2) 3689348814741910323) + (andI .u64 (IntKind.u64.wrap ((andI .u64 (shrI .u64 a0 1) 6148914691236517205) + (andI .u64 a0 6148914691236517205))) 3689348814741910323))) 4) + (IntKind.u64.wrap ((andI .u64 (shrI .u64 (IntKind.u64.wrap ((andI .u64 (shrI .u64 a0 1) 6148914691236517205) + (andI .u64 a0 6148914691236517205))) 2) 3689348814741910323) + (andI .u64 (IntKind.u64.wrap ((andI .u64 (shrI .u64 a0 1) 6148914691236517205) + (andI .u64 a0 6148914691236517205))) 3689348814741910323))))) 1085102592571150095)) rfl (x_assign) ?_
 refine ONR ?_
 refine OV (.int .u64 (andI .u64 (IntKind.u64.wrap ((shrI .u64 (IntKind.u64.wrap ((andI .u64 (shrI .u64 (IntKind.u64.wrap ((andI .u64 (shrI .u64 a0 1) 6148914691236517205) + (andI .u64 a0 6148914691236517205))) 2) 3689348814741910323) + (andI .u64 (IntKind.u64.wrap ((andI .u64 (shrI .u64 a0 1) 6148914691236517205) + (andI .u64 a0 6148914691236517205))) 3689348814741910323))) 4) + (IntKind.u64.wrap ((andI .u64 (shrI .u64 (IntKind.u64.wrap ((andI .u64 (shrI .u64 a0 1) 6148914691236517205) + (andI .u64 a0 6148914691236517205))) 2) 3689348814741910323) + (andI .u64 (IntKind.u64.wrap ((andI .u64 (shrI .u64 a0 1) 6148914691236517205) + (andI .u64 a0 6148914691236517205))) 3689348814741910323))))) 1085102592571150095)) rfl (x_move) ?_
 refine OV (.int .u64 (andI .u64 (IntKind.u64.wrap ((shrI .u64 (IntKind.u64.wrap ((andI .u64 (shrI .u64 (IntKind.u64.wrap ((andI .u64 (shrI .u64 a0 1) 6148914691236517205) + (andI .u64 a0 6148914691236517205))) 2) 3689348814741910323) + (andI .u64 (IntKind.u64.wrap ((andI .u64 (shrI .u64 a0 1) 6148914691236517205) + (andI .u64 a0 6148914691236517205))) 3689348814741910323))) 4) + (IntKind.u64.wrap ((andI .u64 (shrI .u64 (IntKind.u64.wrap ((andI .u64 (shrI .u64 a0 1) 6148914691236517205) + (andI .u64 a0 6148914691236517205))) 2) 3689348814741910323) + (andI .u64 (IntKind.u64.wrap ((andI .u64 (shrI .u64 a0 1) 6148914691236517205) + (andI .u64 a0 6148914691236517205))) 3689348814741910323))))) 1085102592571150095)) rfl (x_move) ?_
 refine OV (.int .u64 (shrI .u64 (andI .u64 (IntKind.u64.wrap ((shrI .u64 (IntKind.u64.wrap ((andI .u64 (shrI .u64 (IntKind.u64.wrap ((andI .u64 (shrI .u64 a0 1) 6148914691236517205) + (andI .u64 a0 6148914691236517205))) 2) 3689348814741910323) + (andI .u64 (IntKind.u64.wrap ((andI .u64 (shrI .u64 a0 1) 6148914691236517205) + (andI .u64 a0 6148914691236517205))) 3689348814741910323))) 4) + (IntKind.u64.wrap ((andI .u64 (shrI .u64 (IntKind.u64.wrap ((andI .u64 (shrI .u64 a0 1) 6148914691236517205) + (andI .u64 a0 6148914691236517205))) 2) 3689348814741910323) + (andI .u64 (IntKind.u64.wrap ((andI .u64 (shrI .u64 a0 1) 6148914691236517205) + (andI .u64 a0 6148914691236517205))) 3689348814741910323))))) 1085102592571150095) 8)) rfl (x_shr rfl rfl (by decide)) ?_
 refine OV (.int .u64 (IntKind.u64.wrap ((andI .u64 (IntKind.u64.wrap ((shrI .u64 (IntKind.u64.wrap ((andI .u64 (shrI .u64 (IntKind.u64.wrap ((andI .u64 (shrI .u64 a0 1) 6148914691236517205) + (andI .u64 a0 6148914691236517205))) 2) 3689348814741910323) + (andI .u64 (IntKind.u64.wrap ((andI .u64 (shrI .u64 a0 1) 6148914691236517205) + (andI .u64 a0 6148914691236517205))) 3689348814741910323))) 4) + (IntKind.u64.wrap ((andI .u64 (shrI .u64 (IntKind.u64.wrap ((andI .u64 (shrI .u64 a0 1) 6148914691236517205) + (andI .u64 a0 6148914691236517205))) 2) 3689348814741910323) + (andI .u64 (IntKind.u64.wrap ((andI .u64 (shrI .u64 a0 1) 6148914691236517205) + (andI .u64 a0 6148914691236517205))) 3689348814741910323))))) 1085102592571150095) + (shrI .u64 (andI .u64 (IntKind.u64.wrap ((shrI .u64 (IntKind.u64.wrap ((andI .u64 (shrI .u64 (IntKind.u64.wrap ((andI .u64 (shrI .u64 a0 1) 6148914691236517205) + (andI .u64 a0 6148914691236517205))) 2) 3689348814741910323) + (andI .u64 (IntKind.u64.wrap ((andI .u64 (shrI .u64 a0 1) 6148914691236517205) + (andI .u64 a0 6148914691236517205))) 3689348814741910323))) 4) + (IntKind.u64.wrap ((andI .u64 (shrI .u64 (IntKind.u64.wrap ((andI .u64 (shrI .u64 a0 1) 6148914691236517205) + (andI .u64 a0 6148914691236517205))) 2) 3689348814741910323) + (andI .u64 (IntKind.u64.wrap ((andI .u64 (shrI .u64 a0 1) 6148914691236517205) + (andI .u64 a0 6148914691236517205))) 3689348814741910323))))) 1085102592571150095) 8)))) rfl (x_add rfl rfl) ?_
 refine OV (.int .u64 (IntKind.u64.wrap ((andI .u64 (IntKind.u64.wrap ((shrI .u64 (IntKind.u64.wrap ((andI .u64 (shrI .u64 (IntKind.u64.wrap ((andI .u64 (shrI .u64 a0 1) 6148914691236517205) + (andI .u64 a0 6148914691236517205))) 2) 3689348814741910323) + (andI .u64 (IntKind.u64.wrap ((andI .u64 (shrI .u64 a0 1) 6148914691236517205) + (andI .u64 a0 6148914691236517205))) 3689348814741910323))) 4) + (IntKind.u64.wrap ((andI .u64 (shrI .u64 (IntKind.u64.wrap ((andI .u64 (shrI .u64 a0 1) 6148914691236517205) + (andI .u64 a0 6148914691236517205))) 2) 3689348814741910323) + (andI .u64 (IntKind.u64.wrap ((andI .u64 (shrI .u64 a0 1) 6148914691236517205) + (andI .u64 a0 6148914691236517205))) 3689348814741910323))))) 1085102592571150095) + (shrI .u64 (andI .u64 (IntKind.u64.wrap ((shrI .u64 (IntKind.u64.wrap ((andI .u64 (shrI .u64 (IntKind.u64.wrap ((andI .u64 (shrI .u64 a0 1) 6148914691236517205) + (andI .u64 a0 6148914691236517205))) 2) 3689348814741910323) + (andI .u64 (IntKind.u64.wrap ((andI .u64 (shrI .u64 a0 1) 6148914691236517205) + (andI .u64 a0 6148914691236517205))) 3689348814741910323))) 4) + (IntKind.u64.wrap ((andI .u64 (shrI .u64 (IntKind.u64.wrap ((andI .u64 (shrI .u64 a0 1) 6148914691236517205) + (andI .u64 a0 6148914691236517205))) 2) 3689348814741910323) + (andI .u64 (IntKind.u64.wrap ((andI .u64 (shrI .u64 a0 1) 6148914691236517205) + (andI .u64 a0 6148914691236517205))) 3689348814741910323))))) 1085102592571150095) 8)))) rfl (x_assign) ?_
 refine ONR ?_
 refine OV (.int .u64 (IntKind.u64.wrap ((andI .u64 (IntKind.u64.wrap ((shrI .u64 (IntKind.u64.wrap ((andI .u64 (shrI .u64 (IntKind.u64.wrap ((andI .u64 (shrI .u64 a0 1) 6148914691236517205) + (andI .u64 a0 6148914691236517205))) 2) 3689348814741910323) + (andI .u64 (IntKind.u64.wrap ((andI .u64 (shrI .u64 a0 1) 6148914691236517205) + (andI .u64 a0 6148914691236517205))) 3689348814741910323))) 4) + (IntKind.u64.wrap ((andI .u64 (shrI .u64 (IntKind.u64.wrap ((andI .u64 (shrI .u64 a0 1) 6148914691236517205) + (andI .u64 a0 6148914691236517205))) 2) 3689348814741910323) + (andI .u64 (IntKind.u64.wrap ((andI .u64 (shrI .u64 a0 1) 6148914691236517205) + (andI .u64 a0 6148914691236517205))) 3689348814741910323))))) 1085102592571150095) + (shrI .u64 (andI .u64 (IntKind.u64.wrap ((shrI .u64 (IntKind.u64.wrap ((andI .u64 (shrI .u64 (IntKind.u64.wrap ((andI .u64 (shrI .u64 a0 1) 6148914691236517205) + (andI .u64 a0 6148914691236517205))) 2) 3689348814741910323) + (andI .u64 (IntKind.u64.wrap ((andI .u64 (shrI .u64 a0 1) 6148914691236517205) + (andI .u64 a0 6148914691236517205))) 3689348814741910323))) 4) + (IntKind.u64.wrap ((andI .u64 (shrI .u64 (IntKind.u64.wrap ((andI .u64 (shrI .u64 a0 1) 6148914691236517205) + (andI .u64 a0 6148914691236517205))) 2) 3689348814741910323) + (andI .u64 (IntKind.u64.wrap ((andI .u64 (shrI .u64 a0 1) 6148914691236517205) + (andI .u64 a0 6148914691236517205))) 3689348814741910323))))) 1085102592571150095) 8)))) rfl (x_move) ?_
 refine OV (.int .u64 (IntKind.u64.wrap ((andI .u64 (IntKind.u64.wrap ((shrI .u64 (IntKind.u64.wrap ((andI .u64 (shrI .u64 (IntKind.u64.wrap ((andI .u64 (shrI .u64 a0 1) 6148914691236517205) + (andI .u64 a0 6148914691236517205))) 2) 3689348814741910323) + (andI .u64 (IntKind.u64.wrap ((andI .u64 (shrI .u64 a0 1) 6148914691236517205) + (andI .u64 a0 6148914691236517205))) 3689348814741910323))) 4) + (IntKind.u64.wrap ((andI .u64 (shrI .u64 (IntKind.u64.wrap ((andI .u64 (shrI .u64 a0 1) 6148914691236517205) + (andI .u64 a0 6148914691236517205))) 2) 3689348814741910323) + (andI .u64 (IntKind.u64.wrap ((andI .u64 (shrI .u64 a0 1) 6148914691236517205) + (andI .u64 a0 6148914691236517205))) 3689348814741910323))))) 1085102592571150095) + (shrI .u64 (andI .u64 (IntKind.u64.wrap ((shrI .u64 (IntKind.u64.wrap ((andI .u64 (shrI .u64 (IntKind.u64.wrap ((andI .u64 (shrI .u64 a0 1) 6148914691236517205) + (andI .u64 a0 6148914691236517205))) 2) 3689348814741910323) + (andI .u64 (IntKind.u64.wrap ((andI .u64 (shrI .u64 a0 1) 6148914691236517205) + (andI .u64 a0 6148914691236517205))) 3689348814741910323))) 4) + (IntKind.u64.wrap ((andI .u64 (shrI .u64 (IntKind.u64.wrap ((andI .u64 (shrI .u64 a0 1) 6148914691236517205) + (andI .u64 a0 6148914691236517205))) 2) 3689348814741910323) + (andI .u64 (IntKind.u64.wrap ((andI .u64 (shrI .u64 a0 1) 6148914691236517205) + (andI .u64 a0 6148914691236517205))) 3689348814741910323))))) 1085102592571150095) 8)))) rfl (x_move) ?_
 refine OV (.int .u64 (shrI .u64 (IntKind.u64.wrap ((andI .u64 (IntKind.u64.wrap ((shrI .u64 (IntKind.u64.wrap ((andI .u64 (shrI .u64 (IntKind.u64.wrap ((andI .u64 (shrI .u64 a0 1) 6148914691236517205) + (andI .u64 a0 6148914691236517205))) 2) 3689348814741910323) + (andI .u64 (IntKind.u64.wrap ((andI .u64 (shrI .u64 a0 1) 6148914691236517205) + (andI .u64 a0 6148914691236517205))) 3689348814741910323))) 4) + (IntKind.u64.wrap ((andI .u64 (shrI .u64 (IntKind.u64.wrap ((andI .u64 (shrI .u64 a0 1) 6148914691236517205) + (andI .u64 a0 6148914691236517205))) 2) 3689348814741910323) + (andI .u64 (IntKind.u64.wrap ((andI .u64 (shrI .u64 a0 1) 6148914691236517205) + (andI .u64 a0 6148914691236517205))) 3689348814741910323))))) 1085102592571150095) + (shrI .u64 (andI .u64 (IntKind.u64.wrap ((shrI .u64 (IntKind.u64.wrap ((andI .u64 (shrI .u64 (IntKind.u64.wrap ((andI .u64 (shrI .u64 a0 1) 6148914691236517205) + (andI .u64 a0 6148914691236517205))) 2) 3689348814741910323) + (andI .u64 (IntKind.u64.wrap ((andI .u64 (shrI .u64 a0 1) 6148914691236517205) + (andI .u64 a0 6148914691236517205))) 3689348814741910323))) 4) + (IntKind.u64.wrap ((andI .u64 (shrI .u64 (IntKind.u64.wrap ((andI .u64 (shrI .u64 a0 1) 6148914691236517205) + (andI .u64 a0 6148914691236517205))) 2) 3689348814741910323) + (andI .u64 (IntKind.u64.wrap ((andI .u64 (shrI .u64 a0 1) 6148914691236517205) + (andI .u64 a0 6148914691236517205))) 3689348814741910323))))) 1085102592571150095) 8))) 16)) rfl (x_shr rfl rfl (by decide)) ?_
 refine OV (.int .u64 (IntKind.u64.wrap ((IntKind.u64.wrap ((andI .u64 (IntKind.u64.wrap ((shrI .u64 (IntKind.u64.wrap ((andI .u64 (shrI .u64 (IntKind.u64.wrap ((andI .u64 (shrI .u64 a0 1) 6148914691236517205) + (andI .u64 a0 6148914691236517205))) 2) 3689348814741910323) + (andI .u64 (IntKind.u64.wrap ((andI .u64 (shrI .u64 a0 1) 6148914691236517205) + (andI .u64 a0 6148914691236517205))) 3689348814741910323))) 4) + (IntKind.u64.wrap ((andI .u64 (shrI .u64 (IntKind.u64.wrap ((andI .u64 (shrI .u64 a0 1) 6148914691236517205) + (andI .u64 a0 6148914691236517205))) 2) 3689348814741910323) + (andI .u64 (IntKind.u64.wrap ((andI .u64 (shrI .u64 a0 1) 6148914691236517205) + (andI .u64 a0 6148914691236517205))) 3689348814741910323))))) 1085102592571150095) + (shrI .u64 (andI .u64 (IntKind.u64.wrap ((shrI .u64 (IntKind.u64.wrap ((andI .u64 (shrI .u64 (IntKind.u64.wrap ((andI .u64 (shrI .u64 a0 1) 6148914691236517205) + (andI .u64 a0 6148914691236517205))) 2) 3689348814741910323) + (andI .u64 (IntKind.u64.wrap ((andI .u64 (shrI .u64 a0 1) 6148914691236517205) + (andI .u64 a0 6148914691236517205))) 3689348814741910323))) 4) + (IntKind.u64.wrap ((andI .u64 (shrI .u64 (IntKind.u64.wrap ((andI .u64 (shrI .u64 a0 1) 6148914691236517205) + (andI .u64 a0 6148914691236517205))) 2) 3689348814741910323) + (andI .u64 (IntKind.u64.wrap ((andI .u64 (shrI .u64 a0 1) 6148914691236517205) + (andI .u64 a0 6148914691236517205))) 3689348814741910323))))) 1085102592571150095) 8))) + (shrI .u64 (IntKind.u64.wrap ((andI .u64 (IntKind.u64.wrap ((shrI .u64 (IntKind.u64.wrap ((andI .u64 (shrI .u64 (IntKind.u64.wrap ((andI .u64 (shrI .u64 a0 1) 6148914691236517205) + (andI .u64 a0 6148914691236517205))) 2) 3689348814741910323) + (andI .u64 (IntKind.u64.wrap ((andI .u64 (shrI .u64 a0 1) 6148914691236517205) + (andI .u64 a0 6148914691236517205))) 3689348814741910323))) 4) + (IntKind.u64.wrap ((andI .u64 (shrI .u64 (IntKind.u64.wrap ((andI .u64 (shrI .u64 a0 1) 6148914691236517205) + (andI .u64 a0 6148914691236517205))) 2) 3689348814741910323) + (andI .u64 (IntKind.u64.wrap ((andI .u64 (shrI .u64 a0 1) 6148914691236517205) + (andI .u64 a0 6148914691236517205))) 3689348814741910323))))) 1085102592571150095) + (shrI .u64 (andI .u64 (IntKind.u64.wrap ((shrI .u64 (IntKind.u64.wrap ((andI .u64 (shrI .u64 (IntKind.u64.wrap ((andI .u64 (shrI .u64 a0 1) 6148914691236517205) + (andI .u64 a0 6148914691236517205))) 2) 3689348814741910323) + (andI .u64 (IntKind.u64.wrap ((andI .u64 (shrI .u64 a0 1) 6148914691236517205) + (andI .u64 a0 6148914691236517205))) 3689348814741910323))) 4) + (IntKind.u64.wrap ((andI .u64 (shrI .u64 (IntKind.u64.wrap ((andI .u64 (shrI .u64 a0 1) 6148914691236517205) + (andI .u64 a0 6148914691236517205))) 2) 3689348814741910323) + (andI .u64 (IntKind.u64.wrap ((andI .u64 (shrI .u64 a0 1) 6148914691236517205) + (andI .u64 a0 6148914691236517205))) 3689348814741910323))))) 1085102592571150095) 8))) 16)))) rfl (x_add rfl rfl) ?_
 refine OV (.int .u64 (IntKind.u64.wrap ((IntKind.u64.wrap ((andI .u64 (IntKind.u64.wrap ((shrI .u64 (IntKind.u64.wrap ((andI .u64 (shrI .u64 (IntKind.u64.wrap ((andI .u64 (shrI .u64 a0 1) 6148914691236517205) + (andI .u64 a0 6148914691236517205))) 2) 3689348814741910323) + (andI .u64 (IntKind.u64.wrap ((andI .u64 (shrI .u64 a0 1) 6148914691236517205) + (andI .u64 a0 6148914691236517205))) 3689348814741910323))) 4) + (IntKind.u64.wrap ((andI .u64 (shrI .u64 (IntKind.u64.wrap ((andI .u64 (shrI .u64 a0 1) 6148914691236517205) + (andI .u64 a0 6148914691236517205))) 2) 3689348814741910323) + (andI .u64 (IntKind.u64.wrap ((andI .u64 (shrI .u64 a0 1) 6148914691236517205) + (andI .u64 a0 6148914691236517205))) 3689348814741910323))))) 1085102592571150095) + (shrI .u64 (andI .u64 (IntKind.u64.wrap ((shrI .u64 (IntKind.u64.wrap ((andI .u64 (shrI .u64 (IntKind.u64.wrap ((andI .u64 (shrI .u64 a0 1) 6148914691236517205) + (andI .u64 a0 6148914691236517205))) 2) 3689348814741910323) + (andI .u64 (IntKind.u64.wrap ((andI .u64 (shrI .u64 a0 1) 6148914691236517205) + (andI .u64 a0 6148914691236517205))) 3689348814741910323))) 4) + (IntKind.u64.wrap ((andI .u64 (shrI .u64 (IntKind.u64.wrap ((andI .u64 (shrI .u64 a0 1) 6148914691236517205) + (andI .u64 a0 6148914691236517205))) 2) 3689348814741910323) + (andI .u64 (IntKind.u64.wrap ((andI .u64 (shrI .u64 a0 1) 6148914691236517205) + (andI .u64 a0 6148914691236517205))) 3689348814741910323))))) 1085102592571150095) 8))) + (shrI .u64 (IntKind.u64.wrap ((andI .u64 (IntKind.u64.wrap ((shrI .u64 (IntKind.u64.wrap ((andI .u64 (shrI .u64 (IntKind.u64.wrap ((andI .u64 (shrI .u64 a0 1) 6148914691236517205) + (andI .u64 a0 6148914691236517205))) 2) 3689348814741910323) + (andI .u64 (IntKind.u64.wrap ((andI .u64 (shrI .u64 a0 1) 6148914691236517205) + (andI .u64 a0 6148914691236517205))) 3689348814741910323))) 4) + (IntKind.u64.wrap ((andI .u64 (shrI .u64 (IntKind.u64.wrap ((andI .u64 (shrI .u64 a0 1) 6148914691236517205) + (andI .u64 a0 6148914691236517205))) 2) 3689348814741910323) + (andI .u64 (IntKind.u64.wrap ((andI .u64 (shrI .u64 a0 1) 6148914691236517205) + (andI .u64 a0 6148914691236517205))) 3689348814741910323))))) 1085102592571150095) + (shrI .u64 (andI .u64 (IntKind.u64.wrap ((shrI .u64 (IntKind.u64.wrap ((andI .u64 (shrI .u64 (IntKind.u64.wrap ((andI .u64 (shrI .u64 a0 1) 6148914691236517205) + (andI .u64 a0 6148914691236517205))) 2) 3689348814741910323) + (andI .u64 (IntKind.u64.wrap ((andI .u64 (shrI .u64 a0 1) 6148914691236517205) + (andI .u64 a0 6148914691236517205))) 3689348814741910323))) 4) + (IntKind.u64.wrap ((andI .u64 (shrI .u64 (IntKind.u64.wrap ((andI .u64 (shrI .u64 a0 1) 6148914691236517205) + (andI .u64 a0 6148914691236517205))) 2) 3689348814741910323) + (andI .u64 (IntKind.u64.wrap ((andI .u64 (shrI .u64 a0 1) 6148914691236517205) + (andI .u64 a0 6148914691236517205))) 3689348814741910323))))) 1085102592571150095) 8))) 16)))) rfl (x_assign) ?_
 refine ONR ?_
 refine OV (.int .u64 (IntKind.u64.wrap ((IntKind.u64.wrap ((andI .u64 (IntKind.u64.wrap ((shrI .u64 (IntKind.u64.wrap ((andI .u64 (shrI .u64 (IntKind.u64.wrap ((andI .u64 (shrI .u64 a0 1) 6148914691236517205) + (andI .u64 a0 6148914691236517205))) 2) 3689348814741910323) + (andI .u64 (IntKind.u64.wrap ((andI .u64 (shrI .u64 a0 1) 6148914691236517205) + (andI .u64 a0 6148914691236517205))) 3689348814741910323))) 4) + (IntKind.u64.wrap ((andI .u64 (shrI .u64 (IntKind.u64.wrap ((andI .u64 (shrI .u64 a0 1) 6148914691236517205) + (andI .u64 a0 6148914691236517205))) 2) 3689348814741910323) + (andI .u64 (IntKind.u64.wrap ((andI .u64 (shrI .u64 a0 1) 6148914691236517205) + (andI .u64 a0 6148914691236517205))) 3689348814741910323))))) 1085102592571150095) + (shrI .u64 (andI .u64 (IntKind.u64.wrap ((shrI .u64 (IntKind.u64.wrap ((andI .u64 (shrI .u64 (IntKind.u64.wrap ((andI .u64 (shrI .u64 a0 1) 6148914691236517205) + (andI .u64 a0 6148914691236517205))) 2) 3689348814741910323) + (andI .u64 (IntKind.u64.wrap ((andI .u64 (shrI .u64 a0 1) 6148914691236517205) + (andI .u64 a0 6148914691236517205))) 3689348814741910323))) 4) + (IntKind.u64.wrap ((andI .u64 (shrI .u64 (IntKind.u64.wrap ((andI .u64 (shrI .u64 a0 1) 6148914691236517205) + (andI .u64 a0 6148914691236517205))) 2) 3689348814741910323) + (andI .u64 (IntKind.u64.wrap ((andI .u64 (shrI .u64 a0 1) 6148914691236517205) + (andI .u64 a0 6148914691236517205))) 3689348814741910323))))) 1085102592571150095) 8))) + (shrI .u64 (IntKind.u64.wrap ((andI .u64 (IntKind.u64.wrap ((shrI .u64 (IntKind.u64.wrap ((andI .u64 (shrI .u64 (IntKind.u64.wrap ((andI .u64 (shrI .u64 a0 1) 6148914691236517205) + (andI .u64 a0 6148914691236517205))) 2) 3689348814741910323) + (andI .u64 (IntKind.u64.wrap ((andI .u64 (shrI .u64 a0 1) 6148914691236517205) + (andI .u64 a0 6148914691236517205))) 3689348814741910323))) 4) + (IntKind.u64.wrap ((andI .u64 (shrI .u64 (IntKind.u64.wrap ((andI .u64 (shrI .u64 a0 1) 6148914691236517205) + (andI .u64 a0 6148914691236517205))) 2) 3689348814741910323) + (andI .u64 (IntKind.u64.wrap ((andI .u64 (shrI .u64 a0 1) 6148914691236517205) + (andI .u64 a0 6148914691236517205))) 3689348814741910323))))) 1085102592571150095) + (shrI .u64 (andI .u64 (IntKind.u64.wrap ((shrI .u64 (IntKind.u64.wrap ((andI .u64 (shrI .u64 (IntKind.u64.wrap ((andI .u64 (shrI .u64 a0 1) 6148914691236517205) + (andI .u64 a0 6148914691236517205))) 2) 3689348814741910323) + (andI .u64 (IntKind.u64.wrap ((andI .u64 (shrI .u64 a0 1) 6148914691236517205) + (andI .u64 a0 6148914691236517205))) 3689348814741910323))) 4) + (IntKind.u64.wrap ((andI .u64 (shrI .u64 (IntKind.u64.wrap ((andI .u64 (shrI .u64 a0 1) 6148914691236517205) + (andI .u64 a0 6148914691236517205))) 2) 3689348814741910323) + (andI .u64 (IntKind.u64.wrap ((andI .u64 (shrI .u64 a0 1) 6148914691236517205) + (andI .u64 a0 6148914691236517205))) 3689348814741910323))))) 1085102592571150095) 8))) 16)))) rfl (x_move) ?_
 refine OV (.int .u64 (IntKind.u64.wrap ((IntKind.u64.wrap ((andI .u64 (IntKind.u64.wrap ((shrI .u64 (IntKind.u64.wrap ((andI .u64 (shrI .u64 (IntKind.u64.wrap ((andI .u64 (shrI .u64 a0 1) 6148914691236517205) + (andI .u64 a0 6148914691236517205))) 2) 3689348814741910323) + (andI .u64 (IntKind.u64.wrap ((andI .u64 (shrI .u64 a0 1) 6148914691236517205) + (andI .u64 a0 6148914691236517205))) 3689348814741910323))) 4) + (IntKind.u64.wrap ((andI .u64 (shrI .u64 (IntKind.u64.wrap ((andI .u64 (shrI .u64 a0 1) 6148914691236517205) + (andI .u64 a0 6148914691236517205))) 2) 3689348814741910323) + (andI .u64 (IntKind.u64.wrap ((andI .u64 (shrI .u64 a0 1) 6148914691236517205) + (andI .u64 a0 6148914691236517205))) 3689348814741910323))))) 1085102592571150095) + (shrI .u64 (andI .u64 (IntKind.u64.wrap ((shrI .u64 (IntKind.u64.wrap ((andI .u64 (shrI .u64 (IntKind.u64.wrap ((andI .u64 (shrI .u64 a0 1) 6148914691236517205) + (andI .u64 a0 6148914691236517205))) 2) 3689348814741910323) + (andI .u64 (IntKind.u64.wrap ((andI .u64 (shrI .u64 a0 1) 6148914691236517205) + (andI .u64 a0 6148914691236517205))) 3689348814741910323))) 4) + (IntKind.u64.wrap ((andI .u64 (shrI .u64 (IntKind.u64.wrap ((andI .u64 (shrI .u64 a0 1) 6148914691236517205) + (andI .u64 a0 6148914691236517205))) 2) 3689348814741910323) + (andI .u64 (IntKind.u64.wrap ((andI .u64 (shrI .u64 a0 1) 6148914691236517205) + (andI .u64 a0 6148914691236517205))) 3689348814741910323))))) 1085102592571150095) 8))) + (shrI .u64 (IntKind.u64.wrap ((andI .u64 (IntKind.u64.wrap ((shrI .u64 (IntKind.u64.wrap ((andI .u64 (shrI .u64 (IntKind.u64.wrap ((andI .u64 (shrI .u64 a0 1) 6148914691236517205) + (andI .u64 a0 6148914691236517205))) 2) 3689348814741910323) + (andI .u64 (IntKind.u64.wrap ((andI .u64 (shrI .u64 a0 1) 6148914691236517205) + (andI .u64 a0 6148914691236517205))) 3689348814741910323))) 4) + (IntKind.u64.wrap ((andI .u64 (shrI .u64 (IntKind.u64.wrap ((andI .u64 (shrI .u64 a0 1) 6148914691236517205) + (andI .u64 a0 6148914691236517205))) 2) 3689348814741910323) + (andI .u64 (IntKind.u64.wrap ((andI .u64 (shrI .u64 a0 1) 6148914691236517205) + (andI .u64 a0 6148914691236517205))) 3689348814741910323))))) 1085102592571150095) + (shrI .u64 (andI .u64 (IntKind.u64.wrap ((shrI .u64 (IntKind.u64.wrap ((andI .u64 (shrI .u64 (IntKind.u64.wrap ((andI .u64 (shrI .u64 a0 1) 6148914691236517205) + (andI .u64 a0 6148914691236517205))) 2) 3689348814741910323) + (andI .u64 (IntKind.u64.wrap ((andI .u64 (shrI .u64 a0 1) 6148914691236517205) + (andI .u64 a0 6148914691236517205))) 3689348814741910323))) 4) + (IntKind.u64.wrap ((andI .u64 (shrI .u64 (IntKind.u64.wrap ((andI .u64 (shrI .u64 a0 1) 6148914691236517205) + (andI .u64 a0 6148914691236517205))) 2) 3689348814741910323) + (andI .u64 (IntKind.u64.wrap ((andI .u64 (shrI .u64 a0 1) 6148914691236517205) + (andI .u64 a0 6148914691236517205))) 3689348814741910323))))) 1085102592571150095) 8))) 16)))) rfl (x_move) ?_
 refine OV (.int .u64 (shrI .u64 (IntKind.u64.wrap ((IntKind.u64.wrap ((andI .u64 (IntKind.u64.wrap ((shrI .u64 (IntKind.u64.wrap ((andI .u64 (shrI .u64 (IntKind.u64.wrap ((andI .u64 (shrI .u64 a0 1) 6148914691236517205) + (andI .u64 a0 6148914691236517205))) 2) 3689348814741910323) + (andI .u64 (IntKind.u64.wrap ((andI .u64 (shrI .u64 a0 1) 6148914691236517205) + (andI .u64 a0 6148914691236517205))) 3689348814741910323))) 4) + (IntKind.u64.wrap ((andI .u64 (shrI .u64 (IntKind.u64.wrap ((andI .u64 (shrI .u64 a0 1) 6148914691236517205) + (andI .u64 a0 6148914691236517205))) 2) 3689348814741910323) + (andI .u64 (IntKind.u64.wrap ((andI .u64 (shrI .u64 a0 1) 6148914691236517205) + (andI .u64 a0 6148914691236517205))) 3689348814741910323))))) 1085102592571150095) + (shrI .u64 (andI .u64 (IntKind.u64.wrap ((shrI .u64 (IntKind.u64.wrap ((andI .u64 (shrI .u64 (IntKind.u64.wrap ((andI .u64 (shrI .u64 a0 1) 6148914691236517205) + (andI .u64 a0 6148914691236517205))) 2) 3689348814741910323) + (andI .u64 (IntKind.u64.wrap ((andI .u64 (shrI .u64 a0 1) 6148914691236517205) + (andI .u64 a0 6148914691236517205))) 3689348814741910323))) 4) + (IntKind.u64.wrap ((andI .u64 (shrI .u64 (IntKind.u64.wrap ((andI .u64 (shrI .u64 a0 1) 6148914691236517205) + (andI .u64 a0 6148914691236517205))) 2) 3689348814741910323) + (andI .u64 (IntKind.u64.wrap ((andI .u64 (shrI .u64 a0 1) 6148914691236517205) + (andI .u64 a0 6148914691236517205))) 3689348814741910323))))) 1085102592571150095) 8))) + (shrI .u64 (IntKind.u64.wrap ((andI .u64 (IntKind.u64.wrap ((shrI .u64 (IntKind.u64.wrap ((andI .u64 (shrI .u64 (IntKind.u64.wrap ((andI .u64 (shrI .u64 a0 1) 6148914691236517205) + (andI .u64 a0 6148914691236517205))) 2) 3689348814741910323) + (andI .u64 (IntKind.u64.wrap ((andI .u64 (shrI .u64 a0 1) 6148914691236517205) + (andI .u64 a0 6148914691236517205))) 3689348814741910323))) 4) + (IntKind.u64.wrap ((andI .u64 (shrI .u64 (IntKind.u64.wrap ((andI .u64 (shrI .u64 a0 1) 6148914691236517205) + (andI .u64 a0 6148914691236517205))) 2) 3689348814741910323) + (andI .u64 (IntKind.u64.wrap ((andI .u64 (shrI .u64 a0 1) 6148914691236517205) + (andI .u64 a0 6148914691236517205))) 3689348814741910323))))) 1085102592571150095) + (shrI .u64 (andI .u64 (IntKind.u64.wrap ((shrI .u64 (IntKind.u64.wrap ((andI .u64 (shrI .u64 (IntKind.u64.wrap ((andI .u64 (shrI .u64 a0 1) 6148914691236517205) + (andI .u64 a0 6148914691236517205))) 2) 3689348814741910323) + (andI .u64 (IntKind.u64.wrap ((andI .u64 (shrI .u64 a0 1) 6148914691236517205) + (andI .u64 a0 6148914691236517205))) 3689348814741910323))) 4) + (IntKind.u64.wrap ((andI .u64 (shrI .u64 (IntKind.u64.wrap ((andI .u64 (shrI .u64 a0 1) 6148914691236517205) + (andI .u64 a0 6148914691236517205))) 2) 3689348814741910323) + (andI .u64 (IntKind.u64.wrap ((andI .u64 (shrI .u64 a0 1) 6148914691236517205) + (andI .u64 a0 6148914691236517205))) 3689348814741910323))))) 1085102592571150095) 8))) 16))) 32)) rfl (x_shr rfl rfl (by decide)) ?_
 refine OV (.int .u64 (IntKind.u64.wrap ((IntKind.u64.wrap ((IntKind.u64.wrap ((andI .u64 (IntKind.u64.wrap ((shrI .u64 (IntKind.u64.wrap ((andI .u64 (shrI .u64 (IntKind.u64.wrap ((andI .u64 (shrI .u64 a0 1) 6148914691236517205) + (andI .u64 a0 6148914691236517205))) 2) 3689348814741910323) + (andI .u64 (IntKind.u64.wrap ((andI .u64 (shrI .u64 a0 1) 6148914691236517205) + (andI .u64 a0 6148914691236517205))) 3689348814741910323))) 4) + (IntKind.u64.wrap ((andI .u64 (shrI .u64 (IntKind.u64.wrap ((andI .u64 (shrI .u64 a0 1) 6148914691236517205) + (andI .u64 a0 6148914691236517205))) 2) 3689348814741910323) + (andI .u64 (IntKind.u64.wrap ((andI .u64 (shrI .u64 a0 1) 6148914691236517205) + (andI .u64 a0 6148914691236517205))) 3689348814741910323))))) 1085102592571150095) + (shrI .u64 (andI .u64 (IntKind.u64.wrap ((shrI .u64 (IntKind.u64.wrap ((andI .u64 (shrI .u64 (IntKind.u64.wrap ((andI .u64 (shrI .u64 a0 1) 6148914691236517205) + (andI .u64 a0 6148914691236517205))) 2) 3689348814741910323) + (andI .u64 (IntKind.u64.wrap ((andI .u64 (shrI .u64 a0 1) 6148914691236517205) + (andI .u64 a0 6148914691236517205))) 3689348814741910323))) 4) + (IntKind.u64.wrap ((andI .u64 (shrI .u64 (IntKind.u64.wrap ((andI .u64 (shrI .u64 a0 1) 6148914691236517205) + (andI .u64 a0 6148914691236517205))) 2) 3689348814741910323) + (andI .u64 (IntKind.u64.wrap ((andI .u64 (shrI .u64 a0 1) 6148914691236517205) + (andI .u64 a0 6148914691236517205))) 3689348814741910323))))) 1085102592571150095) 8))) + (shrI .u64 (IntKind.u64.wrap ((andI .u64 (IntKind.u64.wrap ((shrI .u64 (IntKind.u64.wrap ((andI .u64 (shrI .u64 (IntKind.u64.wrap ((andI .u64 (shrI .u64 a0 1) 6148914691236517205) + (andI .u64 a0 6148914691236517205))) 2) 3689348814741910323) + (andI .u64 (IntKind.u64.wrap ((andI .u64 (shrI .u64 a0 1) 6148914691236517205) + (andI .u64 a0 6148914691236517205))) 3689348814741910323))) 4) + (IntKind.u64.wrap ((andI .u64 (shrI .u64 (IntKind.u64.wrap ((andI .u64 (shrI .u64 a0 1) 6148914691236517205) + (andI .u64 a0 6148914691236517205))) 2) 3689348814741910323) + (andI .u64 (IntKind.u64.wrap ((andI .u64 (shrI .u64 a0 1) 6148914691236517205) + (andI .u64 a0 6148914691236517205))) 3689348814741910323))))) 1085102592571150095) + (shrI .u64 (andI .u64 (IntKind.u64.wrap ((shrI .u64 (IntKind.u64.wrap ((andI .u64 (shrI .u64 (IntKind.u64.wrap ((andI .u64 (shrI .u64 a0 1) 6148914691236517205) + (andI .u64 a0 6148914691236517205))) 2) 3689348814741910323) + (andI .u64 (IntKind.u64.wrap ((andI .u64 (shrI .u64 a0 1) 6148914691236517205) + (andI .u64 a0 6148914691236517205))) 3689348814741910323))) 4) + (IntKind.u64.wrap ((andI .u64 (shrI .u64 (IntKind.u64.wrap ((andI .u64 (shrI .u64 a0 1) 6148914691236517205) + (andI .u64 a0 6148914691236517205))) 2) 3689348814741910323) + (andI .u64 (IntKind.u64.wrap ((andI .u64 (shrI .u64 a0 1) 6148914691236517205) + (andI .u64 a0 6148914691236517205))) 3689348814741910323))))) 1085102592571150095) 8))) 16))) + (shrI .u64 (IntKind.u64.wrap ((IntKind.u64.wrap ((andI .u64 (IntKind.u64.wrap ((shrI .u64 (IntKind.u64.wrap ((andI .u64 (shrI .u64 (IntKind.u64.wrap ((andI .u64 (shrI .u64 a0 1) 6148914691236517205) + (andI .u64 a0 6148914691236517205))) 2) 3689348814741910323) + (andI .u64 (IntKind.u64.wrap ((andI .u64 (shrI .u64 a0 1) 6148914691236517205) + (andI .u64 a0 6148914691236517205))) 3689348814741910323))) 4) + (IntKind.u64.wrap ((andI .u64 (shrI .u64 (IntKind.u64.wrap ((andI .u64 (shrI .u64 a0 1) 6148914691236517205) + (andI .u64 a0 6148914691236517205))) 2) 3689348814741910323) + (andI .u64 (IntKind.u64.wrap ((andI .u64 (shrI .u64 a0 1) 6148914691236517205) + (andI .u64 a0 6148914691236517205))) 3689348814741910323))))) 1085102592571150095) + (shrI .u64 (andI .u64 (IntKind.u64.wrap ((shrI .u64 (IntKind.u64.wrap ((andI .u64 (shrI .u64 (IntKind.u64.wrap ((andI .u64 (shrI .u64 a0 1) 6148914691236517205) + (andI .u64 a0 6148914691236517205))) 2) 3689348814741910323) + (andI .u64 (IntKind.u64.wrap ((andI .u64 (shrI .u64 a0 1) 6148914691236517205) + (andI .u64 a0 6148914691236517205))) 3689348814741910323))) 4) + (IntKind.u64.wrap ((andI .u64 (shrI .u64 (IntKind.u64.wrap ((andI .u64 (shrI .u64 a0 1) 6148914691236517205) + (andI .u64 a0 6148914691236517205))) 2) 3689348814741910323) + (andI .u64 (IntKind.u64.wrap ((andI .u64 (shrI .u64 a0 1) 6148914691236517205) + (andI .u64 a0 6148914691236517205))) 3689348814741910323))))) 1085102592571150095) 8))) + (shrI .u64 (IntKind.u64.wrap ((andI .u64 (IntKind.u64.wrap ((shrI .u64 (IntKind.u64.wrap ((andI .u64 (shrI .u64 (IntKind.u64.wrap ((andI .u64 (shrI .u64 a0 1) 6148914691236517205) + (andI .u64 a0 6148914691236517205))) 2) 3689348814741910323) + (andI .u64 (IntKind.u64.wrap ((andI .u64 (shrI .u64 a0 1) 6148914691236517205) + (andI .u64 a0 6148914691236517205))) 3689348814741910323))) 4) + (IntKind.u64.wrap ((andI .u64 (shrI .u64 (IntKind.u64.wrap ((andI .u64 (shrI .u64 a0 1) 6148914691236517205) + (andI .u64 a0 6148914691236517205))) 2) 3689348814741910323) + (andI .u64 (IntKind.u64.wrap ((andI .u64 (shrI .u64 a0 1) 6148914691236517205) + (andI .u64 a0 6148914691236517205))) 3689348814741910323))))) 1085102592571150095) + (shrI .u64 (andI .u64 (IntKind.u64.wrap ((shrI .u64 (IntKind.u64.wrap ((andI .u64 (shrI .u64 (IntKind.u64.wrap ((andI .u64 (shrI .u64 a0 1) 6148914691236517205) + (andI .u64 a0 6148914691236517205))) 2) 3689348814741910323) + (andI .u64 (IntKind.u64.wrap ((andI .u64 (shrI .u64 a0 1) 6148914691236517205) + (andI .u64 a0 6148914691236517205))) 3689348814741910323))) 4) + (IntKind.u64.wrap ((andI .u64 (shrI .u64 (IntKind.u64.wrap ((andI .u64 (shrI .u64 a0 1) 6148914691236517205) + (andI .u64 a0 6148914691236517205))) 2) 3689348814741910323) + (andI .u64 (IntKind.u64.wrap ((andI .u64 (shrI .u64 a0 1) 6148914691236517205) + (andI .u64 a0 6148914691236517205))) 3689348814741910323))))) 1085102592571150095) 8))) 16))) 32)))) rfl (x_add rfl rfl) ?_
 refine OV (.int .u64 (IntKind.u64.wrap ((IntKind.u64.wrap ((IntKind.u64.wrap ((andI .u64 (IntKind.u64.wrap ((shrI .u64 (IntKind.u64.wrap ((andI .u64 (shrI .u64 (IntKind.u64.wrap ((andI .u64 (shrI .u64 a0 1) 6148914691236517205) + (andI .u64 a0 6148914691236517205))) 2) 3689348814741910323) + (andI .u64 (IntKind.u64.wrap ((andI .u64 (shrI .u64 a0 1) 6148914691236517205) + (andI .u64 a0 6148914691236517205))) 3689348814741910323))) 4) + (IntKind.u64.wrap ((andI .u64 (shrI .u64 (IntKind.u64.wrap ((andI .u64 (shrI .u64 a0 1) 6148914691236517205) + (andI .u64 a0 6148914691236517205))) 2) 3689348814741910323) + (andI .u64 (IntKind.u64.wrap ((andI .u64 (shrI .u64 a0 1) 6148914691236517205) + (andI .u64 a0 6148914691236517205))) 3689348814741910323))))) 1085102592571150095) + (shrI .u64 (andI .u64 (IntKind.u64.wrap ((shrI .u64 (IntKind.u64.wrap ((andI .u64 (shrI .u64 (IntKind.u64.wrap ((andI .u64 (shrI .u64 a0 1) 6148914691236517205) + (andI .u64 a0 6148914691236517205))) 2) 3689348814741910323) + (andI .u64 (IntKind.u64.wrap ((andI .u64 (shrI .u64 a0 1) 6148914691236517205) + (andI .u64 a0 6148914691236517205))) 3689348814741910323))) 4) + (IntKind.u64.wrap ((andI .u64 (shrI .u64 (IntKind.u64.wrap ((andI .u64 (shrI .u64 a0 1) 6148914691236517205) + (andI .u64 a0 6148914691236517205))) 2) 3689348814741910323) + (andI .u64 (IntKind.u64.wrap ((andI .u64 (shrI .u64 a0 1) 6148914691236517205) + (andI .u64 a0 6148914691236517205))) 3689348814741910323))))) 1085102592571150095) 8))) + (shrI .u64 (IntKind.u64.wrap ((andI .u64 (IntKind.u64.wrap ((shrI .u64 (IntKind.u64.wrap ((andI .u64 (shrI .u64 (IntKind.u64.wrap ((andI .u64 (shrI .u64 a0 1) 6148914691236517205) + (andI .u64 a0 6148914691236517205))) 2) 3689348814741910323) + (andI .u64 (IntKind.u64.wrap ((andI .u64 (shrI .u64 a0 1) 6148914691236517205) + (andI .u64 a0 6148914691236517205))) 3689348814741910323))) 4) + (IntKind.u64.wrap ((andI .u64 (shrI .u64 (IntKind.u64.wrap ((andI .u64 (shrI .u64 a0 1) 6148914691236517205) + (andI .u64 a0 6148914691236517205))) 2) 3689348814741910323) + (andI .u64 (IntKind.u64.wrap ((andI .u64 (shrI .u64 a0 1) 6148914691236517205) + (andI .u64 a0 6148914691236517205))) 3689348814741910323))))) 1085102592571150095) + (shrI .u64 (andI .u64 (IntKind.u64.wrap ((shrI .u64 (IntKind.u64.wrap ((andI .u64 (shrI .u64 (IntKind.u64.wrap ((andI .u64 (shrI .u64 a0 1) 6148914691236517205) + (andI .u64 a0 6148914691236517205))) 2) 3689348814741910323) + (andI .u64 (IntKind.u64.wrap ((andI .u64 (shrI .u64 a0 1) 6148914691236517205) + (andI .u64 a0 6148914691236517205))) 3689348814741910323))) 4) + (IntKind.u64.wrap ((andI .u64 (shrI .u64 (IntKind.u64.wrap ((andI .u64 (shrI .u64 a0 1) 6148914691236517205) + (andI .u64 a0 6148914691236517205))) 2) 3689348814741910323) + (andI .u64 (IntKind.u64.wrap ((andI .u64 (shrI .u64 a0 1) 6148914691236517205) + (andI .u64 a0 6148914691236517205))) 3689348814741910323))))) 1085102592571150095) 8))) 16))) + (shrI .u64 (IntKind.u64.wrap ((IntKind.u64.wrap ((andI .u64 (IntKind.u64.wrap ((shrI .u64 (IntKind.u64.wrap ((andI .u64 (shrI .u64 (IntKind.u64.wrap ((andI .u64 (shrI .u64 a0 1) 6148914691236517205) + (andI .u64 a0 6148914691236517205))) 2) 3689348814741910323) + (andI .u64 (IntKind.u64.wrap ((andI .u64 (shrI .u64 a0 1) 6148914691236517205) + (andI .u64 a0 6148914691236517205))) 3689348814741910323))) 4) + (IntKind.u64.wrap ((andI .u64 (shrI .u64 (IntKind.u64.wrap ((andI .u64 (shrI .u64 a0 1) 6148914691236517205) + (andI .u64 a0 6148914691236517205))) 2) 3689348814741910323) + (andI .u64 (IntKind.u64.wrap ((andI .u64 (shrI .u64 a0 1) 6148914691236517205) + (andI .u64 a0 6148914691236517205))) 3689348814741910323))))) 1085102592571150095) + (shrI .u64 (andI .u64 (IntKind.u64.wrap ((shrI .u64 (IntKind.u64.wrap ((andI .u64 (shrI .u64 (IntKind.u64.wrap ((andI .u64 (shrI .u64 a0 1) 6148914691236517205) + (andI .u64 a0 6148914691236517205))) 2) 3689348814741910323) + (andI .u64 (IntKind.u64.wrap ((andI .u64 (shrI .u64 a0 1) 6148914691236517205) + (andI .u64 a0 6148914691236517205))) 3689348814741910323))) 4) + (IntKind.u64.wrap ((andI .u64 (shrI .u64 (IntKind.u64.wrap ((andI .u64 (shrI .u64 a0 1) 6148914691236517205) + (andI .u64 a0 6148914691236517205))) 2) 3689348814741910323) + (andI .u64 (IntKind.u64.wrap ((andI .u64 (shrI .u64 a0 1) 6148914691236517205) + (andI .u64 a0 6148914691236517205))) 3689348814741910323))))) 1085102592571150095) 8))) + (shrI .u64 (IntKind.u64.wrap ((andI .u64 (IntKind.u64.wrap ((shrI .u64 (IntKind.u64.wrap ((andI .u64 (shrI .u64 (IntKind.u64.wrap ((andI .u64 (shrI .u64 a0 1) 6148914691236517205) + (andI .u64 a0 6148914691236517205))) 2) 3689348814741910323) + (andI .u64 (IntKind.u64.wrap ((andI .u64 (shrI .u64 a0 1) 6148914691236517205) + (andI .u64 a0 6148914691236517205))) 3689348814741910323))) 4) + (IntKind.u64.wrap ((andI .u64 (shrI .u64 (IntKind.u64.wrap ((andI .u64 (shrI .u64 a0 1) 6148914691236517205) + (andI .u64 a0 6148914691236517205))) 2) 3689348814741910323) + (andI .u64 (IntKind.u64.wrap ((andI .u64 (shrI .u64 a0 1) 6148914691236517205) + (andI .u64 a0 6148914691236517205))) 3689348814741910323))))) 1085102592571150095) + (shrI .u64 (andI .u64 (IntKind.u64.wrap ((shrI .u64 (IntKind.u64.wrap ((andI .u64 (shrI .u64 (IntKind.u64.wrap ((andI .u64 (shrI .u64 a0 1) 6148914691236517205) + (andI .u64 a0 6148914691236517205))) 2) 3689348814741910323) + (andI .u64 (IntKind.u64.wrap ((andI .u64 (shrI .u64 a0 1) 6148914691236517205) + (andI .u64 a0 6148914691236517205))) 3689348814741910323))) 4) + (IntKind.u64.wrap ((andI .u64 (shrI .u64 (IntKind.u64.wrap ((andI .u64 (shrI .u64 a0 1) 6148914691236517205) + (andI .u64 a0 6148914691236517205))) 2) 3689348814741910323) + (andI .u64 (IntKind.u64.wrap ((andI .u64 (shrI .u64 a0 1) 6148914691236517205) + (andI .u64 a0 6148914691236517205))) 3689348814741910323))))) 1085102592571150095) 8))) 16))) 32)))) rfl (x_assign) ?_
 refine ONR ?_
 refine OV (.int .u64 (IntKind.u64.wrap ((IntKind.u64.wrap ((IntKind.u64.wrap ((andI .u64 (IntKind.u64.wrap ((shrI .u64 (IntKind.u64.wrap ((andI .u64 (shrI .u64 (IntKind.u64.wrap ((andI .u64 (shrI .u64 a0 1) 6148914691236517205) + (andI .u64 a0 6148914691236517205))) 2) 3689348814741910323) + (andI .u64 (IntKind.u64.wrap ((andI .u64 (shrI .u64 a0 1) 6148914691236517205) + (andI .u64 a0 6148914691236517205))) 3689348814741910323))) 4) + (IntKind.u64.wrap ((andI .u64 (shrI .u64 (IntKind.u64.wrap ((andI .u64 (shrI .u64 a0 1) 6148914691236517205) + (andI .u64 a0 6148914691236517205))) 2) 3689348814741910323) + (andI .u64 (IntKind.u64.wrap ((andI .u64 (shrI .u64 a0 1) 6148914691236517205) + (andI .u64 a0 6148914691236517205))) 3689348814741910323))))) 1085102592571150095) + (shrI .u64 (andI .u64 (IntKind.u64.wrap ((shrI .u64 (IntKind.u64.wrap ((andI .u64 (shrI .u64 (IntKind.u64.wrap ((andI .u64 (shrI .u64 a0 1) 6148914691236517205) + (andI .u64 a0 6148914691236517205))) 2) 3689348814741910323) + (andI .u64 (IntKind.u64.wrap ((andI .u64 (shrI .u64 a0 1) 6148914691236517205) + (andI .u64 a0 6148914691236517205))) 3689348814741910323))) 4) + (IntKind.u64.wrap ((andI .u64 (shrI .u64 (IntKind.u64.wrap ((andI .u64 (shrI .u64 a0 1) 6148914691236517205) + (andI .u64 a0 6148914691236517205))) 2) 3689348814741910323) + (andI .u64 (IntKind.u64.wrap ((andI .u64 (shrI .u64 a0 1) 6148914691236517205) + (andI .u64 a0 6148914691236517205))) 3689348814741910323))))) 1085102592571150095) 8))) + (shrI .u64 (IntKind.u64.wrap ((andI .u64 (IntKind.u64.wrap ((shrI .u64 (IntKind.u64.wrap ((andI .u64 (shrI .u64 (IntKind.u64.wrap ((andI .u64 (shrI .u64 a0 1) 6148914691236517205) + (andI .u64 a0 6148914691236517205))) 2) 3689348814741910323) + (andI .u64 (IntKind.u64.wrap ((andI .u64 (shrI .u64 a0 1) 6148914691236517205) + (andI .u64 a0 6148914691236517205))) 3689348814741910323))) 4) + (IntKind.u64.wrap ((andI .u64 (shrI .u64 (IntKind.u64.wrap ((andI .u64 (shrI .u64 a0 1) 6148914691236517205) + (andI .u64 a0 6148914691236517205))) 2) 3689348814741910323) + (andI .u64 (IntKind.u64.wrap ((andI .u64 (shrI .u64 a0 1) 6148914691236517205) + (andI .u64 a0 6148914691236517205))) 3689348814741910323))))) 1085102592571150095) + (shrI .u64 (andI .u64 (IntKind.u64.wrap ((shrI .u64 (IntKind.u64.wrap ((andI .u64 (shrI .u64 (IntKind.u64.wrap ((andI .u64 (shrI .u64 a0 1) 6148914691236517205) + (andI .u64 a0 6148914691236517205))) 2) 3689348814741910323) + (andI .u64 (IntKind.u64.wrap ((andI .u64 (shrI .u64 a0 1) 6148914691236517205) + (andI .u64 a0 6148914691236517205))) 3689348814741910323))) 4) + (IntKind.u64.wrap ((andI .u64 (shrI .u64 (IntKind.u64.wrap ((andI .u64 (shrI .u64 a0 1) 6148914691236517205) + (andI .u64 a0 6148914691236517205))) 2) 3689348814741910323) + (andI .u64 (IntKind.u64.wrap ((andI .u64 (shrI .u64 a0 1) 6148914691236517205) + (andI .u64 a0 6148914691236517205))) 3689348814741910323))))) 1085102592571150095) 8))) 16))) + (shrI .u64 (IntKind.u64.wrap ((IntKind.u64.wrap ((andI .u64 (IntKind.u64.wrap ((shrI .u64 (IntKind.u64.wrap ((andI .u64 (shrI .u64 (IntKind.u64.wrap ((andI .u64 (shrI .u64 a0 1) 6148914691236517205) + (andI .u64 a0 6148914691236517205))) 2) 3689348814741910323) + (andI .u64 (IntKind.u64.wrap ((andI .u64 (shrI .u64 a0 1) 6148914691236517205) + (andI .u64 a0 6148914691236517205))) 3689348814741910323))) 4) + (IntKind.u64.wrap ((andI .u64 (shrI .u64 (IntKind.u64.wrap ((andI .u64 (shrI .u64 a0 1) 6148914691236517205) + (andI .u64 a0 6148914691236517205))) 2) 3689348814741910323) + (andI .u64 (IntKind.u64.wrap ((andI .u64 (shrI .u64 a0 1) 6148914691236517205) + (andI .u64 a0 6148914691236517205))) 3689348814741910323))))) 1085102592571150095) + (shrI .u64 (andI .u64 (IntKind.u64.wrap ((shrI .u64 (IntKind.u64.wrap ((andI .u64 (shrI .u64 (IntKind.u64.wrap ((andI .u64 (shrI .u64 a0 1) 6148914691236517205) + (andI .u64 a0 6148914691236517205))) 2) 3689348814741910323) + (andI .u64 (IntKind.u64.wrap ((andI .u64 (shrI .u64 a0 1) 6148914691236517205) + (andI .u64 a0 6148914691236517205))) 3689348814741910323))) 4) + (IntKind.u64.wrap ((andI .u64 (shrI .u64 (IntKind.u64.wrap ((andI .u64 (shrI .u64 a0 1) 6148914691236517205) + (andI .u64 a0 6148914691236517205))) 2) 3689348814741910323) + (andI .u64 (IntKind.u64.wrap ((andI .u64 (shrI .u64 a0 1) 6148914691236517205) + (andI .u64 a0 6148914691236517205))) 3689348814741910323))))) 1085102592571150095) 8))) + (shrI .u64 (IntKind.u64.wrap ((andI .u64 (IntKind.u64.wrap ((shrI .u64 (IntKind.u64.wrap ((andI .u64 (shrI .u64 (IntKind.u64.wrap ((andI .u64 (shrI .u64 a0 1) 6148914691236517205) + (andI .u64 a0 6148914691236517205))) 2) 3689348814741910323) + (andI .u64 (IntKind.u64.wrap ((andI .u64 (shrI .u64 a0 1) 6148914691236517205) + (andI .u64 a0 6148914691236517205))) 3689348814741910323))) 4) + (IntKind.u64.wrap ((andI .u64 (shrI .u64 (IntKind.u64.wrap ((andI .u64 (shrI .u64 a0 1) 6148914691236517205) + (andI .u64 a0 6148914691236517205))) 2) 3689348814741910323) + (andI .u64 (IntKind.u64.wrap ((andI .u64 (shrI .u64 a0 1) 6148914691236517205) + (andI .u64 a0 6148914691236517205))) 3689348814741910323))))) 1085102592571150095) + (shrI .u64 (andI .u64 (IntKind.u64.wrap ((shrI .u64 (IntKind.u64.wrap ((andI .u64 (shrI .u64 (IntKind.u64.wrap ((andI .u64 (shrI .u64 a0 1) 6148914691236517205) + (andI .u64 a0 6148914691236517205))) 2) 3689348814741910323) + (andI .u64 (IntKind.u64.wrap ((andI .u64 (shrI .u64 a0 1) 6148914691236517205) + (andI .u64 a0 6148914691236517205))) 3689348814741910323))) 4) + (IntKind.u64.wrap ((andI .u64 (shrI .u64 (IntKind.u64.wrap ((andI .u64 (shrI .u64 a0 1) 6148914691236517205) + (andI .u64 a0 6148914691236517205))) 2) 3689348814741910323) + (andI .u64 (IntKind.u64.wrap ((andI .u64 (shrI .u64 a0 1) 6148914691236517205) + (andI .u64 a0 6148914691236517205))) 3689348814741910323))))) 1085102592571150095) 8))) 16))) 32)))) rfl (x_move) ?_
 refine OV (.int .i64 (IntKind.i64.wrap (IntKind.u64.wrap ((IntKind.u64.wrap ((IntKind.u64.wrap ((andI .u64 (IntKind.u64.wrap ((shrI .u64 (IntKind.u64.wrap ((andI .u64 (shrI .u64 (IntKind.u64.wrap ((andI .u64 (shrI .u64 a0 1) 6148914691236517205) + (andI .u64 a0 6148914691236517205))) 2) 3689348814741910323) + (andI .u64 (IntKind.u64.wrap ((andI .u64 (shrI .u64 a0 1) 6148914691236517205) + (andI .u64 a0 6148914691236517205))) 3689348814741910323))) 4) + (IntKind.u64.wrap ((andI .u64 (shrI .u64 (IntKind.u64.wrap ((andI .u64 (shrI .u64 a0 1) 6148914691236517205) + (andI .u64 a0 6148914691236517205))) 2) 3689348814741910323) + (andI .u64 (IntKind.u64.wrap ((andI .u64 (shrI .u64 a0 1) 6148914691236517205) + (andI .u64 a0 6148914691236517205))) 3689348814741910323))))) 1085102592571150095) + (shrI .u64 (andI .u64 (IntKind.u64.wrap ((shrI .u64 (IntKind.u64.wrap ((andI .u64 (shrI .u64 (IntKind.u64.wrap ((andI .u64 (shrI .u64 a0 1) 6148914691236517205) + (andI .u64 a0 6148914691236517205))) 2) 3689348814741910323) + (andI .u64 (IntKind.u64.wrap ((andI .u64 (shrI .u64 a0 1) 6148914691236517205) + (andI .u64 a0 6148914691236517205))) 3689348814741910323))) 4) + (IntKind.u64.wrap ((andI .u64 (shrI .u64 (IntKind.u64.wrap ((andI .u64 (shrI .u64 a0 1) 6148914691236517205) + (andI .u64 a0 6148914691236517205))) 2) 3689348814741910323) + (andI .u64 (IntKind.u64.wrap ((andI .u64 (shrI .u64 a0 1) 6148914691236517205) + (andI .u64 a0 6148914691236517205))) 3689348814741910323))))) 1085102592571150095) 8))) + (shrI .u64 (IntKind.u64.wrap ((andI .u64 (IntKind.u64.wrap ((shrI .u64 (IntKind.u64.wrap ((andI .u64 (shrI .u64 (IntKind.u64.wrap ((andI .u64 (shrI .u64 a0 1) 6148914691236517205) + (andI .u64 a0 6148914691236517205))) 2) 3689348814741910323) + (andI .u64 (IntKind.u64.wrap ((andI .u64 (shrI .u64 a0 1) 6148914691236517205) + (andI .u64 a0 6148914691236517205))) 3689348814741910323))) 4) + (IntKind.u64.wrap ((andI .u64 (shrI .u64 (IntKind.u64.wrap ((andI .u64 (shrI .u64 a0 1) 6148914691236517205) + (andI .u64 a0 6148914691236517205))) 2) 3689348814741910323) + (andI .u64 (IntKind.u64.wrap ((andI .u64 (shrI .u64 a0 1) 6148914691236517205) + (andI .u64 a0 6148914691236517205))) 3689348814741910323))))) 1085102592571150095) + (shrI .u64 (andI .u64 (IntKind.u64.wrap ((shrI .u64 (IntKind.u64.wrap ((andI .u64 (shrI .u64 (IntKind.u64.wrap ((andI .u64 (shrI .u64 a0 1) 6148914691236517205) + (andI .u64 a0 6148914691236517205))) 2) 3689348814741910323) + (andI .u64 (IntKind.u64.wrap ((andI .u64 (shrI .u64 a0 1) 6148914691236517205) + (andI .u64 a0 6148914691236517205))) 3689348814741910323))) 4) + (IntKind.u64.wrap ((andI .u64 (shrI .u64 (IntKind.u64.wrap ((andI .u64 (shrI .u64 a0 1) 6148914691236517205) + (andI .u64 a0 6148914691236517205))) 2) 3689348814741910323) + (andI .u64 (IntKind.u64.wrap ((andI .u64 (shrI .u64 a0 1) 6148914691236517205) + (andI .u64 a0 6148914691236517205))) 3689348814741910323))))) 1085102592571150095) 8))) 16))) + (shrI .u64 (IntKind.u64.wrap ((IntKind.u64.wrap ((andI .u64 (IntKind.u64.wrap ((shrI .u64 (IntKind.u64.wrap ((andI .u64 (shrI .u64 (IntKind.u64.wrap ((andI .u64 (shrI .u64 a0 1) 6148914691236517205) + (andI .u64 a0 6148914691236517205))) 2) 3689348814741910323) + (andI .u64 (IntKind.u64.wrap ((andI .u64 (shrI .u64 a0 1) 6148914691236517205) + (andI .u64 a0 6148914691236517205))) 3689348814741910323))) 4) + (IntKind.u64.wrap ((andI .u64 (shrI .u64 (IntKind.u64.wrap ((andI .u64 (shrI .u64 a0 1) 6148914691236517205) + (andI .u64 a0 6148914691236517205))) 2) 3689348814741910323) + (andI .u64 (IntKind.u64.wrap ((andI .u64 (shrI .u64 a0 1) 6148914691236517205) + (andI .u64 a0 6148914691236517205))) 3689348814741910323))))) 1085102592571150095) + (shrI .u64 (andI .u64 (IntKind.u64.wrap ((shrI .u64 (IntKind.u64.wrap ((andI .u64 (shrI .u64 (IntKind.u64.wrap ((andI .u64 (shrI .u64 a0 1) 6148914691236517205) + (andI .u64 a0 6148914691236517205))) 2) 3689348814741910323) + (andI .u64 (IntKind.u64.wrap ((andI .u64 (shrI .u64 a0 1) 6148914691236517205) + (andI .u64 a0 6148914691236517205))) 3689348814741910323))) 4) + (IntKind.u64.wrap ((andI .u64 (shrI .u64 (IntKind.u64.wrap ((andI .u64 (shrI .u64 a0 1) 6148914691236517205) + (andI .u64 a0 6148914691236517205))) 2) 3689348814741910323) + (andI .u64 (IntKind.u64.wrap ((andI .u64 (shrI .u64 a0 1) 6148914691236517205) + (andI .u64 a0 6148914691236517205))) 3689348814741910323))))) 1085102592571150095) 8))) + (shrI .u64 (IntKind.u64.wrap ((andI .u64 (IntKind.u64.wrap ((shrI .u64 (IntKind.u64.wrap ((andI .u64 (shrI .u64 (IntKind.u64.wrap ((andI .u64 (shrI .u64 a0 1) 6148914691236517205) + (andI .u64 a0 6148914691236517205))) 2) 3689348814741910323) + (andI .u64 (IntKind.u64.wrap ((andI .u64 (shrI .u64 a0 1) 6148914691236517205) + (andI .u64 a0 6148914691236517205))) 3689348814741910323))) 4) + (IntKind.u64.wrap ((andI .u64 (shrI .u64 (IntKind.u64.wrap ((andI .u64 (shrI .u64 a0 1) 6148914691236517205) + (andI .u64 a0 6148914691236517205))) 2) 3689348814741910323) + (andI .u64 (IntKind.u64.wrap ((andI .u64 (shrI .u64 a0 1) 6148914691236517205) + (andI .u64 a0 6148914691236517205))) 3689348814741910323))))) 1085102592571150095) + (shrI .u64 (andI .u64 (IntKind.u64.wrap ((shrI .u64 (IntKind.u64.wrap ((andI .u64 (shrI .u64 (IntKind.u64.wrap ((andI .u64 (shrI .u64 a0 1) 6148914691236517205) + (andI .u64 a0 6148914691236517205))) 2) 3689348814741910323) + (andI .u64 (IntKind.u64.wrap ((andI .u64 (shrI .u64 a0 1) 6148914691236517205) + (andI .u64 a0 6148914691236517205))) 3689348814741910323))) 4) + (IntKind.u64.wrap ((andI .u64 (shrI .u64 (IntKind.u64.wrap ((andI .u64 (shrI .u64 a0 1) 6148914691236517205) + (andI .u64 a0 6148914691236517205))) 2) 3689348814741910323) + (andI .u64 (IntKind.u64.wrap ((andI .u64 (shrI .u64 a0 1) 6148914691236517205) + (andI .u64 a0 6148914691236517205))) 3689348814741910323))))) 1085102592571150095) 8))) 16))) 32))))) rfl (x_conv U92 U3 rfl) ?_
 refine OV (.int .i64 (andI .i64 (IntKind.i64.wrap (IntKind.u64.wrap ((IntKind.u64.wrap ((IntKind.u64.wrap ((andI .u64 (IntKind.u64.wrap ((shrI .u64 (IntKind.u64.wrap ((andI .u64 (shrI .u64 (IntKind.u64.wrap ((andI .u64 (shrI .u64 a0 1) 6148914691236517205) + (andI .u64 a0 6148914691236517205))) 2) 3689348814741910323) + (andI .u64 (IntKind.u64.wrap ((andI .u64 (shrI .u64 a0 1) 6148914691236517205) + (andI .u64 a0 6148914691236517205))) 3689348814741910323))) 4) + (IntKind.u64.wrap ((andI .u64 (shrI .u64 (IntKind.u64.wrap ((andI .u64 (shrI .u64 a0 1) 6148914691236517205) + (andI .u64 a0 6148914691236517205))) 2) 3689348814741910323) + (andI .u64 (IntKind.u64.wrap ((andI .u64 (shrI .u64 a0 1) 6148914691236517205) + (andI .u64 a0 6148914691236517205))) 3689348814741910323))))) 1085102592571150095) + (shrI .u64 (andI .u64 (IntKind.u64.wrap ((shrI .u64 (IntKind.u64.wrap ((andI .u64 (shrI .u64 (IntKind.u64.wrap ((andI .u64 (shrI .u64 a0 1) 6148914691236517205) + (andI .u64 a0 6148914691236517205))) 2) 3689348814741910323) + (andI .u64 (IntKind.u64.wrap ((andI .u64 (shrI .u64 a0 1) 6148914691236517205) + (andI .u64 a0 6148914691236517205))) 3689348814741910323))) 4) + (IntKind.u64.wrap ((andI .u64 (shrI .u64 (IntKind.u64.wrap ((andI .u64 (shrI .u64 a0 1) 6148914691236517205) + (andI .u64 a0 6148914691236517205))) 2) 3689348814741910323) + (andI .u64 (IntKind.u64.wrap ((andI .u64 (shrI .u64 a0 1) 6148914691236517205) + (andI .u64 a0 6148914691236517205))) 3689348814741910323))))) 1085102592571150095) 8))) + (shrI .u64 (IntKind.u64.wrap ((andI .u64 (IntKind.u64.wrap ((shrI .u64 (IntKind.u64.wrap ((andI .u64 (shrI .u64 (IntKind.u64.wrap ((andI .u64 (shrI .u64 a0 1) 6148914691236517205) + (andI .u64 a0 6148914691236517205))) 2) 3689348814741910323) + (andI .u64 (IntKind.u64.wrap ((andI .u64 (shrI .u64 a0 1) 6148914691236517205) + (andI .u64 a0 6148914691236517205))) 3689348814741910323))) 4) + (IntKind.u64.wrap ((andI .u64 (shrI .u64 (IntKind.u64.wrap ((andI .u64 (shrI .u64 a0 1) 6148914691236517205) + (andI .u64 a0 6148914691236517205))) 2) 3689348814741910323) + (andI .u64 (IntKind.u64.wrap ((andI .u64 (shrI .u64 a0 1) 6148914691236517205) + (andI .u64 a0 6148914691236517205))) 3689348814741910323))))) 1085102592571150095) + (shrI .u64 (andI .u64 (IntKind.u64.wrap ((shrI .u64 (IntKind.u64.wrap ((andI .u64 (shrI .u64 (IntKind.u64.wrap ((andI .u64 (shrI .u64 a0 1) 6148914691236517205) + (andI .u64 a0 6148914691236517205))) 2) 3689348814741910323) + (andI .u64 (IntKind.u64.wrap ((andI .u64 (shrI .u64 a0 1) 6148914691236517205) + (andI .u64 a0 6148914691236517205))) 3689348814741910323))) 4) + (IntKind.u64.wrap ((andI .u64 (shrI .u64 (IntKind.u64.wrap ((andI .u64 (shrI .u64 a0 1) 6148914691236517205) + (andI .u64 a0 6148914691236517205))) 2) 3689348814741910323) + (andI .u64 (IntKind.u64.wrap ((andI .u64 (shrI .u64 a0 1) 6148914691236517205) + (andI .u64 a0 6148914691236517205))) 3689348814741910323))))) 1085102592571150095) 8))) 16))) + (shrI .u64 (IntKind.u64.wrap ((IntKind.u64.wrap ((andI .u64 (IntKind.u64.wrap ((shrI .u64 (IntKind.u64.wrap ((andI .u64 (shrI .u64 (IntKind.u64.wrap ((andI .u64 (shrI .u64 a0 1) 6148914691236517205) + (andI .u64 a0 6148914691236517205))) 2) 3689348814741910323) + (andI .u64 (IntKind.u64.wrap ((andI .u64 (shrI .u64 a0 1) 6148914691236517205) + (andI .u64 a0 6148914691236517205))) 3689348814741910323))) 4) + (IntKind.u64.wrap ((andI .u64 (shrI .u64 (IntKind.u64.wrap ((andI .u64 (shrI .u64 a0 1) 6148914691236517205) + (andI .u64 a0 6148914691236517205))) 2) 3689348814741910323) + (andI .u64 (IntKind.u64.wrap ((andI .u64 (shrI .u64 a0 1) 6148914691236517205) + (andI .u64 a0 6148914691236517205))) 3689348814741910323))))) 1085102592571150095) + (shrI .u64 (andI .u64 (IntKind.u64.wrap ((shrI .u64 (IntKind.u64.wrap ((andI .u64 (shrI .u64 (IntKind.u64.wrap ((andI .u64 (shrI .u64 a0 1) 6148914691236517205) + (andI .u64 a0 6148914691236517205))) 2) 3689348814741910323) + (andI .u64 (IntKind.u64.wrap ((andI .u64 (shrI .u64 a0 1) 6148914691236517205) + (andI .u64 a0 6148914691236517205))) 3689348814741910323))) 4) + (IntKind.u64.wrap ((andI .u64 (shrI .u64 (IntKind.u64.wrap ((andI .u64 (shrI .u64 a0 1) 6148914691236517205) + (andI .u64 a0 6148914691236517205))) 2) 3689348814741910323) + (andI .u64 (IntKind.u64.wrap ((andI .u64 (shrI .u64 a0 1) 6148914691236517205) + (andI .u64 a0 6148914691236517205))) 3689348814741910323))))) 1085102592571150095) 8))) + (shrI .u64 (IntKind.u64.wrap ((andI .u64 (IntKind.u64.wrap ((shrI .u64 (IntKind.u64.wrap ((andI .u64 (shrI .u64 (IntKind.u64.wrap ((andI .u64 (shrI .u64 a0 1) 6148914691236517205) + (andI .u64 a0 6148914691236517205))) 2) 3689348814741910323) + (andI .u64 (IntKind.u64.wrap ((andI .u64 (shrI .u64 a0 1) 6148914691236517205) + (andI .u64 a0 6148914691236517205))) 3689348814741910323))) 4) + (IntKind.u64.wrap ((andI .u64 (shrI .u64 (IntKind.u64.wrap ((andI .u64 (shrI .u64 a0 1) 6148914691236517205) + (andI .u64 a0 6148914691236517205))) 2) 3689348814741910323) + (andI .u64 (IntKind.u64.wrap ((andI .u64 (shrI .u64 a0 1) 6148914691236517205) + (andI .u64 a0 6148914691236517205))) 3689348814741910323))))) 1085102592571150095) + (shrI .u64 (andI .u64 (IntKind.u64.wrap ((shrI .u64 (IntKind.u64.wrap ((andI .u64 (shrI .u64 (IntKind.u64.wrap ((andI .u64 (shrI .u64 a0 1) 6148914691236517205) + (andI .u64 a0 6148914691236517205))) 2) 3689348814741910323) + (andI .u64 (IntKind.u64.wrap ((andI .u64 (shrI .u64 a0 1) 6148914691236517205) + (andI .u64 a0 6148914691236517205))) 3689348814741910323))) 4) + (IntKind.u64.wrap ((andI .u64 (shrI .u64 (IntKind.u64.wrap ((andI .u64 (shrI .u64 a0 1) 6148914691236517205) + (andI .u64 a0 6148914691236517205))) 2) 3689348814741910323) + (andI .u64 (IntKind.u64.wrap ((andI .u64 (shrI .u64 a0 1) 6148914691236517205) + (andI .u64 a0 6148914691236517205))) 3689348814741910323))))) 1085102592571150095) 8))) 16))) 32)))) 127)) rfl (x_and rfl rfl) ?_
 refine OV (.int .i64 (andI .i64 (IntKind.i64.wrap (IntKind.u64.wrap ((IntKind.u64.wrap ((IntKind.u64.wrap ((andI .u64 (IntKind.u64.wrap ((shrI .u64 (IntKind.u64.wrap ((andI .u64 (shrI .u64 (IntKind.u64.wrap ((andI .u64 (shrI .u64 a0 1) 6148914691236517205) + (andI .u64 a0 6148914691236517205))) 2) 3689348814741910323) + (andI .u64 (IntKind.u64.wrap ((andI .u64 (shrI .u64 a0 1) 6148914691236517205) + (andI .u64 a0 6148914691236517205))) 3689348814741910323))) 4) + (IntKind.u64.wrap ((andI .u64 (shrI .u64 (IntKind.u64.wrap ((andI .u64 (shrI .u64 a0 1) 6148914691236517205) + (andI .u64 a0 6148914691236517205))) 2) 3689348814741910323) + (andI .u64 (IntKind.u64.wrap ((andI .u64 (shrI .u64 a0 1) 6148914691236517205) + (andI .u64 a0 6148914691236517205))) 3689348814741910323))))) 1085102592571150095) + (shrI .u64 (andI .u64 (IntKind.u64.wrap ((shrI .u64 (IntKind.u64.wrap ((andI .u64 (shrI .u64 (IntKind.u64.wrap ((andI .u64 (shrI .u64 a0 1) 6148914691236517205) + (andI .u64 a0 6148914691236517205))) 2) 3689348814741910323) + (andI .u64 (IntKind.u64.wrap ((andI .u64 (shrI .u64 a0 1) 6148914691236517205) + (andI .u64 a0 6148914691236517205))) 3689348814741910323))) 4) + (IntKind.u64.wrap ((andI .u64 (shrI .u64 (IntKind.u64.wrap ((andI .u64 (shrI .u64 a0 1) 6148914691236517205) + (andI .u64 a0 6148914691236517205))) 2) 3689348814741910323) + (andI .u64 (IntKind.u64.wrap ((andI .u64 (shrI .u64 a0 1) 6148914691236517205) + (andI .u64 a0 6148914691236517205))) 3689348814741910323))))) 1085102592571150095) 8))) + (shrI .u64 (IntKind.u64.wrap ((andI .u64 (IntKind.u64.wrap ((shrI .u64 (IntKind.u64.wrap ((andI .u64 (shrI .u64 (IntKind.u64.wrap ((andI .u64 (shrI .u64 a0 1) 6148914691236517205) + (andI .u64 a0 6148914691236517205))) 2) 3689348814741910323) + (andI .u64 (IntKind.u64.wrap ((andI .u64 (shrI .u64 a0 1) 6148914691236517205) + (andI .u64 a0 6148914691236517205))) 3689348814741910323))) 4) + (IntKind.u64.wrap ((andI .u64 (shrI .u64 (IntKind.u64.wrap ((andI .u64 (shrI .u64 a0 1) 6148914691236517205) + (andI .u64 a0 6148914691236517205))) 2) 3689348814741910323) + (andI .u64 (IntKind.u64.wrap ((andI .u64 (shrI .u64 a0 1) 6148914691236517205) + (andI .u64 a0 6148914691236517205))) 3689348814741910323))))) 1085102592571150095) + (shrI .u64 (andI .u64 (IntKind.u64.wrap ((shrI .u64 (IntKind.u64.wrap ((andI .u64 (shrI .u64 (IntKind.u64.wrap ((andI .u64 (shrI .u64 a0 1) 6148914691236517205) + (andI .u64 a0 6148914691236517205))) 2) 3689348814741910323) + (andI .u64 (IntKind.u64.wrap ((andI .u64 (shrI .u64 a0 1) 6148914691236517205) + (andI .u64 a0 6148914691236517205))) 3689348814741910323))) 4) + (IntKind.u64.wrap ((andI .u64 (shrI .u64 (IntKind.u64.wrap ((andI .u64 (shrI .u64 a0 1) 6148914691236517205) + (andI .u64 a0 6148914691236517205))) 2) 3689348814741910323) + (andI .u64 (IntKind.u64.wrap ((andI .u64 (shrI .u64 a0 1) 6148914691236517205) + (andI .u64 a0 6148914691236517205))) 3689348814741910323))))) 1085102592571150095) 8))) 16))) + (shrI .u64 (IntKind.u64.wrap ((IntKind.u64.wrap ((andI .u64 (IntKind.u64.wrap ((shrI .u64 (IntKind.u64.wrap ((andI .u64 (shrI .u64 (IntKind.u64.wrap ((andI .u64 (shrI .u64 a0 1) 6148914691236517205) + (andI .u64 a0 6148914691236517205))) 2) 3689348814741910323) + (andI .u64 (IntKind.u64.wrap ((andI .u64 (shrI .u64 a0 1) 6148914691236517205) + (andI .u64 a0 6148914691236517205))) 3689348814741910323))) 4) + (IntKind.u64.wrap ((andI .u64 (shrI .u64 (IntKind.u64.wrap ((andI .u64 (shrI .u64 a0 1) 6148914691236517205) + (andI .u64 a0 6148914691236517205))) 2) 3689348814741910323) + (andI .u64 (IntKind.u64.wrap ((andI .u64 (shrI .u64 a0 1) 6148914691236517205) + (andI .u64 a0 6148914691236517205))) 3689348814741910323))))) 1085102592571150095) + (shrI .u64 (andI .u64 (IntKind.u64.wrap ((shrI .u64 (IntKind.u64.wrap ((andI .u64 (shrI .u64 (IntKind.u64.wrap ((andI .u64 (shrI .u64 a0 1) 6148914691236517205) + (andI .u64 a0 6148914691236517205))) 2) 3689348814741910323) + (andI .u64 (IntKind.u64.wrap ((andI .u64 (shrI .u64 a0 1) 6148914691236517205) + (andI .u64 a0 6148914691236517205))) 3689348814741910323))) 4) + (IntKind.u64.wrap ((andI .u64 (shrI .u64 (IntKind.u64.wrap ((andI .u64 (shrI .u64 a0 1) 6148914691236517205) + (andI .u64 a0 6148914691236517205))) 2) 3689348814741910323) + (andI .u64 (IntKind.u64.wrap ((andI .u64 (shrI .u64 a0 1) 6148914691236517205) + (andI .u64 a0 6148914691236517205))) 3689348814741910323))))) 1085102592571150095) 8))) + (shrI .u64 (IntKind.u64.wrap ((andI .u64 (IntKind.u64.wrap ((shrI .u64 (IntKind.u64.wrap ((andI .u64 (shrI .u64 (IntKind.u64.wrap ((andI .u64 (shrI .u64 a0 1) 6148914691236517205) + (andI .u64 a0 6148914691236517205))) 2) 3689348814741910323) + (andI .u64 (IntKind.u64.wrap ((andI .u64 (shrI .u64 a0 1) 6148914691236517205) + (andI .u64 a0 6148914691236517205))) 3689348814741910323))) 4) + (IntKind.u64.wrap ((andI .u64 (shrI .u64 (IntKind.u64.wrap ((andI .u64 (shrI .u64 a0 1) 6148914691236517205) + (andI .u64 a0 6148914691236517205))) 2) 3689348814741910323) + (andI .u64 (IntKind.u64.wrap ((andI .u64 (shrI .u64 a0 1) 6148914691236517205) + (andI .u64 a0 6148914691236517205))) 3689348814741910323))))) 1085102592571150095) + (shrI .u64 (andI .u64 (IntKind.u64.wrap ((shrI .u64 (IntKind.u64.wrap ((andI .u64 (shrI .u64 (IntKind.u64.wrap ((andI .u64 (shrI .u64 a0 1) 6148914691236517205) + (andI .u64 a0 6148914691236517205))) 2) 3689348814741910323) + (andI .u64 (IntKind.u64.wrap ((andI .u64 (shrI .u64 a0 1) 6148914691236517205) + (andI .u64 a0 6148914691236517205))) 3689348814741910323))) 4) + (IntKind.u64.wrap ((andI .u64 (shrI .u64 (IntKind.u64.wrap ((andI .u64 (shrI .u64 a0 1) 6148914691236517205) + (andI .u64 a0 6148914691236517205))) 2) 3689348814741910323) + (andI .u64 (IntKind.u64.wrap ((andI .u64 (shrI .u64 a0 1) 6148914691236517205) + (andI .u64 a0 6148914691236517205))) 3689348814741910323))))) 1085102592571150095) 8))) 16))) 32)))) 127)) rfl (x_assign) ?_
 refine OW.nil ?_
 refine CW.ret ?_
 obtain rfl := Option.some.inj hm
 exact RR1 rfl rfl ⟨rfl, hL.fresh 0 rfl [] (by decide) (by decide) rfl⟩

theorem M.math_bits_OnesCount_ok (w0 : World) (a0 : Int) {r : Int} (hm : M.math_bits_OnesCount a0 = some r) :
    Calls Try.prog 49 #[(.int .u64 a0)] w0 fun e w' => e = .returned (.int .i64 r) ∧ Fresh w0 w' [] := by
 unfold M.math_bits_OnesCount at hm
 refine calls_CW (args := [(.int .u64 a0)]) Try.func49 rfl rfl rfl ?_
 have hL := Hp.start w0
 refine CSR ?_
 refine OV (.int .i64 0) rfl (x_assign) ?_
 refine ONS ?_
 refine CW.condF rfl rfl ?_
 refine CW.skip ?_
 refine CSR ?_
 refine OV (.int .u64 a0) rfl (x_move) ?_
 obtain ⟨x1, hx2, hm⟩ := bndE hm
 refine OW.cons (OP.call rfl (x_call (vs := [(.int .u64 a0)]) Try_C64 ⟨rfl, trivial⟩) (M.math_bits_OnesCount64_ok _ a0 hx2) ?_)
 rintro e3 wd4 ⟨rfl, hF5⟩
 refine ⟨_, rfl, ?_⟩
 have hL := hL.pushAll hF5
 simp only [lA, lB, lC, lD] at hL
 refine OV (.int .i64 x1) rfl (x_assign) ?_
 refine OW.nil ?_
 refine CW.ret ?_
 obtain rfl := Option.some.inj hm
 exact RR1 rfl rfl ⟨rfl, hL.fresh 0 rfl [] (by decide) (by decide) rfl⟩

theorem M.impl_SimplifyCurve_1_ok (w0 : World) (a0 : CurvePoint) (a1 : List CurvePoint) {v3 : Value} {b1 : Nat} (h4 : rdL (· < w0.heap.size) w0 v3 a1) (hb2 : bxA (· < w0.heap.size) w0 b1 34 #[v3]) (a2 : Int) {b5 : Nat} (hb6 : bxA (· < w0.heap.size) w0 b5 2 #[(.int .i64 a2)]) {r : Bool} (hm : M.impl_SimplifyCurve_1 a0 a1 a2 = some r) :
    Calls Try.prog 50 #[(.agg #[(.int .i64 a0.Wind), (.int .i64 a0.Pace)]), (.pointer (some ⟨b1, 0, none⟩)), (.pointer (some ⟨b5, 0, none⟩))] w0 fun e w' => e = .returned (.bool r) ∧ Fresh w0 w' [] := by
 unfold M.impl_SimplifyCurve_1 at hm
 refine calls_CW (args := [(.agg #[(.int .i64 a0.Wind), (.int .i64 a0.Pace)]), (.pointer (some ⟨b1, 0, none⟩)), (.pointer (some ⟨b5, 0, none⟩))]) Try.func50 rfl rfl rfl ?_
 have hL := Hp.start w0
 refine CSR ?_
 refine OW.cons (S_box (cs := #[(.int .i64 a0.Wind), (.int .i64 a0.Pace)]) hL rfl rfl rfl ?_)
 intro wd7 b8 hL
 refine OV (.bool false) rfl (x_assign) ?_
 refine ONS ?_
 refine CW.draw Try_mixed ?_
 have hL := hL.call (Mod.drew _)
 refine DW.pre (fuel := 0) (fin := bma 13 8191) (C := fun w' => Mod None_ _ w') [0, 1, 2, 3, 4, 5, 6, 7, 8, 9, 10, 11, 12] (Mod.refl _ _) (by kernel_rfl) (by kernel_rfl) ?_
 refine QW.cons rfl (QP.val (v := v3) rfl (fun w' hm' => x_load1 U34 rfl rfl (((hL.call hm').bxS 1 rfl hb2).cell rfl)) ?_)
 refine QW.cons rfl (QP.val (v := (.pointer (some ⟨b8, 0, none⟩))) rfl (fun w' hm' => x_fieldAddr (fsz := 1) 0 0 0 U62 rfl Try_T2 rfl rfl rfl) ?_)
 refine QW.cons rfl (QP.val (v := (.int .i64 a0.Wind)) rfl (fun w' hm' => x_load1 U2 rfl rfl ((hL.call hm').cellB 0 rfl rfl)) ?_)
 obtain ⟨x9, hx10, hm⟩ := bndE hm
 refine QW.cons rfl (QP.call (v := (.int .i64 x9)) rfl (fun w' hm' => x_call (vs := [v3, (.int .i64 a0.Wind)]) Try_C51 ⟨rfl, rfl, trivial⟩) (fun w' hm' => (M.impl_paceAt_ok w' a1 ((hL.call hm').rdS 1 rfl h4) a0.Wind hx10).mono (fun e w'' h => ⟨h.1, hm'.trans h.2.mod⟩)) ?_)
 refine QW.cons rfl (QP.val (v := (.pointer (some ⟨b8, 1, none⟩))) rfl (fun w' hm' => x_fieldAddr (fsz := 1) 0 1 1 U62 rfl Try_T2 rfl rfl rfl) ?_)
 refine QW.cons rfl (QP.val (v := (.int .i64 a0.Pace)) rfl (fun w' hm' => x_load1 U2 rfl rfl ((hL.call hm').cellB 0 rfl rfl)) ?_)
 refine QW.cons rfl (QP.val (v := (.int .i64 (w64 (x9 - a0.Pace)))) rfl (fun w' hm' => x_sub rfl rfl) ?_)
 refine QW.cons rfl (QP.val (v := (.int .i64 a2)) rfl (fun w' hm' => x_load1 U2 rfl rfl (((hL.call hm').bxS 1 rfl hb6).cell rfl)) ?_)
 refine QW.cons rfl (QP.val (v := (.int .i64 (w64 (0 - a2)))) rfl (fun w' hm' => x_neg rfl) ?_)
 refine QW.cons rfl (QP.val (v := (.int .i64 a2)) rfl (fun w' hm' => x_load1 U2 rfl rfl (((hL.call hm').bxS 1 rfl hb6).cell rfl)) ?_)
 obtain ⟨x11, hx12, hm⟩ := bndE hm
 refine QW.cons rfl (QP.call (v := (.bool x11)) rfl (fun w' hm' => x_call (vs := [(.int .i64 (w64 (x9 - a0.Pace))), (.int .i64 (w64 (0 - a2))), (.int .i64 a2)]) Try_C37 ⟨rfl, rfl, rfl, trivial⟩) (fun w' hm' => (M.impl_within_ok w' (w64 (x9 - a0.Pace)) (w64 (0 - a2)) a2 hx12).mono (fun e w'' h => ⟨h.1, hm'.trans h.2.mod⟩)) ?_)
 refine QW.cons rfl (QP.val (v := (.bool (!x11))) rfl (fun w' hm' => x_not rfl) ?_)
 refine QW.cons rfl (QP.val (v := (.bool (!x11))) rfl (fun w' hm' => x_assign) ?_)
 refine QW.nil ?_
 intro wd13 hmod
 have hL := hL.call hmod
 refine DW.done (by kernel_rfl) ?_
 refine CW.ret ?_
 obtain rfl := Option.some.inj hm
 exact RR1 rfl rfl ⟨rfl, hL.fresh 1 rfl [] (by decide) (by decide) rfl⟩

theorem M.slices_IndexFunc___impl_CurvePoint_impl_CurvePoint__ok (w0 : World) (a0 : List CurvePoint) {v1 : Value} (h2 : rdL (· < w0.heap.size) w0 v1 a0) (a1 : CurvePoint → Option Bool) {fk3 : FuncId} {cp4 : List Value} (hq5 : FnQ Try.prog fk3 cp4 (· < w0.heap.size) w0 (fun yw yvs yv => ∃ (y0 : CurvePoint) (yr : Bool), yvs = [(.agg #[(.int .i64 y0.Wind), (.int .i64 y0.Pace)])] ∧ a1 y0 = some yr ∧ yv = (.bool yr))) {r : Int} (hm : M.slices_IndexFunc___impl_CurvePoint_impl_CurvePoint_ a0 a1 = some r) :
    Calls Try.prog 66 #[v1, (.func (.func fk3) #[] cp4.toArray)] w0 fun e w' => e = .returned (.int .i64 r) ∧ Fresh w0 w' [] := by
 unfold M.slices_IndexFunc___impl_CurvePoint_impl_CurvePoint_ at hm
 refine calls_CW (args := [v1, (.func (.func fk3) #[] cp4.toArray)]) Try.func66 rfl rfl rfl ?_
 have hL := Hp.start w0
 refine CSR ?_
 refine OV (.int .i64 0) rfl (x_assign) ?_
 refine ONS ?_
 refine CSR ?_
 refine OV v1 rfl (x_move) ?_
 refine OV (.int .i64 (a0.length : Int)) rfl (x_lenR U34 rfl (hL.rdS 0 rfl h2)) ?_
 refine OV (.int .i64 0) rfl (x_move) ?_
 refine OW.nil ?_
 obtain ⟨o36, ho37, hm⟩ := bndE hm
 refine CW.loopB (fun (s_l1 : Int) (F : Fr) (w : World) => F 0 = v1 ∧ F 1 = (.func (.func fk3) #[] cp4.toArray) ∧ F 7 = (.int .i64 (a0.length : Int)) ∧ F 8 = (.int .i64 s_l1) ∧ Hp w0 [Ent.snap w0 w0.heap.size] w) (fun o => outc o (fun x => some x) (fun s => M.slices_IndexFunc___impl_CurvePoint_impl_CurvePoint__a1 s) = some r) ho37 hm ⟨rfl, rfl, rfl, rfl, hL⟩ ?_ ?_
 · intro s_l1 F38 wd39 hJ hm
   have hm := outcE hm
   have hm : M.slices_IndexFunc___impl_CurvePoint_impl_CurvePoint__a1 s_l1 = some r := hm
   unfold M.slices_IndexFunc___impl_CurvePoint_impl_CurvePoint__a1 at hm
   obtain ⟨f40, f41, f42, f43, hL⟩ := hJ
   refine CSR ?_
   refine OV (.int .i64 (-1)) rfl (x_assign) ?_
   refine OW.nil ?_
   refine CW.ret ?_
   obtain rfl := Option.some.inj hm
   exact RR1 rfl rfl ⟨rfl, hL.fresh 0 rfl [] (by decide) (by decide) rfl⟩
 intro s_l1 F44 wd45 t34 hJ hm hr35
 unfold M.slices_IndexFunc___impl_CurvePoint_impl_CurvePoint__l1 at hm
 obtain ⟨f46, f47, f48, f49, hL⟩ := hJ
 refine CSR ?_
 refine OV (.bool (decide (s_l1 < (a0.length : Int)))) rfl (x_lss f49 f48) ?_
 refine ONS ?_
 refine CW.condM (t := decide (s_l1 < (a0.length : Int))) rfl hm (fun hb50 hm => ?_) (fun hb50 hm => ?_)
 · refine CW.skip ?_
   refine CW.seq ?_
   refine CW.block ?_
   refine CSR ?_
   refine OV (.int .i64 s_l1) rfl (x_mv f49) ?_
   refine OV (.int .i64 s_l1) rfl (x_assign) ?_
   refine ONR ?_
   refine OV (.func (.func fk3) #[] cp4.toArray) rfl (x_mv f47) ?_
   refine OV v1 rfl (x_mv f46) ?_
   refine OV (.int .i64 s_l1) rfl (x_move) ?_
   obtain ⟨x51, ha52, hm⟩ := bndE hm
   obtain ⟨hz53, ha57⟩ := idxE ha52
   obtain ⟨b54, q55, hix56⟩ := rdL_ix (hL.rdS 0 rfl h2) hz53 ha57
   refine OV (.pointer (some ⟨b54, q55, none⟩)) rfl (x_ix U34 Try_T62 rfl rfl hix56) ?_
   refine OV (.agg #[(.int .i64 x51.Wind), (.int .i64 x51.Pace)]) rfl (x_loadN (cs := [(.int .i64 x51.Wind), (.int .i64 x51.Pace)]) U62 Try_T62 rfl rfl (rdF_cells (hL.rdS 0 rfl h2) hix56 ha57)) ?_
   obtain ⟨x58, hx59, hm⟩ := bndE hm
   refine OW.cons (OP.call rfl (x_callV (vs := [(.agg #[(.int .i64 x51.Wind), (.int .i64 x51.Pace)])]) (cap := cp4) hq5.1 rfl ⟨rfl, trivial⟩) (hq5.2 _ (hL.agS 0 rfl) [(.agg #[(.int .i64 x51.Wind), (.int .i64 x51.Pace)])] _ ⟨x51, x58, rfl, hx59, rfl⟩) ?_)
   rintro e60 wd61 ⟨rfl, hF62⟩
   refine ⟨_, rfl, ?_⟩
   have hL := hL.pushAll hF62
   simp only [lA, lB, lC, lD] at hL
   refine OW.nil ?_
   refine CW.condM (t := x58) rfl hm (fun hb63 hm => ?_) (fun hb63 hm => ?_)
   · refine CSR ?_
     refine OV (.int .i64 s_l1) rfl (x_move) ?_
     refine OV (.int .i64 s_l1) rfl (x_assign) ?_
     refine OW.nil ?_
     refine CW.ret ?_
     obtain rfl := Option.some.inj hm
     have hm := hr35 _ rfl
     obtain rfl := Option.some.inj hm
     exact RR1 rfl rfl ⟨rfl, hL.fresh 0 rfl [] (by decide) (by decide) rfl⟩
   refine CW.skip ?_
   refine CW.regionL ?_
   refine OV (.int .i64 (w64 (s_l1 + 1))) rfl (x_add f49 rfl) ?_
   refine OV (.int .i64 (w64 (s_l1 + 1))) rfl (x_move) ?_
   refine OW.nil ?_
   obtain rfl := Option.some.inj hm
   exact ⟨_, rfl, ⟨f46, f47, f48, rfl, hL⟩⟩
 refine CW.exit ?_
 refine XJ.hit ?_
 obtain rfl := Option.some.inj hm
 exact ⟨_, rfl, ⟨f46, f47, f48, f49, hL⟩⟩

theorem M.slices_ContainsFunc___impl_CurvePoint_impl_CurvePoint__ok (w0 : World) (a0 : List CurvePoint) {v1 : Value} (h2 : rdL (· < w0.heap.size) w0 v1 a0) (a1 : CurvePoint → Option Bool) {fk3 : FuncId} {cp4 : List Value} (hq5 : FnQ Try.prog fk3 cp4 (· < w0.heap.size) w0 (fun yw yvs yv => ∃ (y0 : CurvePoint) (yr : Bool), yvs = [(.agg #[(.int .i64 y0.Wind), (.int .i64 y0.Pace)])] ∧ a1 y0 = some yr ∧ yv = (.bool yr))) {r : Bool} (hm : M.slices_ContainsFunc___impl_CurvePoint_impl_CurvePoint_ a0 a1 = some r) :
    Calls Try.prog 52 #[v1, (.func (.func fk3) #[] cp4.toArray)] w0 fun e w' => e = .returned (.bool r) ∧ Fresh w0 w' [] := by
 unfold M.slices_ContainsFunc___impl_CurvePoint_impl_CurvePoint_ at hm
 refine calls_CW (args := [v1, (.func (.func fk3) #[] cp4.toArray)]) Try.func52 rfl rfl rfl ?_
 have hL := Hp.start w0
 refine CSR ?_
 refine OV (.bool false) rfl (x_assign) ?_
 refine ONR ?_
 refine OV v1 rfl (x_move) ?_
 refine OV (.func (.func fk3) #[] cp4.toArray) rfl (x_move) ?_
 obtain ⟨x6, hx7, hm⟩ := bndE hm
 refine OW.cons (OP.call rfl (x_call (vs := [v1, (.func (.func fk3) #[] cp4.toArray)]) Try_C66 ⟨rfl, rfl, trivial⟩) (M.slices_IndexFunc___impl_CurvePoint_impl_CurvePoint__ok _ a0 (hL.rdS 0 rfl h2) a1 (hL.fnS 0 rfl hq5) hx7) ?_)
 rintro e8 wd9 ⟨rfl, hF10⟩
 refine ⟨_, rfl, ?_⟩
 have hL := hL.pushAll hF10
 simp only [lA, lB, lC, lD] at hL
 refine OV (.bool (decide (0 ≤ x6))) rfl (x_geq rfl rfl) ?_
 refine OV (.bool (decide (0 ≤ x6))) rfl (x_assign) ?_
 refine OW.nil ?_
 refine CW.ret ?_
 obtain rfl := Option.some.inj hm
 exact RR1 rfl rfl ⟨rfl, hL.fresh 0 rfl [] (by decide) (by decide) rfl⟩

theorem M.impl_SimplifyCurve_ok (w0 : World) (a0 : List CurvePoint) {v1 : Value} (h2 : rdL (· < w0.heap.size) w0 v1 a0) (a1 : Int) {r : (List CurvePoint) × Int} (hm : M.impl_SimplifyCurve a0 a1 = some r) :
    Calls Try.prog 23 #[v1, (.int .i64 a1)] w0 fun e w' => ∃ (rv0 : Value) (rS0 : Nat → Prop), e = .returned (.tuple #[rv0, (.int .i64 r.2)]) ∧ Fresh w0 w' [Ent.own 62 rS0 rv0 r.1] := by
 unfold M.impl_SimplifyCurve at hm
 refine calls_CW (args := [v1, (.int .i64 a1)]) Try.func23 rfl rfl rfl ?_
 have hL := Hp.start w0
 refine CSR ?_
 refine OW.cons (S_box (cs := #[(.int .i64 a1)]) hL rfl rfl rfl ?_)
 intro wd3 b4 hL
 refine OV (.slice none 0 0) rfl (x_assign) ?_
 refine OV (.int .i64 0) rfl (x_assign) ?_
 refine ONS ?_
 refine CSR ?_
 refine OV v1 rfl (x_move) ?_
 obtain ⟨x5, hx6, hm⟩ := bndE hm
 refine OW.cons (OP.call rfl (x_call (vs := [v1]) Try_C36 ⟨rfl, trivial⟩) (M.impl_IsCurve_ok _ a0 (hL.rdS 1 rfl h2) hx6) ?_)
 rintro e7 wd8 ⟨rfl, hF9⟩
 refine ⟨_, rfl, ?_⟩
 have hL := hL.pushAll hF9
 simp only [lA, lB, lC, lD] at hL
 refine OV (.bool (!x5)) rfl (x_not rfl) ?_
 refine OW.nil ?_
 refine CW.condM (t := !x5) rfl hm (fun hb10 hm => ?_) (fun hb10 hm => ?_)
 · refine CSR ?_
   refine OV (.slice none 0 0) rfl (x_assign) ?_
   refine OV (.int .i64 1) rfl (x_assign) ?_
   refine OW.nil ?_
   refine CW.ret ?_
   have hL := hL.pushNil CurvePoint 62
   obtain rfl := Option.some.inj hm
   exact RR2 rfl rfl rfl ⟨(.slice none 0 0), None_, rfl, hL.fresh 2 rfl [0] (by decide) (by decide) rfl⟩
 refine CW.skip ?_
 refine CW.seq ?_
 refine CSR ?_
 refine OV (.int .i64 a1) rfl (x_load1 U2 rfl rfl (hL.cellB 0 rfl rfl)) ?_
 obtain ⟨x11, hx12, hm⟩ := bndE hm
 refine OW.cons (OP.call rfl (x_call (vs := [(.int .i64 a1), (.int .i64 0), (.int .i64 1000000)]) Try_C37 ⟨rfl, rfl, rfl, trivial⟩) (M.impl_within_ok _ a1 0 1000000 hx12) ?_)
 rintro e13 wd14 ⟨rfl, hF15⟩
 refine ⟨_, rfl, ?_⟩
 have hL := hL.pushAll hF15
 simp only [lA, lB, lC, lD] at hL
 refine OV (.bool (!x11)) rfl (x_not rfl) ?_
 refine OW.nil ?_
 refine CW.condM (t := !x11) rfl hm (fun hb16 hm => ?_) (fun hb16 hm => ?_)
 · refine CSR ?_
   refine OV (.slice none 0 0) rfl (x_assign) ?_
   refine OV (.int .i64 2) rfl (x_assign) ?_
   refine OW.nil ?_
   refine CW.ret ?_
   have hL := hL.pushNil CurvePoint 62
   obtain rfl := Option.some.inj hm
   exact RR2 rfl rfl rfl ⟨(.slice none 0 0), None_, rfl, hL.fresh 2 rfl [0] (by decide) (by decide) rfl⟩
 refine CW.skip ?_
 refine CSR ?_
 refine OV (.slice none 0 0) rfl (x_assign) ?_
 refine ONR ?_
 refine OV v1 rfl (x_move) ?_
 refine OV (.int .i64 (a0.length : Int)) rfl (x_lenR U34 rfl (hL.rdS 1 rfl h2)) ?_
 refine OV (.int .i64 (w64 ((a0.length : Int) - 1))) rfl (x_sub rfl rfl) ?_
 refine OV (.int .i64 (w64 ((a0.length : Int) - 1))) rfl (x_assign) ?_
 refine ONS ?_
 refine CSR ?_
 refine OV (.int .i64 (w64 ((a0.length : Int) - 1))) rfl (x_move) ?_
 refine OV (.int .i64 (w64 ((w64 ((a0.length : Int) - 1)) + 1))) rfl (x_add rfl rfl) ?_
 obtain ⟨hc17, hm⟩ := chkE hm
 refine OV (.int .i64 (shlI .i64 1 (w64 ((w64 ((a0.length : Int) - 1)) + 1)))) rfl (x_shl rfl rfl hc17) ?_
 refine OV (.int .i64 (w64 ((shlI .i64 1 (w64 ((w64 ((a0.length : Int) - 1)) + 1))) - 1))) rfl (x_sub rfl rfl) ?_
 refine OV (.int .i64 (w64 ((shlI .i64 1 (w64 ((w64 ((a0.length : Int) - 1)) + 1))) - 1))) rfl (x_assign) ?_
 refine OW.nil ?_
 obtain ⟨o3478, ho3479, hm⟩ := bndE hm
 have hL := hL.pushNil CurvePoint 62
 refine CW.loopB (fun (s_l1 : (List CurvePoint) × Int) (F : Fr) (w : World) => ∃ (v3474 : Value) (S3475 : Nat → Prop), F 0 = v1 ∧ F 3 = (.pointer (some ⟨b4, 0, none⟩)) ∧ F 6 = v3474 ∧ F 7 = (.int .i64 (w64 ((a0.length : Int) - 1))) ∧ F 8 = (.int .i64 s_l1.2) ∧ (s_l1.1 = [] → v3474 = .slice none 0 0) ∧ Hp w0 [Ent.own 62 S3475 v3474 s_l1.1, Ent.blk b4 2 #[(.int .i64 a1)], Ent.snap w0 w0.heap.size] w) (fun o => outc o (fun x => some x) (fun s => M.impl_SimplifyCurve_a1 s) = some r) ho3479 hm ⟨(.slice none 0 0), None_, rfl, rfl, rfl, rfl, rfl, fun _ => rfl, hL⟩ ?_ ?_
 · intro s_l1 F3480 wd3481 hJ hm
   have hm := outcE hm
   have hm : M.impl_SimplifyCurve_a1 s_l1 = some r := hm
   unfold M.impl_SimplifyCurve_a1 at hm
   obtain ⟨v3474, S3475, f3482, f3483, f3484, f3485, f3486, hn3487, hL⟩ := hJ
   refine CSR ?_
   refine OV v3474 rfl (x_mv f3484) ?_
   refine OV v3474 rfl (x_assign) ?_
   refine OV (.int .i64 0) rfl (x_assign) ?_
   refine OW.nil ?_
   refine CW.ret ?_
   obtain rfl := Option.some.inj hm
   exact RR2 rfl rfl rfl ⟨v3474, S3475, rfl, hL.fresh 2 rfl [0] (by decide) (by decide) rfl⟩
 intro s_l1 F3488 wd3489 t3476 hJ hm hr3477
 unfold M.impl_SimplifyCurve_l1 at hm
 obtain ⟨v3474, S3475, f3490, f3491, f3492, f3493, f3494, hn3495, hL⟩ := hJ
 refine CW.seq ?_
 refine CSR ?_
 refine OV (.int .i64 s_l1.2) rfl (x_mv f3494) ?_
 refine OV (.bool (decide (0 < s_l1.2))) rfl (x_gtr rfl rfl) ?_
 refine OW.nil ?_
 refine CW.condM (t := decide (0 < s_l1.2)) rfl hm (fun hb3496 hm => ?_) (fun hb3496 hm => ?_)
 · refine CW.skip ?_
   refine CW.seqJ (fun (s_j1 : (List CurvePoint)) (F : Fr) (w : World) => ∃ (v4357 : Value) (S4358 : Nat → Prop), F 0 = v1 ∧ F 3 = (.pointer (some ⟨b4, 0, none⟩)) ∧ F 6 = v4357 ∧ F 7 = (.int .i64 (w64 ((a0.length : Int) - 1))) ∧ F 8 = (.int .i64 s_l1.2) ∧ (s_j1 = [] → v4357 = .slice none 0 0) ∧ Hp w0 [Ent.own 62 S4358 v4357 s_j1, Ent.blk b4 2 #[(.int .i64 a1)], Ent.snap w0 w0.heap.size] w) (fun s_j1 => M.impl_SimplifyCurve_j1 s_l1 s_j1 = some t3476) ?_ ?_
   · refine CW.blockJ (fun (s_j2 : (List CurvePoint)) (F : Fr) (w : World) => ∃ (v4792 : Value) (S4793 : Nat → Prop), F 0 = v1 ∧ F 3 = (.pointer (some ⟨b4, 0, none⟩)) ∧ F 6 = v4792 ∧ F 7 = (.int .i64 (w64 ((a0.length : Int) - 1))) ∧ F 8 = (.int .i64 s_l1.2) ∧ (s_j2 = [] → v4792 = .slice none 0 0) ∧ Hp w0 [Ent.own 62 S4793 v4792 s_j2, Ent.blk b4 2 #[(.int .i64 a1)], Ent.snap w0 w0.heap.size] w) (fun s_j2 => M.impl_SimplifyCurve_j2 s_l1 s_j2 = some t3476) ?_ ?_
     · refine CSR ?_
       refine OV (.int .i64 s_l1.2) rfl (x_mv f3494) ?_
       refine OV (.int .u64 (IntKind.u64.wrap s_l1.2)) rfl (x_conv U3 U77 rfl) ?_
       obtain ⟨x4802, hx4803, hm⟩ := bndE hm
       refine OW.cons (OP.call rfl (x_call (vs := [(.int .u64 (IntKind.u64.wrap s_l1.2))]) Try_C49 ⟨rfl, trivial⟩) (M.math_bits_OnesCount_ok _ (IntKind.u64.wrap s_l1.2) hx4803) ?_)
       rintro e4804 wd4805 ⟨rfl, hF4806⟩
       refine ⟨_, rfl, ?_⟩
       have hL := hL.pushAll hF4806
       simp only [lA, lB, lC, lD] at hL
       refine OV (.int .i64 x4802) rfl (x_assign) ?_
       refine ONS ?_
       refine CW.seqJ (fun (s_j3 : Bool) (F : Fr) (w : World) => F 0 = v1 ∧ F 3 = (.pointer (some ⟨b4, 0, none⟩)) ∧ F 6 = v3474 ∧ F 7 = (.int .i64 (w64 ((a0.length : Int) - 1))) ∧ F 8 = (.int .i64 s_l1.2) ∧ F 53 = (.bool s_j3) ∧ Hp w0 [Ent.own 62 S3475 v3474 s_l1.1, Ent.blk b4 2 #[(.int .i64 a1)], Ent.snap w0 w0.heap.size] w) (fun s_j3 => M.impl_SimplifyCurve_j3 a0 a1 s_l1 s_j3 = some t3476) ?_ ?_
       · refine CW.regionL ?_
         refine OV (.int .i64 s_l1.2) rfl (x_mv f3494) ?_
         refine OV (.int .i64 (w64 ((a0.length : Int) - 1))) rfl (x_mv f3493) ?_
         obtain ⟨hc5223, hm⟩ := chkE hm
         refine OV (.int .i64 (shrI .i64 s_l1.2 (w64 ((a0.length : Int) - 1)))) rfl (x_shr rfl rfl hc5223) ?_
         refine OV (.int .i64 (andI .i64 (shrI .i64 s_l1.2 (w64 ((a0.length : Int) - 1))) 1)) rfl (x_and rfl rfl) ?_
         refine OV (.bool ((andI .i64 (shrI .i64 s_l1.2 (w64 ((a0.length : Int) - 1))) 1) == 0)) rfl (x_eql rfl rfl) ?_
         refine OV (.bool ((andI .i64 (shrI .i64 s_l1.2 (w64 ((a0.length : Int) - 1))) 1) == 0)) rfl (x_move) ?_
         refine ifB_elim hm (fun hb5224 hm => ?_) (fun hb5224 hm => ?_)
         · refine OW.cons (OP.no' rfl rfl hb5224 rfl ?_)
           refine OW.cons (OP.no' rfl rfl hb5224 rfl ?_)
           refine OW.cons (OP.no' rfl rfl hb5224 rfl ?_)
           refine OV (.bool true) rfl (x_pickT' rfl hb5224 rfl) ?_
           refine OV (.bool true) rfl (x_move) ?_
           refine OW.cons (OP.no' rfl rfl rfl rfl ?_)
           refine OW.cons (OP.no' rfl rfl rfl rfl ?_)
           refine OW.cons (OP.no' rfl rfl rfl rfl ?_)
           refine OW.cons (OP.noU rfl rfl rfl ?_)
           refine OW.cons (OP.noU rfl rfl rfl ?_)
           refine OW.cons (OP.noU rfl rfl rfl ?_)
           refine OW.cons (OP.noU rfl rfl rfl ?_)
           refine OW.cons (OP.no' rfl rfl rfl rfl ?_)
           refine OV (.bool true) rfl (x_pickT' rfl rfl rfl) ?_
           refine OW.nil ?_
           exact ⟨true, hm, ⟨f3490, f3491, f3492, f3493, f3494, rfl, hL⟩⟩
         refine OW.cons (OP.yes' rfl rfl hb5224 (OP.val (v := (.int .i64 s_l1.2)) rfl (x_mv f3494) ?_))
         refine OW.cons (OP.yes' rfl rfl hb5224 (OP.val (v := (.int .i64 (andI .i64 s_l1.2 1))) rfl (x_and rfl rfl) ?_))
         refine OW.cons (OP.yes' rfl rfl hb5224 (OP.val (v := (.bool ((andI .i64 s_l1.2 1) == 0))) rfl (x_eql rfl rfl) ?_))
         refine OV (.bool ((andI .i64 s_l1.2 1) == 0)) rfl (x_pickF' rfl hb5224 rfl) ?_
         refine OV (.bool ((andI .i64 s_l1.2 1) == 0)) rfl (x_move) ?_
         refine ifB_elim hm (fun hb5225 hm => ?_) (fun hb5225 hm => ?_)
         · refine OW.cons (OP.no' rfl rfl hb5225 rfl ?_)
           refine OW.cons (OP.no' rfl rfl hb5225 rfl ?_)
           refine OW.cons (OP.no' rfl rfl hb5225 rfl ?_)
           refine OW.cons (OP.noU rfl rfl rfl ?_)
           refine OW.cons (OP.noU rfl rfl rfl ?_)
           refine OW.cons (OP.noU rfl rfl rfl ?_)
           refine OW.cons (OP.noU rfl rfl rfl ?_)
           refine OW.cons (OP.no' rfl rfl hb5225 rfl ?_)
           refine OV (.bool true) rfl (x_pickT' rfl hb5225 rfl) ?_
           refine OW.nil ?_
           exact ⟨true, hm, ⟨f3490, f3491, f3492, f3493, f3494, rfl, hL⟩⟩
         refine OW.cons (OP.yes' rfl rfl hb5225 (OP.val (v := v3474) rfl (x_mv f3492) ?_))
         refine OW.cons (OP.yes' rfl rfl hb5225 (OP.val (v := (.bool (!(s_l1.1.isEmpty)))) rfl (x_neqN U34 rfl rfl (hL.rdO 0 rfl) hn3495) ?_))
         refine OW.cons (OP.yes' rfl rfl hb5225 (OP.val (v := (.bool (!(s_l1.1.isEmpty)))) rfl (x_move) ?_))
         refine ifB_elim hm (fun hb5226 hm => ?_) (fun hb5226 hm => ?_)
         · refine OW.cons (OP.yes' rfl rfl hb5226 (OP.val (v := (.int .i64 x4802)) rfl (x_move) ?_))
           refine OW.cons (OP.yes' rfl rfl hb5226 (OP.val (v := v3474) rfl (x_mv f3492) ?_))
           refine OW.cons (OP.yes' rfl rfl hb5226 (OP.val (v := (.int .i64 (s_l1.1.length : Int))) rfl (x_lenR U34 rfl (hL.rdO 0 rfl)) ?_))
           refine OW.cons (OP.yes' rfl rfl hb5226 (OP.val (v := (.bool (decide ((s_l1.1.length : Int) ≤ x4802)))) rfl (x_geq rfl rfl) ?_))
           refine OW.cons (OP.yes' rfl rfl hb5225 (OP.val (v := (.bool (decide ((s_l1.1.length : Int) ≤ x4802)))) rfl (x_pickT' rfl hb5226 rfl) ?_))
           refine OV (.bool (decide ((s_l1.1.length : Int) ≤ x4802))) rfl (x_pickF' rfl hb5225 rfl) ?_
           refine OW.nil ?_
           exact ⟨decide ((s_l1.1.length : Int) ≤ x4802), hm, ⟨f3490, f3491, f3492, f3493, f3494, rfl, hL⟩⟩
         refine OW.cons (OP.no' rfl rfl hb5226 rfl ?_)
         refine OW.cons (OP.no' rfl rfl hb5226 rfl ?_)
         refine OW.cons (OP.no' rfl rfl hb5226 rfl ?_)
         refine OW.cons (OP.no' rfl rfl hb5226 rfl ?_)
         refine OW.cons (OP.yes' rfl rfl hb5225 (OP.val (v := (.bool false)) rfl (x_pickF' rfl hb5226 rfl) ?_))
         refine OV (.bool false) rfl (x_pickF' rfl hb5225 rfl) ?_
         refine OW.nil ?_
         exact ⟨false, hm, ⟨f3490, f3491, f3492, f3493, f3494, rfl, hL⟩⟩
       intro s_j3 F4811 wd4812 hJ hm
       unfold M.impl_SimplifyCurve_j3 at hm
       obtain ⟨f4813, f4814, f4815, f4816, f4817, f4818, hL⟩ := hJ
       refine CW.condM (t := s_j3) f4818 hm (fun hb4819 hm => ?_) (fun hb4819 hm => ?_)
       · refine CW.exit ?_
         refine XJ.hit ?_
         exact ⟨s_l1.1, hm, ⟨v3474, S3475, f4813, f4814, f4815, f4816, f4817, hn3495, hL⟩⟩
       refine CW.skip ?_
       refine CSR ?_
       refine OW.cons (S_lit ([] : List CurvePoint) hL U34 Try_T62 rfl (by decide) (by first | (simp [Instr.fill, madeCells, Value.cells, ev, upd, Flat.enc, Flat.sz]; done) | rfl | kernel_rfl) rfl rfl ?_)
       intro wd4820 v4821 S4822 hL
       refine OW.cons (S_alloc (cs := #[(.slice none 0 0)]) hL Try_T34 rfl rfl ?_)
       intro wd4823 b4824 hL
       refine OW.cons (S_store (cs' := #[v4821]) hL 0 rfl Try_T34 rfl (rdL_one (hL.rdO 1 rfl)) rfl rfl rfl ?_)
       intro wd4825 hL
       refine ONS ?_
       refine CSR ?_
       refine OV v1 rfl (x_mv f4813) ?_
       refine OV (.int .i64 (a0.length : Int)) rfl (x_lenR U34 rfl (hL.rdS 4 rfl h2)) ?_
       refine OV (.int .i64 0) rfl (x_move) ?_
       refine OW.nil ?_
       obtain ⟨o5072, ho5073, hm⟩ := bndE hm
       have hL := hL.sel [1, 0, 2, 3, 4] (by decide) rfl
       refine CW.loopB (fun (s_l2 : (List CurvePoint) × Int) (F : Fr) (w : World) => ∃ (v5068 : Value) (S5069 : Nat → Prop), F 0 = v1 ∧ F 3 = (.pointer (some ⟨b4, 0, none⟩)) ∧ F 6 = v3474 ∧ F 7 = (.int .i64 (w64 ((a0.length : Int) - 1))) ∧ F 8 = (.int .i64 s_l1.2) ∧ F 10 = (.pointer (some ⟨b4824, 0, none⟩)) ∧ F 55 = v1 ∧ F 56 = (.int .i64 (a0.length : Int)) ∧ F 57 = (.int .i64 s_l2.2) ∧ Hp w0 [Ent.own 62 S5069 v5068 s_l2.1, Ent.blk b4824 34 #[v5068], Ent.own 62 S3475 v3474 s_l1.1, Ent.blk b4 2 #[(.int .i64 a1)], Ent.snap w0 w0.heap.size] w) (fun o => outc o (fun x => some (.ret x)) (fun s => M.impl_SimplifyCurve_a2 a0 a1 s_l1 s) = some t3476) ho5073 hm ⟨v4821, S4822, f4813, f4814, f4815, f4816, f4817, rfl, rfl, rfl, rfl, hL⟩ ?_ ?_
       · intro s_l2 F5074 wd5075 hJ hm
         have hm := outcE hm
         have hm : M.impl_SimplifyCurve_a2 a0 a1 s_l1 s_l2 = some t3476 := hm
         unfold M.impl_SimplifyCurve_a2 at hm
         obtain ⟨v5068, S5069, f5076, f5077, f5078, f5079, f5080, f5081, f5082, f5083, f5084, hL⟩ := hJ
         refine CSR ?_
         refine OV (.func (.func 50) #[] #[(.pointer (some ⟨b4824, 0, none⟩)), (.pointer (some ⟨b4, 0, none⟩))]) rfl (x_makeFunc (vs := [(.pointer (some ⟨b4824, 0, none⟩)), (.pointer (some ⟨b4, 0, none⟩))]) ⟨f5081, f5077, trivial⟩) ?_
         refine OV (.func (.func 50) #[] #[(.pointer (some ⟨b4824, 0, none⟩)), (.pointer (some ⟨b4, 0, none⟩))]) rfl (x_assign) ?_
         refine ONR ?_
         refine OV v1 rfl (x_mv f5076) ?_
         refine OV (.func (.func 50) #[] #[(.pointer (some ⟨b4824, 0, none⟩)), (.pointer (some ⟨b4, 0, none⟩))]) rfl (x_move) ?_
         obtain ⟨x5085, hx5086, hm⟩ := bndE hm
         refine OW.cons (OP.call rfl (x_call (vs := [v1, (.func (.func 50) #[] #[(.pointer (some ⟨b4824, 0, none⟩)), (.pointer (some ⟨b4, 0, none⟩))])]) Try_C52 ⟨rfl, rfl, trivial⟩) (M.slices_ContainsFunc___impl_CurvePoint_impl_CurvePoint__ok _ a0 (hL.rdS 4 rfl h2) (fun y0 => M.impl_SimplifyCurve_1 y0 s_l2.1 a1) ⟨Try_C50, fun yw hag yvs yv hR => by obtain ⟨y0, yr, rfl, hyf, rfl⟩ := hR; exact M.impl_SimplifyCurve_1_ok yw y0 s_l2.1 (hag.rdL (hL.rdO 0 rfl)) (hag.bx (hL.bxB 1 rfl)) a1 (hag.bx (hL.bxB 3 rfl)) hyf⟩ hx5086) ?_)
         rintro e5087 wd5088 ⟨rfl, hF5089⟩
         refine ⟨_, rfl, ?_⟩
         have hL := hL.pushAll hF5089
         simp only [lA, lB, lC, lD] at hL
         refine OV (.bool (!x5085)) rfl (x_not rfl) ?_
         refine OW.nil ?_
         refine CW.condM (t := !x5085) rfl hm (fun hb5090 hm => ?_) (fun hb5090 hm => ?_)
         · refine CW.regionL ?_
           refine OV v5068 rfl (x_load1 U34 rfl f5081 (hL.cellB 1 rfl rfl)) ?_
           obtain ⟨hc5091, hm⟩ := chkE hm
           refine OV v5068 rfl (x_assign) ?_
           refine OW.nil ?_
           have hL := hL.sel [0, 3, 4] (by decide) rfl
           exact ⟨s_l2.1, hm, ⟨v5068, S5069, f5076, f5077, rfl, f5079, f5080, (nnOf hc5091), hL⟩⟩
         refine CW.skip ?_
         have hL := hL.sel [2, 3, 4] (by decide) rfl
         exact ⟨s_l1.1, hm, ⟨v3474, S3475, f5076, f5077, f5078, f5079, f5080, hn3495, hL⟩⟩
       intro s_l2 F5092 wd5093 t5070 hJ hm hr5071
       unfold M.impl_SimplifyCurve_l2 at hm
       obtain ⟨v5068, S5069, f5094, f5095, f5096, f5097, f5098, f5099, f5100, f5101, f5102, hL⟩ := hJ
       refine CSR ?_
       refine OV (.bool (decide (s_l2.2 < (a0.length : Int)))) rfl (x_lss f5102 f5101) ?_
       refine ONS ?_
       refine CW.condM (t := decide (s_l2.2 < (a0.length : Int))) rfl hm (fun hb5103 hm => ?_) (fun hb5103 hm => ?_)
       · refine CW.skip ?_
         refine CW.seqJ (fun (s_j4 : (List CurvePoint)) (F : Fr) (w : World) => ∃ (v5157 : Value) (S5158 : Nat → Prop), F 0 = v1 ∧ F 3 = (.pointer (some ⟨b4, 0, none⟩)) ∧ F 6 = v3474 ∧ F 7 = (.int .i64 (w64 ((a0.length : Int) - 1))) ∧ F 8 = (.int .i64 s_l1.2) ∧ F 10 = (.pointer (some ⟨b4824, 0, none⟩)) ∧ F 55 = v1 ∧ F 56 = (.int .i64 (a0.length : Int)) ∧ F 57 = (.int .i64 s_l2.2) ∧ Hp w0 [Ent.own 62 S5158 v5157 s_j4, Ent.blk b4824 34 #[v5157], Ent.own 62 S3475 v3474 s_l1.1, Ent.blk b4 2 #[(.int .i64 a1)], Ent.snap w0 w0.heap.size] w) (fun s_j4 => M.impl_SimplifyCurve_j4 s_l2 s_j4 = some t5070) ?_ ?_
         · refine CW.blockJ (fun (s_j5 : (List CurvePoint)) (F : Fr) (w : World) => ∃ (v5190 : Value) (S5191 : Nat → Prop), F 0 = v1 ∧ F 3 = (.pointer (some ⟨b4, 0, none⟩)) ∧ F 6 = v3474 ∧ F 7 = (.int .i64 (w64 ((a0.length : Int) - 1))) ∧ F 8 = (.int .i64 s_l1.2) ∧ F 10 = (.pointer (some ⟨b4824, 0, none⟩)) ∧ F 55 = v1 ∧ F 56 = (.int .i64 (a0.length : Int)) ∧ F 57 = (.int .i64 s_l2.2) ∧ Hp w0 [Ent.own 62 S5191 v5190 s_j5, Ent.blk b4824 34 #[v5190], Ent.own 62 S3475 v3474 s_l1.1, Ent.blk b4 2 #[(.int .i64 a1)], Ent.snap w0 w0.heap.size] w) (fun s_j5 => M.impl_SimplifyCurve_j5 s_l2 s_j5 = some t5070) ?_ ?_
           · refine CSR ?_
             refine OV (.int .i64 s_l2.2) rfl (x_mv f5102) ?_
             obtain ⟨x5203, ha5204, hm⟩ := bndE hm
             obtain ⟨hz5205, ha5209⟩ := idxE ha5204
             obtain ⟨b5206, q5207, hix5208⟩ := rdL_ix (hL.rdS 4 rfl h2) hz5205 ha5209
             refine OV (.pointer (some ⟨b5206, q5207, none⟩)) rfl (x_ix U34 Try_T62 f5100 f5102 hix5208) ?_
             refine OV (.agg #[(.int .i64 x5203.Wind), (.int .i64 x5203.Pace)]) rfl (x_loadN (cs := [(.int .i64 x5203.Wind), (.int .i64 x5203.Pace)]) U62 Try_T62 rfl rfl (rdF_cells (hL.rdS 4 rfl h2) hix5208 ha5209)) ?_
             refine OW.cons (S_alloc (cs := #[(.int .i64 0), (.int .i64 0)]) hL Try_T62 rfl rfl ?_)
             intro wd5210 b5211 hL
             refine OV (.int .i64 s_l2.2) rfl (x_assign) ?_
             refine OW.cons (S_storeN (l := [(.int .i64 x5203.Wind), (.int .i64 x5203.Pace)]) (cs' := #[(.int .i64 x5203.Wind), (.int .i64 x5203.Pace)]) hL 0 rfl Try_T62 rfl rfl (List.forall_mem_cons.2 ⟨rfl, (List.forall_mem_cons.2 ⟨rfl, (fun _ h => by cases h)⟩)⟩) rfl (Nat.le_of_ble_eq_true rfl) rfl ?_)
             intro wd5212 hL
             refine ONR ?_
             refine OV (.int .i64 s_l1.2) rfl (x_mv f5098) ?_
             refine OV (.int .i64 (w64 ((a0.length : Int) - 1))) rfl (x_mv f5097) ?_
             refine OV (.int .i64 s_l2.2) rfl (x_move) ?_
             refine OV (.int .i64 (w64 ((w64 ((a0.length : Int) - 1)) - s_l2.2))) rfl (x_sub rfl rfl) ?_
             obtain ⟨hc5213, hm⟩ := chkE hm
             refine OV (.int .i64 (shrI .i64 s_l1.2 (w64 ((w64 ((a0.length : Int) - 1)) - s_l2.2)))) rfl (x_shr rfl rfl hc5213) ?_
             refine OV (.int .i64 (andI .i64 (shrI .i64 s_l1.2 (w64 ((w64 ((a0.length : Int) - 1)) - s_l2.2))) 1)) rfl (x_and rfl rfl) ?_
             refine OV (.bool ((andI .i64 (shrI .i64 s_l1.2 (w64 ((w64 ((a0.length : Int) - 1)) - s_l2.2))) 1) == 1)) rfl (x_eql rfl rfl) ?_
             refine OW.nil ?_
             refine CW.condM (t := (andI .i64 (shrI .i64 s_l1.2 (w64 ((w64 ((a0.length : Int) - 1)) - s_l2.2))) 1) == 1) rfl hm (fun hb5214 hm => ?_) (fun hb5214 hm => ?_)
             · refine CW.regionL ?_
               refine OV v5068 rfl (x_load1 U34 rfl f5099 (hL.cellB 2 rfl rfl)) ?_
               refine OV (.agg #[(.int .i64 x5203.Wind), (.int .i64 x5203.Pace)]) rfl (x_loadN (cs := [(.int .i64 x5203.Wind), (.int .i64 x5203.Pace)]) U62 Try_T62 rfl rfl (hL.cellsB 0 rfl (o := 0) (l := [(.int .i64 x5203.Wind), (.int .i64 x5203.Pace)]) (by intro j u hj; exact (by simpa using hj)))) ?_
               refine OW.cons (S_lit ([x5203] : List CurvePoint) hL U34 Try_T62 rfl (by decide) (by first | (simp [Instr.fill, madeCells, Value.cells, ev, upd, Flat.enc, Flat.sz]; done) | rfl | kernel_rfl) rfl rfl ?_)
               intro wd5215 v5216 S5217 hL
               obtain ⟨hc5221, hm⟩ := chkE hm
               refine OW.cons (S_append (ys := ([x5203] : List CurvePoint)) hL 2 rfl U34 Try_T62 rfl rfl rfl (hL.rdO 0 rfl) hc5221 (by decide) rfl ?_)
               intro wd5218 v5219 S5220 hL
               refine OW.cons (S_store (cs' := #[v5219]) hL 3 rfl Try_T34 f5099 (rdL_one (hL.rdO 2 rfl)) rfl rfl rfl ?_)
               intro wd5222 hL
               refine OW.nil ?_
               have hL := hL.sel [2, 3, 4, 5, 6] (by decide) rfl
               exact ⟨s_l2.1 ++ ([x5203] : List CurvePoint), hm, ⟨v5219, S5220, f5094, f5095, f5096, f5097, f5098, f5099, f5100, f5101, f5102, hL⟩⟩
             refine CW.skip ?_
             have hL := hL.sel [1, 2, 3, 4, 5] (by decide) rfl
             exact ⟨s_l2.1, hm, ⟨v5068, S5069, f5094, f5095, f5096, f5097, f5098, f5099, f5100, f5101, f5102, hL⟩⟩
           intro s_j5 F5192 wd5193 hJ hm
           unfold M.impl_SimplifyCurve_j5 at hm
           obtain ⟨v5190, S5191, f5194, f5195, f5196, f5197, f5198, f5199, f5200, f5201, f5202, hL⟩ := hJ
           exact ⟨s_j5, hm, ⟨v5190, S5191, f5194, f5195, f5196, f5197, f5198, f5199, f5200, f5201, f5202, hL⟩⟩
         intro s_j4 F5159 wd5160 hJ hm
         unfold M.impl_SimplifyCurve_j4 at hm
         obtain ⟨v5157, S5158, f5161, f5162, f5163, f5164, f5165, f5166, f5167, f5168, f5169, hL⟩ := hJ
         refine CW.regionL ?_
         refine OV (.int .i64 (w64 (s_l2.2 + 1))) rfl (x_add f5169 rfl) ?_
         refine OV (.int .i64 (w64 (s_l2.2 + 1))) rfl (x_move) ?_
         refine OW.nil ?_
         obtain rfl := Option.some.inj hm
         exact ⟨_, rfl, ⟨v5157, S5158, f5161, f5162, f5163, f5164, f5165, f5166, f5167, f5168, rfl, hL⟩⟩
       refine CW.exit ?_
       refine XJ.hit ?_
       obtain rfl := Option.some.inj hm
       exact ⟨_, rfl, ⟨v5068, S5069, f5094, f5095, f5096, f5097, f5098, f5099, f5100, f5101, f5102, hL⟩⟩
     intro s_j2 F4794 wd4795 hJ hm
     unfold M.impl_SimplifyCurve_j2 at hm
     obtain ⟨v4792, S4793, f4796, f4797, f4798, f4799, f4800, hn4801, hL⟩ := hJ
     exact ⟨s_j2, hm, ⟨v4792, S4793, f4796, f4797, f4798, f4799, f4800, hn4801, hL⟩⟩
   intro s_j1 F4359 wd4360 hJ hm
   unfold M.impl_SimplifyCurve_j1 at hm
   obtain ⟨v4357, S4358, f4361, f4362, f4363, f4364, f4365, hn4366, hL⟩ := hJ
   refine CW.regionL ?_
   refine OV (.int .i64 s_l1.2) rfl (x_mv f4365) ?_
   refine OV (.int .i64 (w64 (s_l1.2 - 1))) rfl (x_sub rfl rfl) ?_
   refine OV (.int .i64 (w64 (s_l1.2 - 1))) rfl (x_assign) ?_
   refine OW.nil ?_
   obtain rfl := Option.some.inj hm
   exact ⟨_, rfl, ⟨v4357, S4358, f4361, f4362, f4363, f4364, rfl, hn4366, hL⟩⟩
 refine CW.exit ?_
 refine XJ.hit ?_
 obtain rfl := Option.some.inj hm
 exact ⟨_, rfl, ⟨v3474, S3475, f3490, f3491, f3492, f3493, f3494, hn3495, hL⟩⟩

theorem M.laws_heldCurvePointS_ok (w0 : World) (a0 : List CurvePoint) {v1 : Value} (h2 : rdL (· < w0.heap.size) w0 v1 a0) (a1 : Int) {r : Int} (hm : M.laws_heldCurvePointS a0 a1 = some r) :
    Calls Try.prog 26 #[v1, (.int .i64 a1)] w0 fun e w' => e = .returned (.int .i64 r) ∧ Fresh w0 w' [] := by
 unfold M.laws_heldCurvePointS at hm
 refine calls_CW (args := [v1, (.int .i64 a1)]) Try.func26 rfl rfl rfl ?_
 have hL := Hp.start w0
 refine CSR ?_
 refine OV (.int .i64 0) rfl (x_assign) ?_
 refine ONS ?_
 refine CSR ?_
 refine OV (.int .i64 0) rfl (x_assign) ?_
 refine OW.nil ?_
 obtain ⟨o39, ho40, hm⟩ := bndE hm
 refine CW.loopB (fun (s_l1 : Int × Int) (F : Fr) (w : World) => F 0 = v1 ∧ F 1 = (.int .i64 s_l1.1) ∧ F 5 = (.int .i64 s_l1.2) ∧ Hp w0 [Ent.snap w0 w0.heap.size] w) (fun o => outc o (fun x => some x) (fun s => M.laws_heldCurvePointS_a1 s) = some r) ho40 hm ⟨rfl, rfl, rfl, hL⟩ ?_ ?_
 · intro s_l1 F41 wd42 hJ hm
   have hm := outcE hm
   have hm : M.laws_heldCurvePointS_a1 s_l1 = some r := hm
   unfold M.laws_heldCurvePointS_a1 at hm
   obtain ⟨f43, f44, f45, hL⟩ := hJ
   refine CSR ?_
   refine OV (.int .i64 s_l1.1) rfl (x_mv f44) ?_
   refine OV (.int .i64 s_l1.1) rfl (x_assign) ?_
   refine OW.nil ?_
   refine CW.ret ?_
   obtain rfl := Option.some.inj hm
   exact RR1 rfl rfl ⟨rfl, hL.fresh 0 rfl [] (by decide) (by decide) rfl⟩
 intro s_l1 F46 wd47 t37 hJ hm hr38
 unfold M.laws_heldCurvePointS_l1 at hm
 obtain ⟨f48, f49, f50, hL⟩ := hJ
 refine CW.seq ?_
 refine CSR ?_
 refine OV (.int .i64 s_l1.2) rfl (x_mv f50) ?_
 refine OV v1 rfl (x_mv f48) ?_
 refine OV (.int .i64 (a0.length : Int)) rfl (x_lenR U34 rfl (hL.rdS 0 rfl h2)) ?_
 refine OV (.bool (decide (s_l1.2 < (a0.length : Int)))) rfl (x_lss rfl rfl) ?_
 refine OW.nil ?_
 refine CW.condM (t := decide (s_l1.2 < (a0.length : Int))) rfl hm (fun hb51 hm => ?_) (fun hb51 hm => ?_)
 · refine CW.skip ?_
   refine CW.seq ?_
   refine CW.block ?_
   refine CW.seq ?_
   refine CSR ?_
   refine OV v1 rfl (x_mv f48) ?_
   refine OV (.int .i64 s_l1.2) rfl (x_mv f50) ?_
   obtain ⟨x52, ha53, hm⟩ := bndE hm
   obtain ⟨hz54, ha58⟩ := idxE ha53
   obtain ⟨b55, q56, hix57⟩ := rdL_ix (hL.rdS 0 rfl h2) hz54 ha58
   refine OV (.pointer (some ⟨b55, q56, none⟩)) rfl (x_ix U34 Try_T62 rfl rfl hix57) ?_
   refine OV (.pointer (some ⟨b55, q56, none⟩)) rfl (x_fieldAddr (fsz := 1) q56 0 q56 U62 rfl Try_T2 rfl rfl rfl) ?_
   refine OV (.int .i64 x52.Wind) rfl (x_load1 U2 rfl rfl (rdF_cells (hL.rdS 0 rfl h2) hix57 ha58 0 _ rfl)) ?_
   refine OV (.int .i64 s_l1.1) rfl (x_mv f49) ?_
   refine OV (.bool (x52.Wind != s_l1.1)) rfl (x_neq rfl rfl) ?_
   refine OW.nil ?_
   refine CW.condM (t := x52.Wind != s_l1.1) rfl hm (fun hb59 hm => ?_) (fun hb59 hm => ?_)
   · refine CSR ?_
     refine OV (.int .i64 (-1)) rfl (x_assign) ?_
     refine OW.nil ?_
     refine CW.ret ?_
     obtain rfl := Option.some.inj hm
     have hm := hr38 _ rfl
     obtain rfl := Option.some.inj hm
     exact RR1 rfl rfl ⟨rfl, hL.fresh 0 rfl [] (by decide) (by decide) rfl⟩
   refine CW.skip ?_
   refine CSR ?_
   refine OV (.int .i64 s_l1.1) rfl (x_mv f49) ?_
   refine OV (.int .i64 (w64 (s_l1.1 + 1))) rfl (x_add rfl rfl) ?_
   refine OV (.int .i64 (w64 (s_l1.1 + 1))) rfl (x_assign) ?_
   refine ONS ?_
   refine CSR ?_
   refine OV v1 rfl (x_mv f48) ?_
   refine OV (.int .i64 s_l1.2) rfl (x_mv f50) ?_
   obtain ⟨x60, ha61, hm⟩ := bndE hm
   obtain ⟨hz62, ha66⟩ := idxE ha61
   obtain ⟨b63, q64, hix65⟩ := rdL_ix (hL.rdS 0 rfl h2) hz62 ha66
   refine OV (.pointer (some ⟨b63, q64, none⟩)) rfl (x_ix U34 Try_T62 rfl rfl hix65) ?_
   refine OV (.pointer (some ⟨b63, q64 + 1, none⟩)) rfl (x_fieldAddr (fsz := 1) q64 1 (q64 + 1) U62 rfl Try_T2 rfl rfl rfl) ?_
   refine OV (.int .i64 x60.Pace) rfl (x_load1 U2 rfl rfl (rdF_cells (hL.rdS 0 rfl h2) hix65 ha66 1 _ rfl)) ?_
   refine OV (.int .i64 (w64 (s_l1.1 + 1))) rfl (x_move) ?_
   refine OV (.bool (x60.Pace != (w64 (s_l1.1 + 1)))) rfl (x_neq rfl rfl) ?_
   refine OW.nil ?_
   refine CW.condM (t := x60.Pace != (w64 (s_l1.1 + 1))) rfl hm (fun hb67 hm => ?_) (fun hb67 hm => ?_)
   · refine CSR ?_
     refine OV (.int .i64 (-1)) rfl (x_assign) ?_
     refine OW.nil ?_
     refine CW.ret ?_
     obtain rfl := Option.some.inj hm
     have hm := hr38 _ rfl
     obtain rfl := Option.some.inj hm
     exact RR1 rfl rfl ⟨rfl, hL.fresh 0 rfl [] (by decide) (by decide) rfl⟩
   refine CW.skip ?_
   refine CW.regionL ?_
   refine OV (.int .i64 (w64 (s_l1.1 + 1))) rfl (x_move) ?_
   refine OV (.int .i64 (w64 ((w64 (s_l1.1 + 1)) + 1))) rfl (x_add rfl rfl) ?_
   refine OV (.int .i64 (w64 ((w64 (s_l1.1 + 1)) + 1))) rfl (x_assign) ?_
   refine OW.nil ?_
   refine CW.regionL ?_
   refine OV (.int .i64 s_l1.2) rfl (x_mv f50) ?_
   refine OV (.int .i64 (w64 (s_l1.2 + 1))) rfl (x_add rfl rfl) ?_
   refine OV (.int .i64 (w64 (s_l1.2 + 1))) rfl (x_assign) ?_
   refine OW.nil ?_
   obtain rfl := Option.some.inj hm
   exact ⟨_, rfl, ⟨f48, rfl, rfl, hL⟩⟩
 refine CW.exit ?_
 refine XJ.hit ?_
 obtain rfl := Option.some.inj hm
 exact ⟨_, rfl, ⟨f48, f49, f50, hL⟩⟩

end Go.Proofs.Ytpnehnkhhibliaa
