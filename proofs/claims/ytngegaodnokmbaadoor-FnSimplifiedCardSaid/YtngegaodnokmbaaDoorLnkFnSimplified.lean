/- Links: each Go function returns what its model computes and leaves what was there. Printed by my generator. -/
import Derived.Test.YtngegaodnokmbaaDoorLnkFnSimplifiedA
namespace Go.Proofs.YtngegaodnokmbaaDoor
set_option maxRecDepth 10000
open Go Go.RowKit Go.ChangeShapes Go.WideShapes
set_option linter.unusedVariables false
set_option linter.unusedSimpArgs false

theorem M.spec_SimplifyCurve_ok (w0 : World) (a0 : List CurvePoint) {v1 : Value} (h2 : rdL (· < w0.heap.size) w0 v1 a0) (a1 : Int) {r : (List CurvePoint) × Int} (hm : M.spec_SimplifyCurve a0 a1 = some r) :
    Calls Tryd.prog 7 #[v1, (.int .i64 a1)] w0 fun e w' => ∃ (rv0 : Value) (rS0 : Nat → Prop), e = .returned (.tuple #[rv0, (.int .i64 r.2)]) ∧ Fresh w0 w' [Ent.own 32 rS0 rv0 r.1] := by
 unfold M.spec_SimplifyCurve at hm
 refine calls_CW (args := [v1, (.int .i64 a1)]) Tryd.func7 rfl rfl rfl ?_
 have hL := Hp.start w0
 refine CSR ?_
 refine OV (.slice none 0 0) rfl (x_assign) ?_
 refine OV (.int .i64 0) rfl (x_assign) ?_
 refine ONS ?_
 refine CSR ?_
 refine OV v1 rfl (x_move) ?_
 obtain ⟨x3, hx4, hm⟩ := bndE hm
 refine OW.cons (OP.call rfl (x_call (vs := [v1]) Tryd_C21 ⟨rfl, trivial⟩) (M.spec_IsCurve_ok _ a0 (hL.rdS 0 rfl h2) hx4) ?_)
 rintro e5 wd6 ⟨rfl, hF7⟩
 refine ⟨_, rfl, ?_⟩
 have hL := hL.pushAll hF7
 simp only [lA, lB, lC, lD] at hL
 refine OV (.bool (!x3)) rfl (x_not rfl) ?_
 refine OW.nil ?_
 refine CW.condM (t := !x3) rfl hm (fun hb8 hm => ?_) (fun hb8 hm => ?_)
 · refine CSR ?_
   refine OV (.slice none 0 0) rfl (x_assign) ?_
   refine OV (.int .i64 1) rfl (x_assign) ?_
   refine OW.nil ?_
   refine CW.ret ?_
   have hL := hL.pushNil CurvePoint 32
   obtain rfl := Option.some.inj hm
   exact RR2 rfl rfl rfl ⟨(.slice none 0 0), None_, rfl, hL.fresh 1 rfl [0] (by decide) (by decide) rfl⟩
 refine CW.skip ?_
 refine CW.seq ?_
 refine CSR ?_
 refine OV (.int .i64 a1) rfl (x_move) ?_
 obtain ⟨x9, hx10, hm⟩ := bndE hm
 refine OW.cons (OP.call rfl (x_call (vs := [(.int .i64 a1), (.int .i64 0), (.int .i64 1000000)]) Tryd_C22 ⟨rfl, rfl, rfl, trivial⟩) (M.spec_l01In_ok _ a1 0 1000000 hx10) ?_)
 rintro e11 wd12 ⟨rfl, hF13⟩
 refine ⟨_, rfl, ?_⟩
 have hL := hL.pushAll hF13
 simp only [lA, lB, lC, lD] at hL
 refine OV (.bool (!x9)) rfl (x_not rfl) ?_
 refine OW.nil ?_
 refine CW.condM (t := !x9) rfl hm (fun hb14 hm => ?_) (fun hb14 hm => ?_)
 · refine CSR ?_
   refine OV (.slice none 0 0) rfl (x_assign) ?_
   refine OV (.int .i64 2) rfl (x_assign) ?_
   refine OW.nil ?_
   refine CW.ret ?_
   have hL := hL.pushNil CurvePoint 32
   obtain rfl := Option.some.inj hm
   exact RR2 rfl rfl rfl ⟨(.slice none 0 0), None_, rfl, hL.fresh 1 rfl [0] (by decide) (by decide) rfl⟩
 refine CW.skip ?_
 refine CSR ?_
 refine OV v1 rfl (x_move) ?_
 refine OV (.int .i64 (a0.length : Int)) rfl (x_lenR U24 rfl (hL.rdS 0 rfl h2)) ?_
 refine OV (.int .i64 (w64 ((a0.length : Int) - 1))) rfl (x_sub rfl rfl) ?_
 refine OV (.int .i64 (w64 ((a0.length : Int) - 1))) rfl (x_assign) ?_
 refine ONR ?_
 refine OV v1 rfl (x_move) ?_
 refine OV (.int .i64 (a0.length : Int)) rfl (x_lenR U24 rfl (hL.rdS 0 rfl h2)) ?_
 obtain ⟨hc18, hm⟩ := chkE hm
 refine OW.cons (S_make (α := Int) 0 hL U47 Tryd_T3 rfl rfl rfl hc18 (by decide) rfl ?_)
 intro wd15 v16 S17 hL
 refine OV v16 rfl (x_assign) ?_
 refine ONR ?_
 refine OV v1 rfl (x_move) ?_
 refine OV (.int .i64 (a0.length : Int)) rfl (x_lenR U24 rfl (hL.rdS 1 rfl h2)) ?_
 obtain ⟨hc22, hm⟩ := chkE hm
 refine OW.cons (S_make (α := Int) 0 hL U47 Tryd_T3 rfl rfl rfl hc22 (by decide) rfl ?_)
 intro wd19 v20 S21 hL
 refine OV v20 rfl (x_assign) ?_
 refine ONS ?_
 refine CSR ?_
 refine OV (.int .i64 (w64 ((a0.length : Int) - 1))) rfl (x_move) ?_
 refine OV (.int .i64 (w64 ((w64 ((a0.length : Int) - 1)) - 1))) rfl (x_sub rfl rfl) ?_
 refine OV (.int .i64 (w64 ((w64 ((a0.length : Int) - 1)) - 1))) rfl (x_assign) ?_
 refine OW.nil ?_
 obtain ⟨o2447, ho2448, hm⟩ := bndE hm
 refine CW.loopB (fun (s_l1 : (List Int) × (List Int) × Int) (F : Fr) (w : World) => ∃ (S2443 : Nat → Prop) (S2444 : Nat → Prop), F 0 = v1 ∧ F 1 = (.int .i64 a1) ∧ F 6 = (.int .i64 (w64 ((a0.length : Int) - 1))) ∧ F 7 = v16 ∧ F 8 = v20 ∧ F 9 = (.int .i64 s_l1.2.2) ∧ Hp w0 [Ent.own 3 S2444 v20 s_l1.2.1, Ent.own 3 S2443 v16 s_l1.1, Ent.snap w0 w0.heap.size] w) (fun o => outc o (fun x => some x) (fun s => M.spec_SimplifyCurve_a1 a0 s) = some r) ho2448 hm ⟨S17, S21, rfl, rfl, rfl, rfl, rfl, rfl, hL⟩ ?_ ?_
 · intro s_l1 F2449 wd2450 hJ hm
   have hm := outcE hm
   have hm : M.spec_SimplifyCurve_a1 a0 s_l1 = some r := hm
   unfold M.spec_SimplifyCurve_a1 at hm
   obtain ⟨S2443, S2444, f2451, f2452, f2453, f2454, f2455, f2456, hL⟩ := hJ
   refine CSR ?_
   refine OV v1 rfl (x_mv f2451) ?_
   obtain ⟨x2457, ha2458, hm⟩ := bndE hm
   obtain ⟨hz2459, ha2463⟩ := idxE ha2458
   obtain ⟨b2460, q2461, hix2462⟩ := rdL_ix (hL.rdS 2 rfl h2) hz2459 ha2463
   refine OV (.pointer (some ⟨b2460, q2461, none⟩)) rfl (x_ix U24 Tryd_T32 rfl rfl hix2462) ?_
   refine OV (.agg #[(.int .i64 x2457.Wind), (.int .i64 x2457.Pace)]) rfl (x_loadN (cs := [(.int .i64 x2457.Wind), (.int .i64 x2457.Pace)]) U32 Tryd_T32 rfl rfl (rdF_cells (hL.rdS 2 rfl h2) hix2462 ha2463)) ?_
   refine OW.cons (S_lit ([x2457] : List CurvePoint) hL U24 Tryd_T32 rfl (by decide) (by first | (simp [Instr.fill, madeCells, Value.cells, ev, upd, Flat.enc, Flat.sz]; done) | rfl | kernel_rfl) rfl rfl ?_)
   intro wd2464 v2465 S2466 hL
   refine OV v2465 rfl (x_assign) ?_
   refine ONS ?_
   refine CSR ?_
   refine OV (.int .i64 0) rfl (x_assign) ?_
   refine OW.nil ?_
   obtain ⟨o2517, ho2518, hm⟩ := bndE hm
   have hL := hL.sel [0, 1, 3] (by decide) rfl
   refine CW.loopB (fun (s_l2 : (List CurvePoint) × Int) (F : Fr) (w : World) => ∃ (v2513 : Value) (S2514 : Nat → Prop), F 0 = v1 ∧ F 6 = (.int .i64 (w64 ((a0.length : Int) - 1))) ∧ F 8 = v20 ∧ F 11 = v2513 ∧ F 12 = (.int .i64 s_l2.2) ∧ Hp w0 [Ent.own 32 S2514 v2513 s_l2.1, Ent.own 3 S2444 v20 s_l1.2.1, Ent.snap w0 w0.heap.size] w) (fun o => outc o (fun x => some x) (fun s => M.spec_SimplifyCurve_a2 s) = some r) ho2518 hm ⟨v2465, S2466, f2451, f2453, f2455, rfl, rfl, hL⟩ ?_ ?_
   · intro s_l2 F2519 wd2520 hJ hm
     have hm := outcE hm
     have hm : M.spec_SimplifyCurve_a2 s_l2 = some r := hm
     unfold M.spec_SimplifyCurve_a2 at hm
     obtain ⟨v2513, S2514, f2521, f2522, f2523, f2524, f2525, hL⟩ := hJ
     refine CSR ?_
     refine OV v2513 rfl (x_mv f2524) ?_
     refine OV v2513 rfl (x_assign) ?_
     refine OV (.int .i64 0) rfl (x_assign) ?_
     refine OW.nil ?_
     refine CW.ret ?_
     obtain rfl := Option.some.inj hm
     exact RR2 rfl rfl rfl ⟨v2513, S2514, rfl, hL.fresh 2 rfl [0] (by decide) (by decide) rfl⟩
   intro s_l2 F2526 wd2527 t2515 hJ hm hr2516
   unfold M.spec_SimplifyCurve_l2 at hm
   obtain ⟨v2513, S2514, f2528, f2529, f2530, f2531, f2532, hL⟩ := hJ
   refine CW.seq ?_
   refine CSR ?_
   refine OV (.int .i64 s_l2.2) rfl (x_mv f2532) ?_
   refine OV (.int .i64 (w64 ((a0.length : Int) - 1))) rfl (x_mv f2529) ?_
   refine OV (.bool (decide (s_l2.2 < (w64 ((a0.length : Int) - 1))))) rfl (x_lss rfl rfl) ?_
   refine OW.nil ?_
   refine CW.condM (t := decide (s_l2.2 < (w64 ((a0.length : Int) - 1)))) rfl hm (fun hb2533 hm => ?_) (fun hb2533 hm => ?_)
   · refine CW.skip ?_
     refine CW.block ?_
     refine CSR ?_
     refine OV v20 rfl (x_mv f2530) ?_
     refine OV (.int .i64 s_l2.2) rfl (x_mv f2532) ?_
     obtain ⟨x2534, ha2535, hm⟩ := bndE hm
     obtain ⟨hz2536, ha2540⟩ := idxE ha2535
     obtain ⟨b2537, q2538, hix2539⟩ := rdL_ix (hL.rdO 1 rfl) hz2536 ha2540
     refine OV (.pointer (some ⟨b2537, q2538, none⟩)) rfl (x_ix U47 Tryd_T3 rfl rfl hix2539) ?_
     refine OV (.int .i64 x2534) rfl (x_load1 U3 rfl rfl (rdF_cells (hL.rdO 1 rfl) hix2539 ha2540 0 _ rfl)) ?_
     refine OV (.int .i64 x2534) rfl (x_assign) ?_
     refine OW.nil ?_
     refine CW.regionL ?_
     refine OV v2513 rfl (x_mv f2531) ?_
     refine OV v1 rfl (x_mv f2528) ?_
     refine OV (.int .i64 x2534) rfl (x_move) ?_
     obtain ⟨x2541, ha2542, hm⟩ := bndE hm
     obtain ⟨hz2543, ha2547⟩ := idxE ha2542
     obtain ⟨b2544, q2545, hix2546⟩ := rdL_ix (hL.rdS 2 rfl h2) hz2543 ha2547
     refine OV (.pointer (some ⟨b2544, q2545, none⟩)) rfl (x_ix U24 Tryd_T32 rfl rfl hix2546) ?_
     refine OV (.agg #[(.int .i64 x2541.Wind), (.int .i64 x2541.Pace)]) rfl (x_loadN (cs := [(.int .i64 x2541.Wind), (.int .i64 x2541.Pace)]) U32 Tryd_T32 rfl rfl (rdF_cells (hL.rdS 2 rfl h2) hix2546 ha2547)) ?_
     refine OW.cons (S_lit ([x2541] : List CurvePoint) hL U24 Tryd_T32 rfl (by decide) (by first | (simp [Instr.fill, madeCells, Value.cells, ev, upd, Flat.enc, Flat.sz]; done) | rfl | kernel_rfl) rfl rfl ?_)
     intro wd2548 v2549 S2550 hL
     obtain ⟨hc2554, hm⟩ := chkE hm
     refine OW.cons (S_append (ys := ([x2541] : List CurvePoint)) hL 1 rfl U24 Tryd_T32 rfl rfl rfl (hL.rdO 0 rfl) hc2554 (by decide) rfl ?_)
     intro wd2551 v2552 S2553 hL
     refine OV v2552 rfl (x_assign) ?_
     refine OW.nil ?_
     have hL := hL.sel [1, 2, 3] (by decide) rfl
     obtain rfl := Option.some.inj hm
     exact ⟨_, rfl, ⟨v2552, S2553, f2528, f2529, f2530, rfl, rfl, hL⟩⟩
   refine CW.exit ?_
   refine XJ.hit ?_
   obtain rfl := Option.some.inj hm
   exact ⟨_, rfl, ⟨v2513, S2514, f2528, f2529, f2530, f2531, f2532, hL⟩⟩
 intro s_l1 F2555 wd2556 t2445 hJ hm hr2446
 unfold M.spec_SimplifyCurve_l1 at hm
 obtain ⟨S2443, S2444, f2557, f2558, f2559, f2560, f2561, f2562, hL⟩ := hJ
 refine CW.seq ?_
 refine CSR ?_
 refine OV (.int .i64 s_l1.2.2) rfl (x_mv f2562) ?_
 refine OV (.bool (decide (0 ≤ s_l1.2.2))) rfl (x_geq rfl rfl) ?_
 refine OW.nil ?_
 refine CW.condM (t := decide (0 ≤ s_l1.2.2)) rfl hm (fun hb2563 hm => ?_) (fun hb2563 hm => ?_)
 · refine CW.skip ?_
   refine CW.seq ?_
   refine CW.block ?_
   refine CSR ?_
   refine OV (.int .i64 s_l1.2.2) rfl (x_mv f2562) ?_
   refine OV (.int .i64 (w64 (s_l1.2.2 + 1))) rfl (x_add rfl rfl) ?_
   refine OV (.int .i64 (w64 (s_l1.2.2 + 1))) rfl (x_assign) ?_
   refine OW.nil ?_
   obtain ⟨o3358, ho3359, hm⟩ := bndE hm
   refine CW.loopB (fun (s_l3 : (List Int) × (List Int) × Int) (F : Fr) (w : World) => ∃ (S3354 : Nat → Prop) (S3355 : Nat → Prop), F 0 = v1 ∧ F 1 = (.int .i64 a1) ∧ F 6 = (.int .i64 (w64 ((a0.length : Int) - 1))) ∧ F 7 = v16 ∧ F 8 = v20 ∧ F 9 = (.int .i64 s_l1.2.2) ∧ F 10 = (.int .i64 s_l3.2.2) ∧ Hp w0 [Ent.own 3 S3355 v20 s_l3.2.1, Ent.own 3 S3354 v16 s_l3.1, Ent.snap w0 w0.heap.size] w) (fun o => outc o (fun x => some (.ret x)) (fun s => M.spec_SimplifyCurve_a3 s_l1 s) = some t2445) ho3359 hm ⟨S2443, S2444, f2557, f2558, f2559, f2560, f2561, f2562, rfl, hL⟩ ?_ ?_
   · intro s_l3 F3360 wd3361 hJ hm
     have hm := outcE hm
     have hm : M.spec_SimplifyCurve_a3 s_l1 s_l3 = some t2445 := hm
     unfold M.spec_SimplifyCurve_a3 at hm
     obtain ⟨S3354, S3355, f3362, f3363, f3364, f3365, f3366, f3367, f3368, hL⟩ := hJ
     refine CW.regionL ?_
     refine OV (.int .i64 s_l1.2.2) rfl (x_mv f3367) ?_
     refine OV (.int .i64 (w64 (s_l1.2.2 - 1))) rfl (x_sub rfl rfl) ?_
     refine OV (.int .i64 (w64 (s_l1.2.2 - 1))) rfl (x_assign) ?_
     refine OW.nil ?_
     obtain rfl := Option.some.inj hm
     exact ⟨_, rfl, ⟨S3354, S3355, f3362, f3363, f3364, f3365, f3366, rfl, hL⟩⟩
   intro s_l3 F3369 wd3370 t3356 hJ hm hr3357
   unfold M.spec_SimplifyCurve_l3 at hm
   obtain ⟨S3354, S3355, f3371, f3372, f3373, f3374, f3375, f3376, f3377, hL⟩ := hJ
   refine CW.seq ?_
   refine CSR ?_
   refine OV (.int .i64 s_l3.2.2) rfl (x_mv f3377) ?_
   refine OV (.int .i64 (w64 ((a0.length : Int) - 1))) rfl (x_mv f3373) ?_
   refine OV (.bool (decide (s_l3.2.2 ≤ (w64 ((a0.length : Int) - 1))))) rfl (x_leq rfl rfl) ?_
   refine OW.nil ?_
   refine CW.condM (t := decide (s_l3.2.2 ≤ (w64 ((a0.length : Int) - 1)))) rfl hm (fun hb3378 hm => ?_) (fun hb3378 hm => ?_)
   · refine CW.skip ?_
     refine CW.seqJ (fun (s_j1 : (List Int) × (List Int)) (F : Fr) (w : World) => ∃ (S3570 : Nat → Prop) (S3571 : Nat → Prop), F 0 = v1 ∧ F 1 = (.int .i64 a1) ∧ F 6 = (.int .i64 (w64 ((a0.length : Int) - 1))) ∧ F 7 = v16 ∧ F 8 = v20 ∧ F 9 = (.int .i64 s_l1.2.2) ∧ F 10 = (.int .i64 s_l3.2.2) ∧ Hp w0 [Ent.own 3 S3571 v20 s_j1.2, Ent.own 3 S3570 v16 s_j1.1, Ent.snap w0 w0.heap.size] w) (fun s_j1 => M.spec_SimplifyCurve_j1 s_l3 s_j1 = some t3356) ?_ ?_
     · refine CW.blockJ (fun (s_j2 : (List Int) × (List Int)) (F : Fr) (w : World) => ∃ (S3671 : Nat → Prop) (S3672 : Nat → Prop), F 0 = v1 ∧ F 1 = (.int .i64 a1) ∧ F 6 = (.int .i64 (w64 ((a0.length : Int) - 1))) ∧ F 7 = v16 ∧ F 8 = v20 ∧ F 9 = (.int .i64 s_l1.2.2) ∧ F 10 = (.int .i64 s_l3.2.2) ∧ Hp w0 [Ent.own 3 S3672 v20 s_j2.2, Ent.own 3 S3671 v16 s_j2.1, Ent.snap w0 w0.heap.size] w) (fun s_j2 => M.spec_SimplifyCurve_j2 s_l3 s_j2 = some t3356) ?_ ?_
       · refine CW.seqJ (fun (s_j3 : Bool) (F : Fr) (w : World) => F 0 = v1 ∧ F 1 = (.int .i64 a1) ∧ F 6 = (.int .i64 (w64 ((a0.length : Int) - 1))) ∧ F 7 = v16 ∧ F 8 = v20 ∧ F 9 = (.int .i64 s_l1.2.2) ∧ F 10 = (.int .i64 s_l3.2.2) ∧ F 64 = (.bool s_j3) ∧ Hp w0 [Ent.own 3 S3355 v20 s_l3.2.1, Ent.own 3 S3354 v16 s_l3.1, Ent.snap w0 w0.heap.size] w) (fun s_j3 => M.spec_SimplifyCurve_j3 s_l1 s_l3 s_j3 = some t3356) ?_ ?_
         · refine CW.draw Tryd_mixed ?_
           have hL := hL.call (Mod.drew _)
           refine DW.pre (fuel := 0) (fin := bma 24 16777215) (C := fun w' => Mod None_ _ w') [0, 1, 2, 3, 4, 5, 6, 7, 8, 9, 10, 11, 12, 13, 14, 15, 16, 17, 18, 19, 20, 21, 22, 23] (Mod.refl _ _) (by kernel_rfl) (by kernel_rfl) ?_
           refine QW.cons rfl (QP.val (v := v1) rfl (fun w' hm' => x_mv f3371) ?_)
           refine QW.cons rfl (QP.val (v := (.int .i64 s_l1.2.2)) rfl (fun w' hm' => x_mv f3376) ?_)
           refine QW.cons rfl (QP.val (v := (.int .i64 s_l3.2.2)) rfl (fun w' hm' => x_mv f3377) ?_)
           refine QW.cons rfl (QP.val (v := (.int .i64 a1)) rfl (fun w' hm' => x_mv f3372) ?_)
           obtain ⟨x3744, hx3745, hm⟩ := bndE hm
           refine QW.cons rfl (QP.call (v := (.bool x3744)) rfl (fun w' hm' => x_call (vs := [v1, (.int .i64 s_l1.2.2), (.int .i64 s_l3.2.2), (.int .i64 a1)]) Tryd_C23 ⟨rfl, rfl, rfl, rfl, trivial⟩) (fun w' hm' => (M.spec_l24Near_ok w' a0 ((hL.call hm').rdS 2 rfl h2) s_l1.2.2 s_l3.2.2 a1 hx3745).mono (fun e w'' h => ⟨h.1, hm'.trans h.2.mod⟩)) ?_)
           refine QW.cons rfl (QP.val (v := (.bool x3744)) rfl (fun w' hm' => x_move) ?_)
           refine ifB_elim hm (fun hb3746 hm => ?_) (fun hb3746 hm => ?_)
           · refine QW.cons rfl (QP.yes' rfl rfl hb3746 (QP.val (v := v16) rfl (fun w' hm' => x_mv f3374) ?_))
             refine QW.cons rfl (QP.yes' rfl rfl hb3746 (QP.val (v := (.int .i64 s_l1.2.2)) rfl (fun w' hm' => x_mv f3376) ?_))
             obtain ⟨x3747, ha3748, hm⟩ := bndE hm
             obtain ⟨hz3749, ha3753⟩ := idxE ha3748
             obtain ⟨b3750, q3751, hix3752⟩ := rdL_ix (hL.rdO 1 rfl) hz3749 ha3753
             refine QW.cons rfl (QP.yes' rfl rfl hb3746 (QP.val (v := (.pointer (some ⟨b3750, q3751, none⟩))) rfl (fun w' hm' => x_ix U47 Tryd_T3 rfl rfl hix3752) ?_))
             refine QW.cons rfl (QP.yes' rfl rfl hb3746 (QP.val (v := (.int .i64 x3747)) rfl (fun w' hm' => x_load1 U3 rfl rfl (rdF_cells ((hL.call hm').rdO 1 rfl) hix3752 ha3753 0 _ rfl)) ?_))
             refine QW.cons rfl (QP.yes' rfl rfl hb3746 (QP.val (v := (.bool (x3747 == 0))) rfl (fun w' hm' => x_eql rfl rfl) ?_))
             refine QW.cons rfl (QP.yes' rfl rfl hb3746 (QP.val (v := (.bool (x3747 == 0))) rfl (fun w' hm' => x_move) ?_))
             refine ifB_elim hm (fun hb3754 hm => ?_) (fun hb3754 hm => ?_)
             · refine QW.cons rfl (QP.no' rfl rfl hb3754 rfl ?_)
               refine QW.cons rfl (QP.no' rfl rfl hb3754 rfl ?_)
               refine QW.cons rfl (QP.no' rfl rfl hb3754 rfl ?_)
               refine QW.cons rfl (QP.no' rfl rfl hb3754 rfl ?_)
               refine QW.cons rfl (QP.no' rfl rfl hb3754 rfl ?_)
               refine QW.cons rfl (QP.no' rfl rfl hb3754 rfl ?_)
               refine QW.cons rfl (QP.no' rfl rfl hb3754 rfl ?_)
               refine QW.cons rfl (QP.no' rfl rfl hb3754 rfl ?_)
               refine QW.cons rfl (QP.no' rfl rfl hb3754 rfl ?_)
               refine QW.cons rfl (QP.no' rfl rfl hb3754 rfl ?_)
               refine QW.cons rfl (QP.yes' rfl rfl hb3746 (QP.val (v := (.bool true)) rfl (fun w' hm' => x_pickT' rfl hb3754 rfl) ?_))
               refine QW.cons rfl (QP.val (v := (.bool true)) rfl (fun w' hm' => x_pickT' rfl hb3746 rfl) ?_)
               refine QW.nil ?_
               intro wd3755 hmod
               have hL := hL.call hmod
               refine DW.done (by kernel_rfl) ?_
               exact ⟨true, hm, ⟨f3371, f3372, f3373, f3374, f3375, f3376, f3377, rfl, hL⟩⟩
             refine QW.cons rfl (QP.yes' rfl rfl hb3754 (QP.val (v := v16) rfl (fun w' hm' => x_mv f3374) ?_))
             refine QW.cons rfl (QP.yes' rfl rfl hb3754 (QP.val (v := (.int .i64 s_l3.2.2)) rfl (fun w' hm' => x_mv f3377) ?_))
             obtain ⟨x3756, ha3757, hm⟩ := bndE hm
             obtain ⟨hz3758, ha3762⟩ := idxE ha3757
             obtain ⟨b3759, q3760, hix3761⟩ := rdL_ix (hL.rdO 1 rfl) hz3758 ha3762
             refine QW.cons rfl (QP.yes' rfl rfl hb3754 (QP.val (v := (.pointer (some ⟨b3759, q3760, none⟩))) rfl (fun w' hm' => x_ix U47 Tryd_T3 rfl rfl hix3761) ?_))
             refine QW.cons rfl (QP.yes' rfl rfl hb3754 (QP.val (v := (.int .i64 x3756)) rfl (fun w' hm' => x_load1 U3 rfl rfl (rdF_cells ((hL.call hm').rdO 1 rfl) hix3761 ha3762 0 _ rfl)) ?_))
             refine QW.cons rfl (QP.yes' rfl rfl hb3754 (QP.val (v := (.int .i64 (w64 (x3756 + 1)))) rfl (fun w' hm' => x_add rfl rfl) ?_))
             refine QW.cons rfl (QP.yes' rfl rfl hb3754 (QP.val (v := v16) rfl (fun w' hm' => x_mv f3374) ?_))
             refine QW.cons rfl (QP.yes' rfl rfl hb3754 (QP.val (v := (.int .i64 s_l1.2.2)) rfl (fun w' hm' => x_mv f3376) ?_))
             obtain ⟨x3763, ha3764, hm⟩ := bndE hm
             obtain ⟨hz3765, ha3769⟩ := idxE ha3764
             obtain ⟨b3766, q3767, hix3768⟩ := rdL_ix (hL.rdO 1 rfl) hz3765 ha3769
             refine QW.cons rfl (QP.yes' rfl rfl hb3754 (QP.val (v := (.pointer (some ⟨b3766, q3767, none⟩))) rfl (fun w' hm' => x_ix U47 Tryd_T3 rfl rfl hix3768) ?_))
             refine QW.cons rfl (QP.yes' rfl rfl hb3754 (QP.val (v := (.int .i64 x3763)) rfl (fun w' hm' => x_load1 U3 rfl rfl (rdF_cells ((hL.call hm').rdO 1 rfl) hix3768 ha3769 0 _ rfl)) ?_))
             refine QW.cons rfl (QP.yes' rfl rfl hb3754 (QP.val (v := (.bool (decide ((w64 (x3756 + 1)) < x3763)))) rfl (fun w' hm' => x_lss rfl rfl) ?_))
             refine QW.cons rfl (QP.yes' rfl rfl hb3746 (QP.val (v := (.bool (decide ((w64 (x3756 + 1)) < x3763)))) rfl (fun w' hm' => x_pickF' rfl hb3754 rfl) ?_))
             refine QW.cons rfl (QP.val (v := (.bool (decide ((w64 (x3756 + 1)) < x3763)))) rfl (fun w' hm' => x_pickT' rfl hb3746 rfl) ?_)
             refine QW.nil ?_
             intro wd3770 hmod
             have hL := hL.call hmod
             refine DW.done (by kernel_rfl) ?_
             exact ⟨decide ((w64 (x3756 + 1)) < x3763), hm, ⟨f3371, f3372, f3373, f3374, f3375, f3376, f3377, rfl, hL⟩⟩
           refine QW.cons rfl (QP.no' rfl rfl hb3746 rfl ?_)
           refine QW.cons rfl (QP.no' rfl rfl hb3746 rfl ?_)
           refine QW.cons rfl (QP.no' rfl rfl hb3746 rfl ?_)
           refine QW.cons rfl (QP.no' rfl rfl hb3746 rfl ?_)
           refine QW.cons rfl (QP.no' rfl rfl hb3746 rfl ?_)
           refine QW.cons rfl (QP.no' rfl rfl hb3746 rfl ?_)
           refine QW.cons rfl (QP.noU rfl rfl rfl ?_)
           refine QW.cons rfl (QP.noU rfl rfl rfl ?_)
           refine QW.cons rfl (QP.noU rfl rfl rfl ?_)
           refine QW.cons rfl (QP.noU rfl rfl rfl ?_)
           refine QW.cons rfl (QP.noU rfl rfl rfl ?_)
           refine QW.cons rfl (QP.noU rfl rfl rfl ?_)
           refine QW.cons rfl (QP.noU rfl rfl rfl ?_)
           refine QW.cons rfl (QP.noU rfl rfl rfl ?_)
           refine QW.cons rfl (QP.noU rfl rfl rfl ?_)
           refine QW.cons rfl (QP.noU rfl rfl rfl ?_)
           refine QW.cons rfl (QP.no' rfl rfl hb3746 rfl ?_)
           refine QW.cons rfl (QP.val (v := (.bool false)) rfl (fun w' hm' => x_pickF' rfl hb3746 rfl) ?_)
           refine QW.nil ?_
           intro wd3771 hmod
           have hL := hL.call hmod
           refine DW.done (by kernel_rfl) ?_
           exact ⟨false, hm, ⟨f3371, f3372, f3373, f3374, f3375, f3376, f3377, rfl, hL⟩⟩
         intro s_j3 F3710 wd3711 hJ hm
         unfold M.spec_SimplifyCurve_j3 at hm
         obtain ⟨f3712, f3713, f3714, f3715, f3716, f3717, f3718, f3719, hL⟩ := hJ
         refine CW.condM (t := s_j3) f3719 hm (fun hb3720 hm => ?_) (fun hb3720 hm => ?_)
         · refine CSR ?_
           refine OV v16 rfl (x_mv f3715) ?_
           refine OV (.int .i64 s_l1.2.2) rfl (x_mv f3717) ?_
           refine OV v16 rfl (x_mv f3715) ?_
           refine OV (.int .i64 s_l3.2.2) rfl (x_mv f3718) ?_
           obtain ⟨x3721, ha3722, hm⟩ := bndE hm
           obtain ⟨hz3723, ha3727⟩ := idxE ha3722
           obtain ⟨b3724, q3725, hix3726⟩ := rdL_ix (hL.rdO 1 rfl) hz3723 ha3727
           refine OV (.pointer (some ⟨b3724, q3725, none⟩)) rfl (x_ix U47 Tryd_T3 rfl rfl hix3726) ?_
           refine OV (.int .i64 x3721) rfl (x_load1 U3 rfl rfl (rdF_cells (hL.rdO 1 rfl) hix3726 ha3727 0 _ rfl)) ?_
           refine OV (.int .i64 (w64 (x3721 + 1))) rfl (x_add rfl rfl) ?_
           obtain ⟨x3728, ha3729, hm⟩ := bndE hm
           obtain ⟨hz3730, ha3734⟩ := idxE ha3729
           obtain ⟨b3731, q3732, hix3733⟩ := rdL_ix (hL.rdO 1 rfl) hz3730 ha3734
           refine OV (.pointer (some ⟨b3731, q3732, none⟩)) rfl (x_ix U47 Tryd_T3 rfl rfl hix3733) ?_
           refine OW.cons (S_storeX (j := 0) (w64 (x3721 + 1)) hL 1 rfl Tryd_T3 hix3733 ha3734 rfl rfl rfl rfl rfl rfl ?_)
           intro wd3735 hL
           refine OW.nil ?_
           refine CW.regionL ?_
           refine OV v20 rfl (x_mv f3716) ?_
           refine OV (.int .i64 s_l1.2.2) rfl (x_mv f3717) ?_
           refine OV (.int .i64 s_l3.2.2) rfl (x_mv f3718) ?_
           obtain ⟨x3736, ha3737, hm⟩ := bndE hm
           obtain ⟨hz3738, ha3742⟩ := idxE ha3737
           obtain ⟨b3739, q3740, hix3741⟩ := rdL_ix (hL.rdO 0 rfl) hz3738 ha3742
           refine OV (.pointer (some ⟨b3739, q3740, none⟩)) rfl (x_ix U47 Tryd_T3 rfl rfl hix3741) ?_
           refine OW.cons (S_storeX (j := 0) s_l3.2.2 hL 0 rfl Tryd_T3 hix3741 ha3742 rfl rfl rfl rfl rfl rfl ?_)
           intro wd3743 hL
           refine OW.nil ?_
           exact ⟨(s_l3.1.set (s_l1.2.2 : Int).toNat (w64 (x3721 + 1)), s_l3.2.1.set (s_l1.2.2 : Int).toNat s_l3.2.2), hm, ⟨S3354, S3355, f3712, f3713, f3714, f3715, f3716, f3717, f3718, hL⟩⟩
         refine CW.skip ?_
         exact ⟨(s_l3.1, s_l3.2.1), hm, ⟨S3354, S3355, f3712, f3713, f3714, f3715, f3716, f3717, f3718, hL⟩⟩
       intro s_j2 F3673 wd3674 hJ hm
       unfold M.spec_SimplifyCurve_j2 at hm
       obtain ⟨S3671, S3672, f3675, f3676, f3677, f3678, f3679, f3680, f3681, hL⟩ := hJ
       exact ⟨(s_j2.1, s_j2.2), hm, ⟨S3671, S3672, f3675, f3676, f3677, f3678, f3679, f3680, f3681, hL⟩⟩
     intro s_j1 F3572 wd3573 hJ hm
     unfold M.spec_SimplifyCurve_j1 at hm
     obtain ⟨S3570, S3571, f3574, f3575, f3576, f3577, f3578, f3579, f3580, hL⟩ := hJ
     refine CW.regionL ?_
     refine OV (.int .i64 s_l3.2.2) rfl (x_mv f3580) ?_
     refine OV (.int .i64 (w64 (s_l3.2.2 + 1))) rfl (x_add rfl rfl) ?_
     refine OV (.int .i64 (w64 (s_l3.2.2 + 1))) rfl (x_assign) ?_
     refine OW.nil ?_
     obtain rfl := Option.some.inj hm
     exact ⟨_, rfl, ⟨S3570, S3571, f3574, f3575, f3576, f3577, f3578, f3579, rfl, hL⟩⟩
   refine CW.exit ?_
   refine XJ.hit ?_
   obtain rfl := Option.some.inj hm
   exact ⟨_, rfl, ⟨S3354, S3355, f3371, f3372, f3373, f3374, f3375, f3376, f3377, hL⟩⟩
 refine CW.exit ?_
 refine XJ.hit ?_
 obtain rfl := Option.some.inj hm
 exact ⟨_, rfl, ⟨S2443, S2444, f2557, f2558, f2559, f2560, f2561, f2562, hL⟩⟩

theorem M.strconv_FormatInt_ok (w0 : World) (htab : TabsR Tryd.prog (cutLaid_ren.g 1) (parseLaid_ren.g 15) (parseLaid_ren.g 16) w0) (a0 : Int) (a1 : Int) {r : ByteArray} (hm : M.strconv_FormatInt a0 a1 = some r) :
    Calls Tryd.prog 37 #[(.int .i64 a0), (.int .i64 a1)] w0 fun e w' => e = .returned (.string r) ∧ Fresh w0 w' [] := by
 unfold M.strconv_FormatInt at hm
 obtain ⟨⟨hb, h0, h1⟩, h2⟩ := chkE hm
 subst hb
 obtain rfl := Option.some.inj h2
 exact (Any.strconv_FormatInt_10 fmtLaid a0 h0 h1 w0 htab.tab).mono fun e w' h => ⟨h.1, fresh_grow h.2⟩

theorem M.impl_text_ok (w0 : World) (htab : TabsR Tryd.prog (cutLaid_ren.g 1) (parseLaid_ren.g 15) (parseLaid_ren.g 16) w0) (a0 : Int) {r : ByteArray} (hm : M.impl_text a0 = some r) :
    Calls Tryd.prog 24 #[(.int .i64 a0)] w0 fun e w' => e = .returned (.string r) ∧ Fresh w0 w' [] := by
 unfold M.impl_text at hm
 refine calls_CW (args := [(.int .i64 a0)]) Tryd.func24 rfl rfl rfl ?_
 have hL := Hp.start w0
 refine CSR ?_
 refine OV (.string (⟨#[]⟩ : ByteArray)) rfl (x_assign) ?_
 refine ONR ?_
 refine OV (.int .i64 a0) rfl (x_move) ?_
 obtain ⟨x1, hx2, hm⟩ := bndE hm
 refine OW.cons (OP.call rfl (x_call (vs := [(.int .i64 a0), (.int .i64 10)]) Tryd_C37 ⟨rfl, rfl, trivial⟩) (M.strconv_FormatInt_ok _ (hL.tabR 0 rfl rfl htab) a0 10 hx2) ?_)
 rintro e3 wd4 ⟨rfl, hF5⟩
 refine ⟨_, rfl, ?_⟩
 have hL := hL.pushAll hF5
 simp only [lA, lB, lC, lD] at hL
 refine OV (.string x1) rfl (x_assign) ?_
 refine OW.nil ?_
 refine CW.ret ?_
 obtain rfl := Option.some.inj hm
 exact RR1 rfl rfl ⟨rfl, hL.fresh 0 rfl [] (by decide) (by decide) rfl⟩

theorem M.strings_Join_ok (w0 : World) (a0 : List ByteArray) {v1 : Value} (h2 : rdL (· < w0.heap.size) w0 v1 a0) (a1 : ByteArray) {r : ByteArray} (hm : M.strings_Join a0 a1 = some r) :
    Calls Tryd.prog 25 #[v1, (.string a1)] w0 fun e w' => e = .returned (.string r) ∧ Fresh w0 w' [] :=
  join_fits h2 hm (fun bk o c q1 q2 q3 q4 q5 => Any.strings_Join joinLaid joinX bk o c a0 a1 w0 q1 q2 q3 q4 q5) (fun a c => Any.strings_Join_none joinLaid joinX a c a1 w0)

theorem M.impl_CurveText_ok (w0 : World) (htab : TabsR Tryd.prog (cutLaid_ren.g 1) (parseLaid_ren.g 15) (parseLaid_ren.g 16) w0) (a0 : List CurvePoint) {v1 : Value} (h2 : rdL (· < w0.heap.size) w0 v1 a0) {r : ByteArray} (hm : M.impl_CurveText a0 = some r) :
    Calls Tryd.prog 8 #[v1] w0 fun e w' => e = .returned (.string r) ∧ Fresh w0 w' [] := by
 unfold M.impl_CurveText at hm
 refine calls_CW (args := [v1]) Tryd.func8 rfl rfl rfl ?_
 have hL := Hp.start w0
 refine CSR ?_
 refine OV (.string (⟨#[]⟩ : ByteArray)) rfl (x_assign) ?_
 refine ONS ?_
 refine CSR ?_
 refine OV v1 rfl (x_move) ?_
 obtain ⟨x3, hx4, hm⟩ := bndE hm
 refine OW.cons (OP.call rfl (x_call (vs := [v1]) Tryd_C15 ⟨rfl, trivial⟩) (M.impl_IsCurve_ok _ a0 (hL.rdS 0 rfl h2) hx4) ?_)
 rintro e5 wd6 ⟨rfl, hF7⟩
 refine ⟨_, rfl, ?_⟩
 have hL := hL.pushAll hF7
 simp only [lA, lB, lC, lD] at hL
 refine OV (.bool (!x3)) rfl (x_not rfl) ?_
 refine OW.nil ?_
 refine CW.condM (t := !x3) rfl hm (fun hb8 hm => ?_) (fun hb8 hm => ?_)
 · refine CSR ?_
   refine OV (.string (⟨#[]⟩ : ByteArray)) rfl (x_assign) ?_
   refine OW.nil ?_
   refine CW.ret ?_
   obtain rfl := Option.some.inj hm
   exact RR1 rfl rfl ⟨rfl, hL.fresh 0 rfl [] (by decide) (by decide) rfl⟩
 refine CW.skip ?_
 refine CSR ?_
 refine OW.cons (S_lit ([] : List ByteArray) hL U49 Tryd_T9 rfl (by decide) (by first | (simp [Instr.fill, madeCells, Value.cells, ev, upd, Flat.enc, Flat.sz]; done) | rfl | kernel_rfl) rfl rfl ?_)
 intro wd9 v10 S11 hL
 refine OV v10 rfl (x_assign) ?_
 refine ONS ?_
 refine CSR ?_
 refine OV v1 rfl (x_move) ?_
 refine OV (.int .i64 (a0.length : Int)) rfl (x_lenR U24 rfl (hL.rdS 1 rfl h2)) ?_
 refine OV (.int .i64 0) rfl (x_move) ?_
 refine OW.nil ?_
 obtain ⟨o116, ho117, hm⟩ := bndE hm
 refine CW.loopB (fun (s_l1 : (List ByteArray) × Int) (F : Fr) (w : World) => ∃ (v112 : Value) (S113 : Nat → Prop), F 3 = v112 ∧ F 10 = v1 ∧ F 11 = (.int .i64 (a0.length : Int)) ∧ F 12 = (.int .i64 s_l1.2) ∧ Hp w0 [Ent.own 9 S113 v112 s_l1.1, Ent.snap w0 w0.heap.size] w) (fun o => outc o (fun x => some x) (fun s => M.impl_CurveText_a1 s) = some r) ho117 hm ⟨v10, S11, rfl, rfl, rfl, rfl, hL⟩ ?_ ?_
 · intro s_l1 F118 wd119 hJ hm
   have hm := outcE hm
   have hm : M.impl_CurveText_a1 s_l1 = some r := hm
   unfold M.impl_CurveText_a1 at hm
   obtain ⟨v112, S113, f120, f121, f122, f123, hL⟩ := hJ
   refine CSR ?_
   refine OV v112 rfl (x_mv f120) ?_
   obtain ⟨x124, hx125, hm⟩ := bndE hm
   refine OW.cons (OP.call rfl (x_call (vs := [v112, (.string (⟨#[32]⟩ : ByteArray))]) Tryd_C25 ⟨rfl, rfl, trivial⟩) (M.strings_Join_ok _ s_l1.1 (hL.rdO 0 rfl) (⟨#[32]⟩ : ByteArray) hx125) ?_)
   rintro e126 wd127 ⟨rfl, hF128⟩
   refine ⟨_, rfl, ?_⟩
   have hL := hL.pushAll hF128
   simp only [lA, lB, lC, lD] at hL
   refine OV (.string x124) rfl (x_assign) ?_
   refine OW.nil ?_
   refine CW.ret ?_
   obtain rfl := Option.some.inj hm
   exact RR1 rfl rfl ⟨rfl, hL.fresh 1 rfl [] (by decide) (by decide) rfl⟩
 intro s_l1 F129 wd130 t114 hJ hm hr115
 unfold M.impl_CurveText_l1 at hm
 obtain ⟨v112, S113, f131, f132, f133, f134, hL⟩ := hJ
 refine CSR ?_
 refine OV (.bool (decide (s_l1.2 < (a0.length : Int)))) rfl (x_lss f134 f133) ?_
 refine ONS ?_
 refine CW.condM (t := decide (s_l1.2 < (a0.length : Int))) rfl hm (fun hb135 hm => ?_) (fun hb135 hm => ?_)
 · refine CW.skip ?_
   refine CW.seq ?_
   refine CW.block ?_
   refine CSR ?_
   obtain ⟨x136, ha137, hm⟩ := bndE hm
   obtain ⟨hz138, ha142⟩ := idxE ha137
   obtain ⟨b139, q140, hix141⟩ := rdL_ix (hL.rdS 1 rfl h2) hz138 ha142
   refine OV (.pointer (some ⟨b139, q140, none⟩)) rfl (x_ix U24 Tryd_T32 f132 f134 hix141) ?_
   refine OV (.agg #[(.int .i64 x136.Wind), (.int .i64 x136.Pace)]) rfl (x_loadN (cs := [(.int .i64 x136.Wind), (.int .i64 x136.Pace)]) U32 Tryd_T32 rfl rfl (rdF_cells (hL.rdS 1 rfl h2) hix141 ha142)) ?_
   refine OW.cons (S_alloc (cs := #[(.int .i64 0), (.int .i64 0)]) hL Tryd_T32 rfl rfl ?_)
   intro wd143 b144 hL
   refine OW.cons (S_storeN (l := [(.int .i64 x136.Wind), (.int .i64 x136.Pace)]) (cs' := #[(.int .i64 x136.Wind), (.int .i64 x136.Pace)]) hL 0 rfl Tryd_T32 rfl rfl (List.forall_mem_cons.2 ⟨rfl, (List.forall_mem_cons.2 ⟨rfl, (fun _ h => by cases h)⟩)⟩) rfl (Nat.le_of_ble_eq_true rfl) rfl ?_)
   intro wd145 hL
   refine OW.nil ?_
   refine CW.drawH (fun w' => Hp w0 [Ent.blk b144 32 #[(.int .i64 x136.Wind), (.int .i64 x136.Pace)], Ent.snap w0 w0.heap.size] w') Tryd_mixed ?_
   have hL := hL.call (Mod.drew _)
   have hS := (hL.sel [0, 2] (by decide) rfl)
   refine DH.take 0 rfl (by kernel_rfl) (by kernel_rfl) (by kernel_rfl) rfl rfl hS (YH.val (v := v112) (fun w' hS' => x_mv f131)) ?_
   have hS := (hL.sel [0, 2] (by decide) rfl)
   refine DH.take 1 rfl (by kernel_rfl) (by kernel_rfl) (by kernel_rfl) rfl rfl hS (YH.val (v := (.pointer (some ⟨b144, 0, none⟩))) (fun w' hS' => x_fieldAddr (fsz := 1) 0 0 0 U32 rfl Tryd_T2 rfl rfl rfl)) ?_
   have hS := (hL.sel [0, 2] (by decide) rfl)
   refine DH.take 2 rfl (by kernel_rfl) (by kernel_rfl) (by kernel_rfl) rfl rfl hS (YH.val (v := (.int .i64 x136.Wind)) (fun w' hS' => x_load1 U2 rfl rfl (hS'.cellB 0 rfl rfl))) ?_
   have hS := (hL.sel [0, 2] (by decide) rfl)
   refine DH.take 5 rfl (by kernel_rfl) (by kernel_rfl) (by kernel_rfl) rfl rfl hS (YH.val (v := (.pointer (some ⟨b144, 1, none⟩))) (fun w' hS' => x_fieldAddr (fsz := 1) 0 1 1 U32 rfl Tryd_T2 rfl rfl rfl)) ?_
   have hS := (hL.sel [0, 2] (by decide) rfl)
   refine DH.take 6 rfl (by kernel_rfl) (by kernel_rfl) (by kernel_rfl) rfl rfl hS (YH.val (v := (.int .i64 x136.Pace)) (fun w' hS' => x_load1 U2 rfl rfl (hS'.cellB 0 rfl rfl))) ?_
   obtain ⟨x165, hx166, hm⟩ := bndE hm
   refine DH.only 3 rfl (by kernel_rfl) (OP.call rfl (x_call (vs := [(.int .i64 x136.Wind)]) Tryd_C24 ⟨rfl, trivial⟩) (M.impl_text_ok _ (hL.tabR 2 rfl rfl htab) x136.Wind hx166) ?_)
   rintro e167 wd168 ⟨rfl, hF169⟩
   refine ⟨_, rfl, ?_⟩
   have hL := hL.pushAll hF169
   simp only [lA, lB, lC, lD] at hL
   refine ⟨(hL.sel [0, 2] (by decide) rfl), ?_⟩
   have hS := (hL.sel [0, 2] (by decide) rfl)
   obtain ⟨hc170, hm⟩ := chkE hm
   refine DH.take 4 rfl (by kernel_rfl) (by kernel_rfl) (by kernel_rfl) rfl rfl hS (YH.val (v := (.string (x165 ++ (⟨#[58]⟩ : ByteArray)))) (fun w' hS' => x_addT rfl rfl hc170)) ?_
   obtain ⟨x171, hx172, hm⟩ := bndE hm
   refine DH.only 7 rfl (by kernel_rfl) (OP.call rfl (x_call (vs := [(.int .i64 x136.Pace)]) Tryd_C24 ⟨rfl, trivial⟩) (M.impl_text_ok _ (hL.tabR 2 rfl rfl htab) x136.Pace hx172) ?_)
   rintro e173 wd174 ⟨rfl, hF175⟩
   refine ⟨_, rfl, ?_⟩
   have hL := hL.pushAll hF175
   simp only [lA, lB, lC, lD] at hL
   refine ⟨(hL.sel [0, 2] (by decide) rfl), ?_⟩
   have hS := (hL.sel [0, 2] (by decide) rfl)
   obtain ⟨hc176, hm⟩ := chkE hm
   refine DH.take 8 rfl (by kernel_rfl) (by kernel_rfl) (by kernel_rfl) rfl rfl hS (YH.val (v := (.string ((x165 ++ (⟨#[58]⟩ : ByteArray)) ++ x171))) (fun w' hS' => x_addT rfl rfl hc176)) ?_
   refine DH.only 9 rfl (by kernel_rfl) (S_lit ([(x165 ++ (⟨#[58]⟩ : ByteArray)) ++ x171] : List ByteArray) hL U49 Tryd_T9 rfl (by decide) (by first | (simp [Instr.fill, madeCells, Value.cells, ev, upd, Flat.enc, Flat.sz]; done) | rfl | kernel_rfl) rfl rfl ?_)
   intro wd177 v178 S179 hL
   refine ⟨(hL.sel [1, 3] (by decide) rfl), ?_⟩
   obtain ⟨hc183, hm⟩ := chkE hm
   refine DH.only 10 rfl (by kernel_rfl) (S_append (ys := ([(x165 ++ (⟨#[58]⟩ : ByteArray)) ++ x171] : List ByteArray)) hL 2 rfl U49 Tryd_T9 rfl rfl rfl (hL.rdO 0 rfl) hc183 (by decide) rfl ?_)
   intro wd180 v181 S182 hL
   refine ⟨(hL.sel [1, 3] (by decide) rfl), ?_⟩
   have hS := (hL.sel [1, 3] (by decide) rfl)
   refine DH.take 11 rfl (by kernel_rfl) (by kernel_rfl) (by kernel_rfl) rfl rfl hS (YH.val (v := v181) (fun w' hS' => x_assign)) ?_
   refine DH.done (by kernel_rfl) ?_
   refine CW.regionL ?_
   refine OV (.int .i64 (w64 (s_l1.2 + 1))) rfl (x_add f134 rfl) ?_
   refine OV (.int .i64 (w64 (s_l1.2 + 1))) rfl (x_move) ?_
   refine OW.nil ?_
   have hL := hL.sel [2, 3] (by decide) rfl
   obtain rfl := Option.some.inj hm
   exact ⟨_, rfl, ⟨v181, S182, rfl, f132, f133, rfl, hL⟩⟩
 refine CW.exit ?_
 refine XJ.hit ?_
 obtain rfl := Option.some.inj hm
 exact ⟨_, rfl, ⟨v112, S113, f131, f132, f133, f134, hL⟩⟩

theorem M.spec_l01NumberS_ok (R : Int → Option ByteArray) (ih : ∀ (w : World) (x : Int) {r : ByteArray}, R x = some r → Calls Tryd.prog 26 #[(.int .i64 x)] w fun e w' => e = .returned (.string r) ∧ Fresh w w' []) (w0 : World) (a0 : Int) {r : ByteArray} (hm : M.spec_l01NumberS R a0 = some r) :
    Calls Tryd.prog 26 #[(.int .i64 a0)] w0 fun e w' => e = .returned (.string r) ∧ Fresh w0 w' [] := by
 unfold M.spec_l01NumberS at hm
 refine calls_CW (args := [(.int .i64 a0)]) Tryd.func26 rfl rfl rfl ?_
 have hL := Hp.start w0
 refine CSR ?_
 refine OV (.string (⟨#[]⟩ : ByteArray)) rfl (x_assign) ?_
 refine ONS ?_
 refine CSR ?_
 refine OV (.int .i64 a0) rfl (x_move) ?_
 refine OV (.bool (decide (a0 < 10))) rfl (x_lss rfl rfl) ?_
 refine OW.nil ?_
 refine CW.condM (t := decide (a0 < 10)) rfl hm (fun hb1 hm => ?_) (fun hb1 hm => ?_)
 · refine CSR ?_
   refine OV (.int .i64 a0) rfl (x_move) ?_
   refine OV (.int .i64 (w64 (48 + a0))) rfl (x_add rfl rfl) ?_
   refine OV (.int .u8 (IntKind.u8.wrap (w64 (48 + a0)))) rfl (x_conv U2 U5 rfl) ?_
   refine OW.cons (S_lit ([(UInt8.ofNat (IntKind.u8.wrap (w64 (48 + a0))).toNat)] : List UInt8) hL U22 Tryd_T5 rfl (by decide) (by simp only [Flat.enc, List.flatMap_cons, List.flatMap_nil, u8w]; first | rfl | kernel_rfl) rfl rfl ?_)
   intro wd2 v3 S4 hL
   refine OV (.string (bts ([(UInt8.ofNat (IntKind.u8.wrap (w64 (48 + a0))).toNat)] : List UInt8))) rfl (x_bts U22 U5 U9 rfl (hL.rdO 0 rfl)) ?_
   refine OV (.string (bts ([(UInt8.ofNat (IntKind.u8.wrap (w64 (48 + a0))).toNat)] : List UInt8))) rfl (x_assign) ?_
   refine OW.nil ?_
   refine CW.ret ?_
   obtain rfl := Option.some.inj hm
   exact RR1 rfl rfl ⟨rfl, hL.fresh 1 rfl [] (by decide) (by decide) rfl⟩
 refine CW.skip ?_
 refine CW.seq ?_
 refine CW.drawH (fun w' => Hp w0 [Ent.snap w0 w0.heap.size] w') Tryd_mixed ?_
 have hL := hL.call (Mod.drew _)
 have hS := (hL.sel [0] (by decide) rfl)
 refine DH.take 0 rfl (by kernel_rfl) (by kernel_rfl) (by kernel_rfl) rfl rfl hS (YH.val (v := (.int .i64 a0)) (fun w' hS' => x_move)) ?_
 have hS := (hL.sel [0] (by decide) rfl)
 refine DH.take 1 rfl (by kernel_rfl) (by kernel_rfl) (by kernel_rfl) rfl rfl hS (YH.val (v := (.int .i64 (w64 (a0.tdiv 10)))) (fun w' hS' => x_quo rfl rfl (by decide))) ?_
 have hS := (hL.sel [0] (by decide) rfl)
 refine DH.take 3 rfl (by kernel_rfl) (by kernel_rfl) (by kernel_rfl) rfl rfl hS (YH.val (v := (.int .i64 a0)) (fun w' hS' => x_move)) ?_
 have hS := (hL.sel [0] (by decide) rfl)
 refine DH.take 4 rfl (by kernel_rfl) (by kernel_rfl) (by kernel_rfl) rfl rfl hS (YH.val (v := (.int .i64 (a0.tmod 10))) (fun w' hS' => x_rem rfl rfl (by decide))) ?_
 have hS := (hL.sel [0] (by decide) rfl)
 refine DH.take 5 rfl (by kernel_rfl) (by kernel_rfl) (by kernel_rfl) rfl rfl hS (YH.val (v := (.int .i64 (w64 (48 + (a0.tmod 10))))) (fun w' hS' => x_add rfl rfl)) ?_
 have hS := (hL.sel [0] (by decide) rfl)
 refine DH.take 6 rfl (by kernel_rfl) (by kernel_rfl) (by kernel_rfl) rfl rfl hS (YH.val (v := (.int .u8 (IntKind.u8.wrap (w64 (48 + (a0.tmod 10)))))) (fun w' hS' => x_conv U2 U5 rfl)) ?_
 obtain ⟨x14, hx15, hm⟩ := bndE hm
 obtain ⟨hc22, hm⟩ := chkE hm
 refine DH.node (listed' := (bma 11 2047)) (fuel' := 0) (fun (F : Fr) (w : World) => ∃ (v43 : Value) (S44 : Nat → Prop), F 2 = (.string (x14 ++ (bts ([(UInt8.ofNat (IntKind.u8.wrap (w64 (48 + (a0.tmod 10)))).toNat)] : List UInt8)))) ∧ Hp w0 [Ent.own 5 S44 v43 ([(UInt8.ofNat (IntKind.u8.wrap (w64 (48 + (a0.tmod 10)))).toNat)] : List UInt8), Ent.snap w0 w0.heap.size] w) ?_ (fun hN38 => ?_)
 · intro F51 wd52 hJ
   obtain ⟨v43, S44, f53, hL⟩ := hJ
   refine DH.done (by kernel_rfl) ?_
   refine CW.ret ?_
   obtain rfl := Option.some.inj hm
   exact RR1 rfl f53 ⟨rfl, hL.fresh 1 rfl [] (by decide) (by decide) rfl⟩
 refine DH.node (listed' := (bma 11 255)) (fuel' := 3) (fun (F : Fr) (w : World) => ∃ (v45 : Value) (S46 : Nat → Prop), F 2 = (.string (⟨#[]⟩ : ByteArray)) ∧ F 12 = (.string x14) ∧ F 17 = v45 ∧ Hp w0 [Ent.own 5 S46 v45 ([(UInt8.ofNat (IntKind.u8.wrap (w64 (48 + (a0.tmod 10)))).toNat)] : List UInt8), Ent.snap w0 w0.heap.size] w) ?_ (fun hN39 => ?_)
 · intro F54 wd55 hJ
   obtain ⟨v45, S46, f56, f57, f58, hL⟩ := hJ
   refine DH.only 8 rfl (by kernel_rfl) (OP.val (v := (.string (bts ([(UInt8.ofNat (IntKind.u8.wrap (w64 (48 + (a0.tmod 10)))).toNat)] : List UInt8)))) rfl (x_bts U22 U5 U9 f58 (hL.rdO 0 rfl)) ?_)
   refine ⟨(hL.sel [1] (by decide) rfl), ?_⟩
   have hS := (hL.sel [1] (by decide) rfl)
   refine DH.take 9 rfl (by kernel_rfl) (by kernel_rfl) (by kernel_rfl) rfl rfl hS (YH.val (v := (.string (x14 ++ (bts ([(UInt8.ofNat (IntKind.u8.wrap (w64 (48 + (a0.tmod 10)))).toNat)] : List UInt8))))) (fun w' hS' => x_addT f57 rfl hc22)) ?_
   have hS := (hL.sel [1] (by decide) rfl)
   refine DH.take 10 rfl (by kernel_rfl) (by kernel_rfl) (by kernel_rfl) rfl rfl hS (YH.val (v := (.string (x14 ++ (bts ([(UInt8.ofNat (IntKind.u8.wrap (w64 (48 + (a0.tmod 10)))).toNat)] : List UInt8))))) (fun w' hS' => x_assign)) ?_
   exact DH.relist (listed' := (bma 11 2047)) (by kernel_rfl) (hN38 _ _ ⟨v45, S46, rfl, hL⟩)
 refine DH.node (listed' := (bma 11 507)) (fuel' := 3) (fun (F : Fr) (w : World) => ∃ (v47 : Value) (S48 : Nat → Prop), F 2 = (.string (⟨#[]⟩ : ByteArray)) ∧ F 11 = (.int .i64 (w64 (a0.tdiv 10))) ∧ F 18 = (.string (bts ([(UInt8.ofNat (IntKind.u8.wrap (w64 (48 + (a0.tmod 10)))).toNat)] : List UInt8))) ∧ Hp w0 [Ent.own 5 S48 v47 ([(UInt8.ofNat (IntKind.u8.wrap (w64 (48 + (a0.tmod 10)))).toNat)] : List UInt8), Ent.snap w0 w0.heap.size] w) ?_ (fun hN40 => ?_)
 · intro F59 wd60 hJ
   obtain ⟨v47, S48, f61, f62, f63, hL⟩ := hJ
   refine DH.only 2 rfl (by kernel_rfl) (OP.call rfl (x_call (vs := [(.int .i64 (w64 (a0.tdiv 10)))]) Tryd_C26 ⟨f62, trivial⟩) (ih _ (w64 (a0.tdiv 10)) hx15) ?_)
   rintro e64 wd65 ⟨rfl, hF66⟩
   refine ⟨_, rfl, ?_⟩
   have hL := hL.pushAll hF66
   simp only [lA, lB, lC, lD] at hL
   refine ⟨(hL.sel [1] (by decide) rfl), ?_⟩
   have hS := (hL.sel [1] (by decide) rfl)
   refine DH.take 9 rfl (by kernel_rfl) (by kernel_rfl) (by kernel_rfl) rfl rfl hS (YH.val (v := (.string (x14 ++ (bts ([(UInt8.ofNat (IntKind.u8.wrap (w64 (48 + (a0.tmod 10)))).toNat)] : List UInt8))))) (fun w' hS' => x_addT rfl f63 hc22)) ?_
   have hS := (hL.sel [1] (by decide) rfl)
   refine DH.take 10 rfl (by kernel_rfl) (by kernel_rfl) (by kernel_rfl) rfl rfl hS (YH.val (v := (.string (x14 ++ (bts ([(UInt8.ofNat (IntKind.u8.wrap (w64 (48 + (a0.tmod 10)))).toNat)] : List UInt8))))) (fun w' hS' => x_assign)) ?_
   exact DH.relist (listed' := (bma 11 2047)) (by kernel_rfl) (hN38 _ _ ⟨v47, S48, rfl, hL⟩)
 refine DH.node (listed' := (bma 11 127)) (fuel' := 4) (fun (F : Fr) (w : World) => F 2 = (.string (⟨#[]⟩ : ByteArray)) ∧ F 12 = (.string x14) ∧ F 16 = (.int .u8 (IntKind.u8.wrap (w64 (48 + (a0.tmod 10))))) ∧ Hp w0 [Ent.snap w0 w0.heap.size] w) ?_ (fun hN41 => ?_)
 · intro F67 wd68 hJ
   obtain ⟨f69, f70, f71, hL⟩ := hJ
   refine DH.only 7 rfl (by kernel_rfl) (S_lit ([(UInt8.ofNat (IntKind.u8.wrap (w64 (48 + (a0.tmod 10)))).toNat)] : List UInt8) hL U22 Tryd_T5 rfl (by decide) (by simp only [Flat.enc, List.flatMap_cons, List.flatMap_nil, u8w]; simp [Instr.fill, madeCells, Value.cells, ev, upd, Flat.sz, f71]; try (first | rfl | kernel_rfl)) rfl rfl ?_)
   intro wd72 v73 S74 hL
   refine ⟨(hL.sel [1] (by decide) rfl), ?_⟩
   exact DH.relist (listed' := (bma 11 255)) (by kernel_rfl) (hN39 _ _ ⟨v73, S74, f69, f70, rfl, hL⟩)
 refine DH.node (listed' := (bma 11 251)) (fuel' := 4) (fun (F : Fr) (w : World) => ∃ (v49 : Value) (S50 : Nat → Prop), F 2 = (.string (⟨#[]⟩ : ByteArray)) ∧ F 11 = (.int .i64 (w64 (a0.tdiv 10))) ∧ F 17 = v49 ∧ Hp w0 [Ent.own 5 S50 v49 ([(UInt8.ofNat (IntKind.u8.wrap (w64 (48 + (a0.tmod 10)))).toNat)] : List UInt8), Ent.snap w0 w0.heap.size] w) ?_ (fun hN42 => ?_)
 · intro F75 wd76 hJ
   obtain ⟨v49, S50, f77, f78, f79, hL⟩ := hJ
   refine DH.all (rs := [2, 8]) (by kernel_rfl) (by simp) ?_
   intro i80 hi81
   simp only [List.mem_cons, List.not_mem_nil, or_false] at hi81
   rcases hi81 with rfl | rfl
   · refine ⟨_, rfl, ?_⟩
     refine OP.call rfl (x_call (vs := [(.int .i64 (w64 (a0.tdiv 10)))]) Tryd_C26 ⟨f78, trivial⟩) (ih _ (w64 (a0.tdiv 10)) hx15) ?_
     rintro e82 wd83 ⟨rfl, hF84⟩
     refine ⟨_, rfl, ?_⟩
     have hL := hL.pushAll hF84
     simp only [lA, lB, lC, lD] at hL
     refine ⟨(hL.sel [1] (by decide) rfl), ?_⟩
     exact DH.relist (listed' := (bma 11 255)) (by kernel_rfl) (hN39 _ _ ⟨v49, S50, f77, rfl, f79, hL⟩)
   refine ⟨_, rfl, ?_⟩
   refine OP.val (v := (.string (bts ([(UInt8.ofNat (IntKind.u8.wrap (w64 (48 + (a0.tmod 10)))).toNat)] : List UInt8)))) rfl (x_bts U22 U5 U9 f79 (hL.rdO 0 rfl)) ?_
   refine ⟨(hL.sel [1] (by decide) rfl), ?_⟩
   exact DH.relist (listed' := (bma 11 507)) (by kernel_rfl) (hN40 _ _ ⟨v49, S50, f77, f78, rfl, hL⟩)
 refine DH.all (rs := [2, 7]) (by kernel_rfl) (by simp) ?_
 intro i85 hi86
 simp only [List.mem_cons, List.not_mem_nil, or_false] at hi86
 rcases hi86 with rfl | rfl
 · refine ⟨_, rfl, ?_⟩
   refine OP.call rfl (x_call (vs := [(.int .i64 (w64 (a0.tdiv 10)))]) Tryd_C26 ⟨rfl, trivial⟩) (ih _ (w64 (a0.tdiv 10)) hx15) ?_
   rintro e87 wd88 ⟨rfl, hF89⟩
   refine ⟨_, rfl, ?_⟩
   have hL := hL.pushAll hF89
   simp only [lA, lB, lC, lD] at hL
   refine ⟨(hL.sel [0] (by decide) rfl), ?_⟩
   exact DH.relist (listed' := (bma 11 127)) (by kernel_rfl) (hN41 _ _ ⟨rfl, rfl, rfl, hL⟩)
 refine ⟨_, rfl, ?_⟩
 refine S_lit ([(UInt8.ofNat (IntKind.u8.wrap (w64 (48 + (a0.tmod 10)))).toNat)] : List UInt8) hL U22 Tryd_T5 rfl (by decide) (by simp only [Flat.enc, List.flatMap_cons, List.flatMap_nil, u8w]; first | rfl | kernel_rfl) rfl rfl ?_
 intro wd90 v91 S92 hL
 refine ⟨(hL.sel [1] (by decide) rfl), ?_⟩
 exact DH.relist (listed' := (bma 11 251)) (by kernel_rfl) (hN42 _ _ ⟨v91, S92, rfl, rfl, rfl, hL⟩)
theorem M.spec_l01NumberN_ok : ∀ (n : Nat) (w : World) (x : Int) {r : ByteArray}, M.spec_l01NumberN n x = some r → Calls Tryd.prog 26 #[(.int .i64 x)] w fun e w' => e = .returned (.string r) ∧ Fresh w w' []
  | 0, _, _, _, hm => nomatch hm
  | n + 1, w, x, _, hm => M.spec_l01NumberS_ok (M.spec_l01NumberN n) (M.spec_l01NumberN_ok n) w x hm

theorem M.spec_l01Number_ok (w0 : World) (a0 : Int) {r : ByteArray} (hm : M.spec_l01Number a0 = some r) :
    Calls Tryd.prog 26 #[(.int .i64 a0)] w0 fun e w' => e = .returned (.string r) ∧ Fresh w0 w' [] := M.spec_l01NumberN_ok 64 w0 a0 hm

theorem M.spec_CurveText_ok (w0 : World) (a0 : List CurvePoint) {v1 : Value} (h2 : rdL (· < w0.heap.size) w0 v1 a0) {r : ByteArray} (hm : M.spec_CurveText a0 = some r) :
    Calls Tryd.prog 9 #[v1] w0 fun e w' => e = .returned (.string r) ∧ Fresh w0 w' [] := by
 unfold M.spec_CurveText at hm
 refine calls_CW (args := [v1]) Tryd.func9 rfl rfl rfl ?_
 have hL := Hp.start w0
 refine CSR ?_
 refine OV (.string (⟨#[]⟩ : ByteArray)) rfl (x_assign) ?_
 refine ONR ?_
 refine OV (.string (⟨#[]⟩ : ByteArray)) rfl (x_assign) ?_
 refine ONS ?_
 refine CSR ?_
 refine OV (.int .i64 0) rfl (x_assign) ?_
 refine OW.nil ?_
 obtain ⟨o105, ho106, hm⟩ := bndE hm
 refine CW.loopB (fun (s_l1 : ByteArray × Int) (F : Fr) (w : World) => F 0 = v1 ∧ F 3 = (.string s_l1.1) ∧ F 4 = (.int .i64 s_l1.2) ∧ Hp w0 [Ent.snap w0 w0.heap.size] w) (fun o => outc o (fun x => some x) (fun s => M.spec_CurveText_a1 s) = some r) ho106 hm ⟨rfl, rfl, rfl, hL⟩ ?_ ?_
 · intro s_l1 F107 wd108 hJ hm
   have hm := outcE hm
   have hm : M.spec_CurveText_a1 s_l1 = some r := hm
   unfold M.spec_CurveText_a1 at hm
   obtain ⟨f109, f110, f111, hL⟩ := hJ
   refine CSR ?_
   refine OV (.string s_l1.1) rfl (x_mv f110) ?_
   refine OV (.string s_l1.1) rfl (x_assign) ?_
   refine OW.nil ?_
   refine CW.ret ?_
   obtain rfl := Option.some.inj hm
   exact RR1 rfl rfl ⟨rfl, hL.fresh 0 rfl [] (by decide) (by decide) rfl⟩
 intro s_l1 F112 wd113 t103 hJ hm hr104
 unfold M.spec_CurveText_l1 at hm
 obtain ⟨f114, f115, f116, hL⟩ := hJ
 refine CW.seq ?_
 refine CW.seqJ (fun (s_j1 : Bool) (F : Fr) (w : World) => F 0 = v1 ∧ F 3 = (.string s_l1.1) ∧ F 4 = (.int .i64 s_l1.2) ∧ F 12 = (.bool s_j1) ∧ Hp w0 [Ent.snap w0 w0.heap.size] w) (fun s_j1 => M.spec_CurveText_j1 a0 s_l1 s_j1 = some t103) ?_ ?_
 · refine CW.regionL ?_
   refine OV (.int .i64 s_l1.2) rfl (x_mv f116) ?_
   refine OV v1 rfl (x_mv f114) ?_
   refine OV (.int .i64 (a0.length : Int)) rfl (x_lenR U24 rfl (hL.rdS 0 rfl h2)) ?_
   refine OV (.bool (decide (s_l1.2 < (a0.length : Int)))) rfl (x_lss rfl rfl) ?_
   refine OV (.bool (decide (s_l1.2 < (a0.length : Int)))) rfl (x_move) ?_
   refine ifB_elim hm (fun hb161 hm => ?_) (fun hb161 hm => ?_)
   · refine OW.cons (OP.yes' rfl rfl hb161 (OP.val (v := v1) rfl (x_mv f114) ?_))
     obtain ⟨x162, hx163, hm⟩ := bndE hm
     refine OW.cons (OP.yes' rfl rfl hb161 (OP.call rfl (x_call (vs := [v1]) Tryd_C21 ⟨rfl, trivial⟩) (M.spec_IsCurve_ok _ a0 (hL.rdS 0 rfl h2) hx163) ?_))
     rintro e164 wd165 ⟨rfl, hF166⟩
     refine ⟨_, rfl, ?_⟩
     have hL := hL.pushAll hF166
     simp only [lA, lB, lC, lD] at hL
     refine OV (.bool x162) rfl (x_pickT' rfl hb161 rfl) ?_
     refine OW.nil ?_
     exact ⟨x162, hm, ⟨f114, f115, f116, rfl, hL⟩⟩
   refine OW.cons (OP.no' rfl rfl hb161 rfl ?_)
   refine OW.cons (OP.no' rfl rfl hb161 rfl ?_)
   refine OV (.bool false) rfl (x_pickF' rfl hb161 rfl) ?_
   refine OW.nil ?_
   exact ⟨false, hm, ⟨f114, f115, f116, rfl, hL⟩⟩
 intro s_j1 F123 wd124 hJ hm
 unfold M.spec_CurveText_j1 at hm
 obtain ⟨f125, f126, f127, f128, hL⟩ := hJ
 refine CW.condM (t := s_j1) f128 hm (fun hb129 hm => ?_) (fun hb129 hm => ?_)
 · refine CW.skip ?_
   refine CW.seq ?_
   refine CW.block ?_
   refine CW.seqJ (fun (s_j2 : ByteArray) (F : Fr) (w : World) => F 0 = v1 ∧ F 3 = (.string s_j2) ∧ F 4 = (.int .i64 s_l1.2) ∧ Hp w0 [Ent.snap w0 w0.heap.size] w) (fun s_j2 => M.spec_CurveText_j2 a0 s_l1 s_j2 = some t103) ?_ ?_
   · refine CSR ?_
     refine OV (.int .i64 s_l1.2) rfl (x_mv f127) ?_
     refine OV (.bool (decide (0 < s_l1.2))) rfl (x_gtr rfl rfl) ?_
     refine OW.nil ?_
     refine CW.condM (t := decide (0 < s_l1.2)) rfl hm (fun hb159 hm => ?_) (fun hb159 hm => ?_)
     · refine CW.regionL ?_
       refine OV (.string s_l1.1) rfl (x_mv f126) ?_
       obtain ⟨hc160, hm⟩ := chkE hm
       refine OV (.string (s_l1.1 ++ (⟨#[32]⟩ : ByteArray))) rfl (x_addT rfl rfl hc160) ?_
       refine OV (.string (s_l1.1 ++ (⟨#[32]⟩ : ByteArray))) rfl (x_assign) ?_
       refine OW.nil ?_
       exact ⟨s_l1.1 ++ (⟨#[32]⟩ : ByteArray), hm, ⟨f125, rfl, f127, hL⟩⟩
     refine CW.skip ?_
     exact ⟨s_l1.1, hm, ⟨f125, f126, f127, hL⟩⟩
   intro s_j2 F132 wd133 hJ hm
   unfold M.spec_CurveText_j2 at hm
   obtain ⟨f134, f135, f136, hL⟩ := hJ
   refine CW.draw Tryd_mixed ?_
   have hL := hL.call (Mod.drew _)
   refine DW.pre (fuel := 0) (fin := bma 17 131071) (C := fun w' => Mod None_ _ w') [0, 1, 2, 3, 4, 5, 6, 7, 8, 9, 10, 11, 12, 13, 14, 15, 16] (Mod.refl _ _) (by kernel_rfl) (by kernel_rfl) ?_
   refine QW.cons rfl (QP.val (v := (.string s_j2)) rfl (fun w' hm' => x_mv f135) ?_)
   refine QW.cons rfl (QP.val (v := v1) rfl (fun w' hm' => x_mv f134) ?_)
   refine QW.cons rfl (QP.val (v := (.int .i64 s_l1.2)) rfl (fun w' hm' => x_mv f136) ?_)
   obtain ⟨x137, ha138, hm⟩ := bndE hm
   obtain ⟨hz139, ha143⟩ := idxE ha138
   obtain ⟨b140, q141, hix142⟩ := rdL_ix (hL.rdS 0 rfl h2) hz139 ha143
   refine QW.cons rfl (QP.val (v := (.pointer (some ⟨b140, q141, none⟩))) rfl (fun w' hm' => x_ix U24 Tryd_T32 rfl rfl hix142) ?_)
   refine QW.cons rfl (QP.val (v := (.pointer (some ⟨b140, q141, none⟩))) rfl (fun w' hm' => x_fieldAddr (fsz := 1) q141 0 q141 U32 rfl Tryd_T2 rfl rfl rfl) ?_)
   refine QW.cons rfl (QP.val (v := (.int .i64 x137.Wind)) rfl (fun w' hm' => x_load1 U2 rfl rfl (rdF_cells ((hL.call hm').rdS 0 rfl h2) hix142 ha143 0 _ rfl)) ?_)
   obtain ⟨x144, hx145, hm⟩ := bndE hm
   refine QW.cons rfl (QP.call (v := (.string x144)) rfl (fun w' hm' => x_call (vs := [(.int .i64 x137.Wind)]) Tryd_C26 ⟨rfl, trivial⟩) (fun w' hm' => (M.spec_l01Number_ok w' x137.Wind hx145).mono (fun e w'' h => ⟨h.1, hm'.trans h.2.mod⟩)) ?_)
   obtain ⟨hc146, hm⟩ := chkE hm
   refine QW.cons rfl (QP.val (v := (.string (s_j2 ++ x144))) rfl (fun w' hm' => x_addT rfl rfl hc146) ?_)
   obtain ⟨hc147, hm⟩ := chkE hm
   refine QW.cons rfl (QP.val (v := (.string ((s_j2 ++ x144) ++ (⟨#[58]⟩ : ByteArray)))) rfl (fun w' hm' => x_addT rfl rfl hc147) ?_)
   refine QW.cons rfl (QP.val (v := v1) rfl (fun w' hm' => x_mv f134) ?_)
   refine QW.cons rfl (QP.val (v := (.int .i64 s_l1.2)) rfl (fun w' hm' => x_mv f136) ?_)
   obtain ⟨x148, ha149, hm⟩ := bndE hm
   obtain ⟨hz150, ha154⟩ := idxE ha149
   obtain ⟨b151, q152, hix153⟩ := rdL_ix (hL.rdS 0 rfl h2) hz150 ha154
   refine QW.cons rfl (QP.val (v := (.pointer (some ⟨b151, q152, none⟩))) rfl (fun w' hm' => x_ix U24 Tryd_T32 rfl rfl hix153) ?_)
   refine QW.cons rfl (QP.val (v := (.pointer (some ⟨b151, q152 + 1, none⟩))) rfl (fun w' hm' => x_fieldAddr (fsz := 1) q152 1 (q152 + 1) U32 rfl Tryd_T2 rfl rfl rfl) ?_)
   refine QW.cons rfl (QP.val (v := (.int .i64 x148.Pace)) rfl (fun w' hm' => x_load1 U2 rfl rfl (rdF_cells ((hL.call hm').rdS 0 rfl h2) hix153 ha154 1 _ rfl)) ?_)
   obtain ⟨x155, hx156, hm⟩ := bndE hm
   refine QW.cons rfl (QP.call (v := (.string x155)) rfl (fun w' hm' => x_call (vs := [(.int .i64 x148.Pace)]) Tryd_C26 ⟨rfl, trivial⟩) (fun w' hm' => (M.spec_l01Number_ok w' x148.Pace hx156).mono (fun e w'' h => ⟨h.1, hm'.trans h.2.mod⟩)) ?_)
   obtain ⟨hc157, hm⟩ := chkE hm
   refine QW.cons rfl (QP.val (v := (.string (((s_j2 ++ x144) ++ (⟨#[58]⟩ : ByteArray)) ++ x155))) rfl (fun w' hm' => x_addT rfl rfl hc157) ?_)
   refine QW.cons rfl (QP.val (v := (.string (((s_j2 ++ x144) ++ (⟨#[58]⟩ : ByteArray)) ++ x155))) rfl (fun w' hm' => x_assign) ?_)
   refine QW.nil ?_
   intro wd158 hmod
   have hL := hL.call hmod
   refine DW.done (by kernel_rfl) ?_
   refine CW.regionL ?_
   refine OV (.int .i64 s_l1.2) rfl (x_mv f136) ?_
   refine OV (.int .i64 (w64 (s_l1.2 + 1))) rfl (x_add rfl rfl) ?_
   refine OV (.int .i64 (w64 (s_l1.2 + 1))) rfl (x_assign) ?_
   refine OW.nil ?_
   obtain rfl := Option.some.inj hm
   exact ⟨_, rfl, ⟨f134, rfl, rfl, hL⟩⟩
 refine CW.exit ?_
 refine XJ.hit ?_
 obtain rfl := Option.some.inj hm
 exact ⟨_, rfl, ⟨f125, f126, f127, hL⟩⟩

theorem M.impl_isStrength_ok (w0 : World) (a0 : Int) {r : Bool} (hm : M.impl_isStrength a0 = some r) :
    Calls Tryd.prog 27 #[(.int .i64 a0)] w0 fun e w' => e = .returned (.bool r) ∧ Fresh w0 w' [] := by
 unfold M.impl_isStrength at hm
 refine calls_CW (args := [(.int .i64 a0)]) Tryd.func27 rfl rfl rfl ?_
 have hL := Hp.start w0
 refine CSR ?_
 refine OV (.bool false) rfl (x_assign) ?_
 refine ONR ?_
 refine OV (.int .i64 a0) rfl (x_move) ?_
 obtain ⟨x1, hx2, hm⟩ := bndE hm
 refine OW.cons (OP.call rfl (x_call (vs := [(.int .i64 a0), (.int .i64 0), (.int .i64 1000)]) Tryd_C16 ⟨rfl, rfl, rfl, trivial⟩) (M.impl_within_ok _ a0 0 1000 hx2) ?_)
 rintro e3 wd4 ⟨rfl, hF5⟩
 refine ⟨_, rfl, ?_⟩
 have hL := hL.pushAll hF5
 simp only [lA, lB, lC, lD] at hL
 refine OV (.bool x1) rfl (x_assign) ?_
 refine OW.nil ?_
 refine CW.ret ?_
 obtain rfl := Option.some.inj hm
 exact RR1 rfl rfl ⟨rfl, hL.fresh 0 rfl [] (by decide) (by decide) rfl⟩

theorem M.impl_PaceAt_ok (w0 : World) (a0 : List CurvePoint) {v1 : Value} (h2 : rdL (· < w0.heap.size) w0 v1 a0) (a1 : Int) {r : Int × Int} (hm : M.impl_PaceAt a0 a1 = some r) :
    Calls Tryd.prog 10 #[v1, (.int .i64 a1)] w0 fun e w' => e = .returned (.tuple #[(.int .i64 r.1), (.int .i64 r.2)]) ∧ Fresh w0 w' [] := by
 unfold M.impl_PaceAt at hm
 refine calls_CW (args := [v1, (.int .i64 a1)]) Tryd.func10 rfl rfl rfl ?_
 have hL := Hp.start w0
 refine CSR ?_
 refine OV (.int .i64 0) rfl (x_assign) ?_
 refine OV (.int .i64 0) rfl (x_assign) ?_
 refine ONS ?_
 refine CSR ?_
 refine OV v1 rfl (x_move) ?_
 obtain ⟨x3, hx4, hm⟩ := bndE hm
 refine OW.cons (OP.call rfl (x_call (vs := [v1]) Tryd_C15 ⟨rfl, trivial⟩) (M.impl_IsCurve_ok _ a0 (hL.rdS 0 rfl h2) hx4) ?_)
 rintro e5 wd6 ⟨rfl, hF7⟩
 refine ⟨_, rfl, ?_⟩
 have hL := hL.pushAll hF7
 simp only [lA, lB, lC, lD] at hL
 refine OV (.bool (!x3)) rfl (x_not rfl) ?_
 refine OW.nil ?_
 refine CW.condM (t := !x3) rfl hm (fun hb8 hm => ?_) (fun hb8 hm => ?_)
 · refine CSR ?_
   refine OV (.int .i64 0) rfl (x_assign) ?_
   refine OV (.int .i64 1) rfl (x_assign) ?_
   refine OW.nil ?_
   refine CW.ret ?_
   obtain rfl := Option.some.inj hm
   exact RR2 rfl rfl rfl ⟨rfl, hL.fresh 0 rfl [] (by decide) (by decide) rfl⟩
 refine CW.skip ?_
 refine CW.seq ?_
 refine CSR ?_
 refine OV (.int .i64 a1) rfl (x_move) ?_
 obtain ⟨x9, hx10, hm⟩ := bndE hm
 refine OW.cons (OP.call rfl (x_call (vs := [(.int .i64 a1)]) Tryd_C27 ⟨rfl, trivial⟩) (M.impl_isStrength_ok _ a1 hx10) ?_)
 rintro e11 wd12 ⟨rfl, hF13⟩
 refine ⟨_, rfl, ?_⟩
 have hL := hL.pushAll hF13
 simp only [lA, lB, lC, lD] at hL
 refine OV (.bool (!x9)) rfl (x_not rfl) ?_
 refine OW.nil ?_
 refine CW.condM (t := !x9) rfl hm (fun hb14 hm => ?_) (fun hb14 hm => ?_)
 · refine CSR ?_
   refine OV (.int .i64 0) rfl (x_assign) ?_
   refine OV (.int .i64 2) rfl (x_assign) ?_
   refine OW.nil ?_
   refine CW.ret ?_
   obtain rfl := Option.some.inj hm
   exact RR2 rfl rfl rfl ⟨rfl, hL.fresh 0 rfl [] (by decide) (by decide) rfl⟩
 refine CW.skip ?_
 refine CSR ?_
 refine OV v1 rfl (x_move) ?_
 refine OV (.int .i64 a1) rfl (x_move) ?_
 obtain ⟨x15, hx16, hm⟩ := bndE hm
 refine OW.cons (OP.call rfl (x_call (vs := [v1, (.int .i64 a1)]) Tryd_C19 ⟨rfl, rfl, trivial⟩) (M.impl_paceAt_ok _ a0 (hL.rdS 0 rfl h2) a1 hx16) ?_)
 rintro e17 wd18 ⟨rfl, hF19⟩
 refine ⟨_, rfl, ?_⟩
 have hL := hL.pushAll hF19
 simp only [lA, lB, lC, lD] at hL
 refine OV (.int .i64 x15) rfl (x_assign) ?_
 refine OV (.int .i64 0) rfl (x_assign) ?_
 refine OW.nil ?_
 refine CW.ret ?_
 obtain rfl := Option.some.inj hm
 exact RR2 rfl rfl rfl ⟨rfl, hL.fresh 0 rfl [] (by decide) (by decide) rfl⟩

theorem M.strings_Split_ok (w0 : World) (htab : TabsR Tryd.prog (cutLaid_ren.g 1) (parseLaid_ren.g 15) (parseLaid_ren.g 16) w0) (a0 a1 : ByteArray) {r : List ByteArray} (hm : M.strings_Split a0 a1 = some r) :
    Calls Tryd.prog 41 #[(.string a0), (.string a1)] w0 fun e w' => ∃ (rv0 : Value) (rS0 : Nat → Prop), e = .returned rv0 ∧ Fresh w0 w' [Ent.own 9 rS0 rv0 r] := by
 obtain ⟨m, hx⟩ := htab.mx
 exact split_fits hm (fun q1 q2 => Any.strings_Split splitLaid (by kernel_rfl) a0 a1 m w0 q1 hx q2)

theorem M.impl_wordsOf_ok (w0 : World) (htab : TabsR Tryd.prog (cutLaid_ren.g 1) (parseLaid_ren.g 15) (parseLaid_ren.g 16) w0) (a0 : ByteArray) {r : (List ByteArray)} (hm : M.impl_wordsOf a0 = some r) :
    Calls Tryd.prog 28 #[(.string a0)] w0 fun e w' => ∃ (rv0 : Value) (rS0 : Nat → Prop), e = .returned rv0 ∧ Fresh w0 w' [Ent.own 9 rS0 rv0 r] := by
 unfold M.impl_wordsOf at hm
 refine calls_CW (args := [(.string a0)]) Tryd.func28 rfl rfl rfl ?_
 have hL := Hp.start w0
 refine CSR ?_
 refine OV (.slice none 0 0) rfl (x_assign) ?_
 refine ONR ?_
 refine OV (.string a0) rfl (x_move) ?_
 obtain ⟨x1, hx2, hm⟩ := bndE hm
 refine OW.cons (OP.call rfl (x_call (vs := [(.string a0), (.string (⟨#[32]⟩ : ByteArray))]) Tryd_C41 ⟨rfl, rfl, trivial⟩) (M.strings_Split_ok _ (hL.tabR 0 rfl rfl htab) a0 (⟨#[32]⟩ : ByteArray) hx2) ?_)
 rintro e5 wd6 ⟨v4, S3, rfl, hF7⟩
 refine ⟨_, rfl, ?_⟩
 have hL := hL.pushAll hF7
 simp only [lA, lB, lC, lD] at hL
 refine OV v4 rfl (x_assign) ?_
 refine OW.nil ?_
 refine CW.ret ?_
 obtain rfl := Option.some.inj hm
 exact RR1 rfl rfl ⟨v4, S3, rfl, hL.fresh 1 rfl [0] (by decide) (by decide) rfl⟩

theorem M.strings_Cut_ok (w0 : World) (htab : TabsR Tryd.prog (cutLaid_ren.g 1) (parseLaid_ren.g 15) (parseLaid_ren.g 16) w0) (a0 a1 : ByteArray) {r : ByteArray × ByteArray × Bool} (hm : M.strings_Cut a0 a1 = some r) :
    Calls Tryd.prog 29 #[(.string a0), (.string a1)] w0 fun e w' => e = .returned (.tuple #[.string r.1, .string r.2.1, .bool r.2.2]) ∧ Fresh w0 w' [] := by
 obtain ⟨m, hx⟩ := htab.mx
 exact cut_fits hm (fun q1 => Any.strings_Cut { cutLaid with } a0 a1 m w0 q1 hx)

theorem M.strconv_ParseInt_ok (w0 : World) (htab : TabsR Tryd.prog (cutLaid_ren.g 1) (parseLaid_ren.g 15) (parseLaid_ren.g 16) w0) (a0 : ByteArray) (a1 a2 : Int) {r : Int × Bool} (hm : M.strconv_ParseInt a0 a1 a2 = some r) :
    Calls Tryd.prog 43 #[(.string a0), (.int .i64 a1), (.int .i64 a2)] w0 fun e w' => ∃ rv0 : Value, e = .returned (.tuple #[.int .i64 r.1, rv0]) ∧ errV rv0 r.2 ∧ Fresh w0 w' [] := by
 obtain ⟨v1, g1, k1⟩ := htab.es
 obtain ⟨v2, g2, k2⟩ := htab.er
 exact parse_fits hm (fun v q1 q2 => Any.strconv_ParseInt_10_at64_ok parseLaid a0 q1 v q2 w0)
   (fun q1 q2 => (Any.strconv_ParseInt_10_at64_syntax parseLaid a0 q1 q2 v1 w0 g1 k1).mono fun e w' ⟨N, he, _, _, hb⟩ => ⟨_, _, he, hb⟩)
   (fun q1 q2 => (Any.strconv_ParseInt_10_at64_range parseLaid a0 q1 q2 v2 w0 g2 k2).mono fun e w' ⟨N, he, _, _, hb⟩ => ⟨_, _, he, hb⟩)

theorem M.impl_number_ok (w0 : World) (htab : TabsR Tryd.prog (cutLaid_ren.g 1) (parseLaid_ren.g 15) (parseLaid_ren.g 16) w0) (a0 : ByteArray) {r : Int × Bool} (hm : M.impl_number a0 = some r) :
    Calls Tryd.prog 30 #[(.string a0)] w0 fun e w' => e = .returned (.tuple #[(.int .i64 r.1), (.bool r.2)]) ∧ Fresh w0 w' [] := by
 unfold M.impl_number at hm
 refine calls_CW (args := [(.string a0)]) Tryd.func30 rfl rfl rfl ?_
 have hL := Hp.start w0
 refine CSR ?_
 refine OV (.int .i64 0) rfl (x_assign) ?_
 refine OV (.bool false) rfl (x_assign) ?_
 refine ONR ?_
 refine OV (.string a0) rfl (x_move) ?_
 obtain ⟨x1, hx2, hm⟩ := bndE hm
 refine OW.cons (OP.call rfl (x_call (vs := [(.string a0), (.int .i64 10), (.int .i64 64)]) Tryd_C43 ⟨rfl, rfl, rfl, trivial⟩) (M.strconv_ParseInt_ok _ (hL.tabR 0 rfl rfl htab) a0 10 64 hx2) ?_)
 rintro e5 wd6 ⟨v3, rfl, he4, hF7⟩
 refine ⟨_, rfl, ?_⟩
 have hL := hL.pushAll hF7
 simp only [lA, lB, lC, lD] at hL
 refine OV (.tuple #[(.int .i64 x1.1), v3]) rfl (x_move) ?_
 refine OV (.int .i64 x1.1) rfl (x_extract rfl rfl) ?_
 refine OV v3 rfl (x_extract rfl rfl) ?_
 refine OV (.int .i64 x1.1) rfl (x_assign) ?_
 refine OV v3 rfl (x_assign) ?_
 refine ONS ?_
 refine CW.seqJ (fun (s_j1 : Bool) (F : Fr) (w : World) => F 4 = (.int .i64 x1.1) ∧ F 23 = (.bool s_j1) ∧ Hp w0 [Ent.snap w0 w0.heap.size] w) (fun s_j1 => M.impl_number_j1 x1 s_j1 = some r) ?_ ?_
 · refine CW.regionL ?_
   refine OV v3 rfl (x_move) ?_
   refine OV (.bool x1.2) rfl (x_neqE (by kernel_rfl) rfl he4) ?_
   refine OV (.bool x1.2) rfl (x_move) ?_
   refine ifB_elim hm (fun hb20 hm => ?_) (fun hb20 hm => ?_)
   · refine OW.cons (OP.no' rfl rfl hb20 rfl ?_)
     refine OW.cons (OP.no' rfl rfl hb20 rfl ?_)
     refine OW.cons (OP.no' rfl rfl hb20 rfl ?_)
     refine OV (.bool true) rfl (x_pickT' rfl hb20 rfl) ?_
     refine OV (.bool true) rfl (x_move) ?_
     refine OW.cons (OP.no' rfl rfl rfl rfl ?_)
     refine OW.cons (OP.no' rfl rfl rfl rfl ?_)
     refine OW.cons (OP.no' rfl rfl rfl rfl ?_)
     refine OW.cons (OP.no' rfl rfl rfl rfl ?_)
     refine OV (.bool true) rfl (x_pickT' rfl rfl rfl) ?_
     refine OW.nil ?_
     exact ⟨true, hm, ⟨rfl, rfl, hL⟩⟩
   refine OW.cons (OP.yes' rfl rfl hb20 (OP.val (v := (.string a0)) rfl (x_move) ?_))
   refine OW.cons (OP.yes' rfl rfl hb20 (OP.val (v := (.int .i64 (a0.size : Int))) rfl (x_lens U9 rfl) ?_))
   refine OW.cons (OP.yes' rfl rfl hb20 (OP.val (v := (.bool (decide (19 < (a0.size : Int))))) rfl (x_gtr rfl rfl) ?_))
   refine OV (.bool (decide (19 < (a0.size : Int)))) rfl (x_pickF' rfl hb20 rfl) ?_
   refine OV (.bool (decide (19 < (a0.size : Int)))) rfl (x_move) ?_
   refine ifB_elim hm (fun hb21 hm => ?_) (fun hb21 hm => ?_)
   · refine OW.cons (OP.no' rfl rfl hb21 rfl ?_)
     refine OW.cons (OP.no' rfl rfl hb21 rfl ?_)
     refine OW.cons (OP.no' rfl rfl hb21 rfl ?_)
     refine OW.cons (OP.no' rfl rfl hb21 rfl ?_)
     refine OV (.bool true) rfl (x_pickT' rfl hb21 rfl) ?_
     refine OW.nil ?_
     exact ⟨true, hm, ⟨rfl, rfl, hL⟩⟩
   refine OW.cons (OP.yes' rfl rfl hb21 (OP.val (v := (.int .i64 x1.1)) rfl (x_move) ?_))
   obtain ⟨x22, hx23, hm⟩ := bndE hm
   refine OW.cons (OP.yes' rfl rfl hb21 (OP.call rfl (x_call (vs := [(.int .i64 x1.1)]) Tryd_C24 ⟨rfl, trivial⟩) (M.impl_text_ok _ (hL.tabR 0 rfl rfl htab) x1.1 hx23) ?_))
   rintro e24 wd25 ⟨rfl, hF26⟩
   refine ⟨_, rfl, ?_⟩
   have hL := hL.pushAll hF26
   simp only [lA, lB, lC, lD] at hL
   refine OW.cons (OP.yes' rfl rfl hb21 (OP.val (v := (.string a0)) rfl (x_move) ?_))
   refine OW.cons (OP.yes' rfl rfl hb21 (OP.val (v := (.bool (!(sEq x22 a0)))) rfl (x_neqT rfl rfl) ?_))
   refine OV (.bool (!(sEq x22 a0))) rfl (x_pickF' rfl hb21 rfl) ?_
   refine OW.nil ?_
   exact ⟨!(sEq x22 a0), hm, ⟨rfl, rfl, hL⟩⟩
 intro s_j1 F15 wd16 hJ hm
 unfold M.impl_number_j1 at hm
 obtain ⟨f17, f18, hL⟩ := hJ
 refine CW.condM (t := s_j1) f18 hm (fun hb19 hm => ?_) (fun hb19 hm => ?_)
 · refine CSR ?_
   refine OV (.int .i64 0) rfl (x_assign) ?_
   refine OV (.bool false) rfl (x_assign) ?_
   refine OW.nil ?_
   refine CW.ret ?_
   obtain rfl := Option.some.inj hm
   exact RR2 rfl rfl rfl ⟨rfl, hL.fresh 0 rfl [] (by decide) (by decide) rfl⟩
 refine CW.skip ?_
 refine CSR ?_
 refine OV (.int .i64 x1.1) rfl (x_mv f17) ?_
 refine OV (.int .i64 x1.1) rfl (x_assign) ?_
 refine OV (.bool true) rfl (x_assign) ?_
 refine OW.nil ?_
 refine CW.ret ?_
 obtain rfl := Option.some.inj hm
 exact RR2 rfl rfl rfl ⟨rfl, hL.fresh 0 rfl [] (by decide) (by decide) rfl⟩

theorem M.impl_ReadCurve_ok (w0 : World) (htab : TabsR Tryd.prog (cutLaid_ren.g 1) (parseLaid_ren.g 15) (parseLaid_ren.g 16) w0) (a0 : ByteArray) {r : (List CurvePoint) × Bool} (hm : M.impl_ReadCurve a0 = some r) :
    Calls Tryd.prog 11 #[(.string a0)] w0 fun e w' => ∃ (rv0 : Value) (rS0 : Nat → Prop), e = .returned (.tuple #[rv0, (.bool r.2)]) ∧ Fresh w0 w' [Ent.own 32 rS0 rv0 r.1] := by
 unfold M.impl_ReadCurve at hm
 refine calls_CW (args := [(.string a0)]) Tryd.func11 rfl rfl rfl ?_
 have hL := Hp.start w0
 refine CSR ?_
 refine OV (.slice none 0 0) rfl (x_assign) ?_
 refine OV (.bool false) rfl (x_assign) ?_
 refine ONR ?_
 refine OW.cons (S_lit ([] : List CurvePoint) hL U24 Tryd_T32 rfl (by decide) (by first | (simp [Instr.fill, madeCells, Value.cells, ev, upd, Flat.enc, Flat.sz]; done) | rfl | kernel_rfl) rfl rfl ?_)
 intro wd1 v2 S3 hL
 refine OV v2 rfl (x_assign) ?_
 refine ONS ?_
 refine CSR ?_
 refine OV (.string a0) rfl (x_move) ?_
 obtain ⟨x4, hx5, hm⟩ := bndE hm
 refine OW.cons (OP.call rfl (x_call (vs := [(.string a0)]) Tryd_C28 ⟨rfl, trivial⟩) (M.impl_wordsOf_ok _ (hL.tabR 1 rfl rfl htab) a0 hx5) ?_)
 rintro e8 wd9 ⟨v7, S6, rfl, hF10⟩
 refine ⟨_, rfl, ?_⟩
 have hL := hL.pushAll hF10
 simp only [lA, lB, lC, lD] at hL
 refine OV (.int .i64 (x4.length : Int)) rfl (x_lenR U49 rfl (hL.rdO 0 rfl)) ?_
 refine OV (.int .i64 0) rfl (x_move) ?_
 refine OW.nil ?_
 obtain ⟨o101, ho102, hm⟩ := bndE hm
 have hL := hL.sel [1, 0, 2] (by decide) rfl
 refine CW.loopB (fun (s_l1 : (List CurvePoint) × Int) (F : Fr) (w : World) => ∃ (v97 : Value) (S98 : Nat → Prop), F 4 = v97 ∧ F 16 = v7 ∧ F 17 = (.int .i64 (x4.length : Int)) ∧ F 18 = (.int .i64 s_l1.2) ∧ Hp w0 [Ent.own 32 S98 v97 s_l1.1, Ent.own 9 S6 v7 x4, Ent.snap w0 w0.heap.size] w) (fun o => outc o (fun x => some x) (fun s => M.impl_ReadCurve_a1 s) = some r) ho102 hm ⟨v2, S3, rfl, rfl, rfl, rfl, hL⟩ ?_ ?_
 · intro s_l1 F103 wd104 hJ hm
   have hm := outcE hm
   have hm : M.impl_ReadCurve_a1 s_l1 = some r := hm
   unfold M.impl_ReadCurve_a1 at hm
   obtain ⟨v97, S98, f105, f106, f107, f108, hL⟩ := hJ
   refine CW.seq ?_
   refine CSR ?_
   refine OV v97 rfl (x_mv f105) ?_
   obtain ⟨x109, hx110, hm⟩ := bndE hm
   refine OW.cons (OP.call rfl (x_call (vs := [v97]) Tryd_C15 ⟨rfl, trivial⟩) (M.impl_IsCurve_ok _ s_l1.1 (hL.rdO 0 rfl) hx110) ?_)
   rintro e111 wd112 ⟨rfl, hF113⟩
   refine ⟨_, rfl, ?_⟩
   have hL := hL.pushAll hF113
   simp only [lA, lB, lC, lD] at hL
   refine OV (.bool (!x109)) rfl (x_not rfl) ?_
   refine OW.nil ?_
   refine CW.condM (t := !x109) rfl hm (fun hb114 hm => ?_) (fun hb114 hm => ?_)
   · refine CSR ?_
     refine OV (.slice none 0 0) rfl (x_assign) ?_
     refine OV (.bool false) rfl (x_assign) ?_
     refine OW.nil ?_
     refine CW.ret ?_
     have hL := hL.pushNil CurvePoint 32
     obtain rfl := Option.some.inj hm
     exact RR2 rfl rfl rfl ⟨(.slice none 0 0), None_, rfl, hL.fresh 3 rfl [0] (by decide) (by decide) rfl⟩
   refine CW.skip ?_
   refine CSR ?_
   refine OV v97 rfl (x_mv f105) ?_
   refine OV v97 rfl (x_assign) ?_
   refine OV (.bool true) rfl (x_assign) ?_
   refine OW.nil ?_
   refine CW.ret ?_
   obtain rfl := Option.some.inj hm
   exact RR2 rfl rfl rfl ⟨v97, S98, rfl, hL.fresh 2 rfl [0] (by decide) (by decide) rfl⟩
 intro s_l1 F115 wd116 t99 hJ hm hr100
 unfold M.impl_ReadCurve_l1 at hm
 obtain ⟨v97, S98, f117, f118, f119, f120, hL⟩ := hJ
 refine CSR ?_
 refine OV (.bool (decide (s_l1.2 < (x4.length : Int)))) rfl (x_lss f120 f119) ?_
 refine ONS ?_
 refine CW.condM (t := decide (s_l1.2 < (x4.length : Int))) rfl hm (fun hb121 hm => ?_) (fun hb121 hm => ?_)
 · refine CW.skip ?_
   refine CW.seq ?_
   refine CW.block ?_
   refine CSR ?_
   obtain ⟨x122, ha123, hm⟩ := bndE hm
   obtain ⟨hz124, ha128⟩ := idxE ha123
   obtain ⟨b125, q126, hix127⟩ := rdL_ix (hL.rdO 1 rfl) hz124 ha128
   refine OV (.pointer (some ⟨b125, q126, none⟩)) rfl (x_ix U49 Tryd_T9 f118 f120 hix127) ?_
   refine OV (.string x122) rfl (x_load1 U9 rfl rfl (rdF_cells (hL.rdO 1 rfl) hix127 ha128 0 _ rfl)) ?_
   refine OV (.string x122) rfl (x_assign) ?_
   refine ONR ?_
   refine OV (.string x122) rfl (x_move) ?_
   obtain ⟨x129, hx130, hm⟩ := bndE hm
   refine OW.cons (OP.call rfl (x_call (vs := [(.string x122), (.string (⟨#[58]⟩ : ByteArray))]) Tryd_C29 ⟨rfl, rfl, trivial⟩) (M.strings_Cut_ok _ (hL.tabR 2 rfl rfl htab) x122 (⟨#[58]⟩ : ByteArray) hx130) ?_)
   rintro e131 wd132 ⟨rfl, hF133⟩
   refine ⟨_, rfl, ?_⟩
   have hL := hL.pushAll hF133
   simp only [lA, lB, lC, lD] at hL
   refine OV (.tuple #[(.string x129.1), (.string x129.2.1), (.bool x129.2.2)]) rfl (x_move) ?_
   refine OV (.string x129.1) rfl (x_extract rfl rfl) ?_
   refine OV (.string x129.2.1) rfl (x_extract rfl rfl) ?_
   refine OV (.bool x129.2.2) rfl (x_extract rfl rfl) ?_
   refine OV (.string x129.1) rfl (x_assign) ?_
   refine OV (.string x129.2.1) rfl (x_assign) ?_
   refine OV (.bool x129.2.2) rfl (x_assign) ?_
   refine ONR ?_
   refine OV (.string x129.1) rfl (x_move) ?_
   obtain ⟨x134, hx135, hm⟩ := bndE hm
   refine OW.cons (OP.call rfl (x_call (vs := [(.string x129.1)]) Tryd_C30 ⟨rfl, trivial⟩) (M.impl_number_ok _ (hL.tabR 2 rfl rfl htab) x129.1 hx135) ?_)
   rintro e136 wd137 ⟨rfl, hF138⟩
   refine ⟨_, rfl, ?_⟩
   have hL := hL.pushAll hF138
   simp only [lA, lB, lC, lD] at hL
   refine OV (.tuple #[(.int .i64 x134.1), (.bool x134.2)]) rfl (x_move) ?_
   refine OV (.int .i64 x134.1) rfl (x_extract rfl rfl) ?_
   refine OV (.bool x134.2) rfl (x_extract rfl rfl) ?_
   refine OV (.int .i64 x134.1) rfl (x_assign) ?_
   refine OV (.bool x134.2) rfl (x_assign) ?_
   refine ONR ?_
   refine OV (.string x129.2.1) rfl (x_move) ?_
   obtain ⟨x139, hx140, hm⟩ := bndE hm
   refine OW.cons (OP.call rfl (x_call (vs := [(.string x129.2.1)]) Tryd_C30 ⟨rfl, trivial⟩) (M.impl_number_ok _ (hL.tabR 2 rfl rfl htab) x129.2.1 hx140) ?_)
   rintro e141 wd142 ⟨rfl, hF143⟩
   refine ⟨_, rfl, ?_⟩
   have hL := hL.pushAll hF143
   simp only [lA, lB, lC, lD] at hL
   refine OV (.tuple #[(.int .i64 x139.1), (.bool x139.2)]) rfl (x_move) ?_
   refine OV (.int .i64 x139.1) rfl (x_extract rfl rfl) ?_
   refine OV (.bool x139.2) rfl (x_extract rfl rfl) ?_
   refine OV (.int .i64 x139.1) rfl (x_assign) ?_
   refine OV (.bool x139.2) rfl (x_assign) ?_
   refine ONS ?_
   refine CW.seqJ (fun (s_j1 : Bool) (F : Fr) (w : World) => F 4 = v97 ∧ F 10 = (.int .i64 x134.1) ∧ F 12 = (.int .i64 x139.1) ∧ F 16 = v7 ∧ F 17 = (.int .i64 (x4.length : Int)) ∧ F 18 = (.int .i64 s_l1.2) ∧ F 43 = (.bool s_j1) ∧ Hp w0 [Ent.own 32 S98 v97 s_l1.1, Ent.own 9 S6 v7 x4, Ent.snap w0 w0.heap.size] w) (fun s_j1 => M.impl_ReadCurve_j1 s_l1 x134 x139 s_j1 = some t99) ?_ ?_
   · refine CW.regionL ?_
     refine OV (.bool x134.2) rfl (x_move) ?_
     refine OV (.bool (!x134.2)) rfl (x_not rfl) ?_
     refine OV (.bool (!x134.2)) rfl (x_move) ?_
     refine ifB_elim hm (fun hb162 hm => ?_) (fun hb162 hm => ?_)
     · refine OW.cons (OP.no' rfl rfl hb162 rfl ?_)
       refine OW.cons (OP.no' rfl rfl hb162 rfl ?_)
       refine OV (.bool true) rfl (x_pickT' rfl hb162 rfl) ?_
       refine OW.nil ?_
       exact ⟨true, hm, ⟨f117, rfl, rfl, f118, f119, f120, rfl, hL⟩⟩
     refine OW.cons (OP.yes' rfl rfl hb162 (OP.val (v := (.bool x139.2)) rfl (x_move) ?_))
     refine OW.cons (OP.yes' rfl rfl hb162 (OP.val (v := (.bool (!x139.2))) rfl (x_not rfl) ?_))
     refine OV (.bool (!x139.2)) rfl (x_pickF' rfl hb162 rfl) ?_
     refine OW.nil ?_
     exact ⟨!x139.2, hm, ⟨f117, rfl, rfl, f118, f119, f120, rfl, hL⟩⟩
   intro s_j1 F145 wd146 hJ hm
   unfold M.impl_ReadCurve_j1 at hm
   obtain ⟨f147, f148, f149, f150, f151, f152, f153, hL⟩ := hJ
   refine CW.condM (t := s_j1) f153 hm (fun hb154 hm => ?_) (fun hb154 hm => ?_)
   · refine CSR ?_
     refine OV (.slice none 0 0) rfl (x_assign) ?_
     refine OV (.bool false) rfl (x_assign) ?_
     refine OW.nil ?_
     refine CW.ret ?_
     have hL := hL.pushNil CurvePoint 32
     obtain rfl := Option.some.inj hm
     have hm := hr100 _ rfl
     obtain rfl := Option.some.inj hm
     exact RR2 rfl rfl rfl ⟨(.slice none 0 0), None_, rfl, hL.fresh 3 rfl [0] (by decide) (by decide) rfl⟩
   refine CW.skip ?_
   refine CW.regionL ?_
   refine OV v97 rfl (x_mv f147) ?_
   refine OV (.int .i64 x134.1) rfl (x_mv f148) ?_
   refine OV (.int .i64 x139.1) rfl (x_mv f149) ?_
   refine OV (.agg #[(.int .i64 x134.1), (.int .i64 x139.1)]) rfl (x_build Tryd_B32 (ps := [(0, (.int .i64 x134.1)), (1, (.int .i64 x139.1))]) ⟨⟨rfl, rfl⟩, ⟨rfl, rfl⟩, trivial⟩ (by simp [Instr.fill, cells_int, cells_bool, cells_string, cells_agg, cells_slice, cells_pointer])) ?_
   refine OW.cons (S_lit ([(CurvePoint.mk x134.1 x139.1)] : List CurvePoint) hL U24 Tryd_T32 rfl (by decide) (by first | (simp [Instr.fill, madeCells, Value.cells, ev, upd, Flat.enc, Flat.sz]; done) | rfl | kernel_rfl) rfl rfl ?_)
   intro wd155 v156 S157 hL
   obtain ⟨hc161, hm⟩ := chkE hm
   refine OW.cons (S_append (ys := ([(CurvePoint.mk x134.1 x139.1)] : List CurvePoint)) hL 1 rfl U24 Tryd_T32 rfl rfl rfl (hL.rdO 0 rfl) hc161 (by decide) rfl ?_)
   intro wd158 v159 S160 hL
   refine OV v159 rfl (x_assign) ?_
   refine OW.nil ?_
   refine CW.regionL ?_
   refine OV (.int .i64 (w64 (s_l1.2 + 1))) rfl (x_add f152 rfl) ?_
   refine OV (.int .i64 (w64 (s_l1.2 + 1))) rfl (x_move) ?_
   refine OW.nil ?_
   have hL := hL.sel [1, 2, 3] (by decide) rfl
   obtain rfl := Option.some.inj hm
   exact ⟨_, rfl, ⟨v159, S160, rfl, f150, f151, rfl, hL⟩⟩
 refine CW.exit ?_
 refine XJ.hit ?_
 obtain rfl := Option.some.inj hm
 exact ⟨_, rfl, ⟨v97, S98, f117, f118, f119, f120, hL⟩⟩

theorem M.laws_FnSimplified_ok (w0 : World) (htab : TabsR Tryd.prog (cutLaid_ren.g 1) (parseLaid_ren.g 15) (parseLaid_ren.g 16) w0) (a0 : List UInt8) {v1 : Value} (h2 : rdL (· < w0.heap.size) w0 v1 a0) {r : Bool} (hm : M.laws_FnSimplified a0 = some r) :
    Calls Tryd.prog 3 #[v1] w0 fun e w' => e = .returned (.bool r) ∧ Fresh w0 w' [] := by
 unfold M.laws_FnSimplified at hm
 refine calls_CW (args := [v1]) Tryd.func3 rfl rfl rfl ?_
 have hL := Hp.start w0
 refine CSR ?_
 refine OV (.bool false) rfl (x_assign) ?_
 refine ONS ?_
 refine CSR ?_
 refine OV v1 rfl (x_move) ?_
 obtain ⟨x3, hx4, hm⟩ := bndE hm
 refine OW.cons (OP.call rfl (x_call (vs := [v1]) Tryd_C4 ⟨rfl, trivial⟩) (M.laws_big_ok _ a0 (hL.rdS 0 rfl h2) hx4) ?_)
 rintro e5 wd6 ⟨rfl, hF7⟩
 refine ⟨_, rfl, ?_⟩
 have hL := hL.pushAll hF7
 simp only [lA, lB, lC, lD] at hL
 refine OW.nil ?_
 refine CW.condM (t := x3) rfl hm (fun hb8 hm => ?_) (fun hb8 hm => ?_)
 · refine CSR ?_
   refine OV (.bool true) rfl (x_assign) ?_
   refine OW.nil ?_
   refine CW.ret ?_
   obtain rfl := Option.some.inj hm
   exact RR1 rfl rfl ⟨rfl, hL.fresh 0 rfl [] (by decide) (by decide) rfl⟩
 refine CW.skip ?_
 refine CSR ?_
 refine OV v1 rfl (x_move) ?_
 obtain ⟨x9, hx10, hm⟩ := bndE hm
 refine OW.cons (OP.call rfl (x_call (vs := [v1]) Tryd_C5 ⟨rfl, trivial⟩) (M.spec_DrawSimplifyCurve_ok _ a0 (hL.rdS 0 rfl h2) hx10) ?_)
 rintro e13 wd14 ⟨v12, S11, rfl, hF15⟩
 refine ⟨_, rfl, ?_⟩
 have hL := hL.pushAll hF15
 simp only [lA, lB, lC, lD] at hL
 refine OV (.tuple #[v12, (.int .i64 x9.2)]) rfl (x_move) ?_
 refine OV v12 rfl (x_extract rfl rfl) ?_
 refine OV (.int .i64 x9.2) rfl (x_extract rfl rfl) ?_
 refine OV v12 rfl (x_assign) ?_
 refine OV (.int .i64 x9.2) rfl (x_assign) ?_
 refine ONR ?_
 refine OV v12 rfl (x_move) ?_
 refine OV (.int .i64 x9.2) rfl (x_move) ?_
 obtain ⟨x16, hx17, hm⟩ := bndE hm
 refine OW.cons (OP.call rfl (x_call (vs := [v12, (.int .i64 x9.2)]) Tryd_C6 ⟨rfl, rfl, trivial⟩) (M.impl_SimplifyCurve_ok _ x9.1 (hL.rdO 0 rfl) x9.2 hx17) ?_)
 rintro e20 wd21 ⟨v19, S18, rfl, hF22⟩
 refine ⟨_, rfl, ?_⟩
 have hL := hL.pushAll hF22
 simp only [lA, lB, lC, lD] at hL
 refine OV (.tuple #[v19, (.int .i64 x16.2)]) rfl (x_move) ?_
 refine OV v19 rfl (x_extract rfl rfl) ?_
 refine OV (.int .i64 x16.2) rfl (x_extract rfl rfl) ?_
 refine OV v19 rfl (x_assign) ?_
 refine OV (.int .i64 x16.2) rfl (x_assign) ?_
 refine ONR ?_
 refine OV v12 rfl (x_move) ?_
 refine OV (.int .i64 x9.2) rfl (x_move) ?_
 obtain ⟨x23, hx24, hm⟩ := bndE hm
 refine OW.cons (OP.call rfl (x_call (vs := [v12, (.int .i64 x9.2)]) Tryd_C7 ⟨rfl, rfl, trivial⟩) (M.spec_SimplifyCurve_ok _ x9.1 (hL.rdO 1 rfl) x9.2 hx24) ?_)
 rintro e27 wd28 ⟨v26, S25, rfl, hF29⟩
 refine ⟨_, rfl, ?_⟩
 have hL := hL.pushAll hF29
 simp only [lA, lB, lC, lD] at hL
 refine OV (.tuple #[v26, (.int .i64 x23.2)]) rfl (x_move) ?_
 refine OV v26 rfl (x_extract rfl rfl) ?_
 refine OV (.int .i64 x23.2) rfl (x_extract rfl rfl) ?_
 refine OV v26 rfl (x_assign) ?_
 refine OV (.int .i64 x23.2) rfl (x_assign) ?_
 refine ONS ?_
 refine CW.seqJ (fun (s_j1 : Bool) (F : Fr) (w : World) => F 3 = v12 ∧ F 4 = (.int .i64 x9.2) ∧ F 5 = v19 ∧ F 6 = (.int .i64 x16.2) ∧ F 7 = v26 ∧ F 42 = (.bool s_j1) ∧ Hp w0 [Ent.own 32 S25 v26 x23.1, Ent.own 32 S18 v19 x16.1, Ent.own 32 S11 v12 x9.1, Ent.snap w0 w0.heap.size] w) (fun s_j1 => M.laws_FnSimplified_j1 x9 x16 x23 s_j1 = some r) ?_ ?_
 · refine CW.regionL ?_
   refine OV (.int .i64 x16.2) rfl (x_move) ?_
   refine OV (.int .i64 x23.2) rfl (x_move) ?_
   refine OV (.bool (x16.2 != x23.2)) rfl (x_neq rfl rfl) ?_
   refine OV (.bool (x16.2 != x23.2)) rfl (x_move) ?_
   refine ifB_elim hm (fun hb284 hm => ?_) (fun hb284 hm => ?_)
   · refine OW.cons (OP.no' rfl rfl hb284 rfl ?_)
     refine OW.cons (OP.no' rfl rfl hb284 rfl ?_)
     refine OW.cons (OP.no' rfl rfl hb284 rfl ?_)
     refine OW.cons (OP.no' rfl rfl hb284 rfl ?_)
     refine OW.cons (OP.no' rfl rfl hb284 rfl ?_)
     refine OV (.bool true) rfl (x_pickT' rfl hb284 rfl) ?_
     refine OW.nil ?_
     exact ⟨true, hm, ⟨rfl, rfl, rfl, rfl, rfl, rfl, hL⟩⟩
   refine OW.cons (OP.yes' rfl rfl hb284 (OP.val (v := v19) rfl (x_move) ?_))
   obtain ⟨x285, hx286, hm⟩ := bndE hm
   refine OW.cons (OP.yes' rfl rfl hb284 (OP.call rfl (x_call (vs := [v19]) Tryd_C8 ⟨rfl, trivial⟩) (M.impl_CurveText_ok _ (hL.tabR 3 rfl rfl htab) x16.1 (hL.rdO 1 rfl) hx286) ?_))
   rintro e287 wd288 ⟨rfl, hF289⟩
   refine ⟨_, rfl, ?_⟩
   have hL := hL.pushAll hF289
   simp only [lA, lB, lC, lD] at hL
   refine OW.cons (OP.yes' rfl rfl hb284 (OP.val (v := v26) rfl (x_move) ?_))
   obtain ⟨x290, hx291, hm⟩ := bndE hm
   refine OW.cons (OP.yes' rfl rfl hb284 (OP.call rfl (x_call (vs := [v26]) Tryd_C9 ⟨rfl, trivial⟩) (M.spec_CurveText_ok _ x23.1 (hL.rdO 0 rfl) hx291) ?_))
   rintro e292 wd293 ⟨rfl, hF294⟩
   refine ⟨_, rfl, ?_⟩
   have hL := hL.pushAll hF294
   simp only [lA, lB, lC, lD] at hL
   refine OW.cons (OP.yes' rfl rfl hb284 (OP.val (v := (.bool (!(sEq x285 x290)))) rfl (x_neqT rfl rfl) ?_))
   refine OV (.bool (!(sEq x285 x290))) rfl (x_pickF' rfl hb284 rfl) ?_
   refine OW.nil ?_
   exact ⟨!(sEq x285 x290), hm, ⟨rfl, rfl, rfl, rfl, rfl, rfl, hL⟩⟩
 intro s_j1 F41 wd42 hJ hm
 unfold M.laws_FnSimplified_j1 at hm
 obtain ⟨f43, f44, f45, f46, f47, f48, hL⟩ := hJ
 refine CW.condM (t := s_j1) f48 hm (fun hb49 hm => ?_) (fun hb49 hm => ?_)
 · refine CSR ?_
   refine OV (.bool false) rfl (x_assign) ?_
   refine OW.nil ?_
   refine CW.ret ?_
   obtain rfl := Option.some.inj hm
   exact RR1 rfl rfl ⟨rfl, hL.fresh 3 rfl [] (by decide) (by decide) rfl⟩
 refine CW.skip ?_
 refine CW.seq ?_
 refine CSR ?_
 refine OV (.int .i64 x16.2) rfl (x_mv f46) ?_
 refine OV (.bool (x16.2 != 0)) rfl (x_neq rfl rfl) ?_
 refine OW.nil ?_
 refine CW.condM (t := x16.2 != 0) rfl hm (fun hb50 hm => ?_) (fun hb50 hm => ?_)
 · refine CSR ?_
   refine OV v19 rfl (x_mv f45) ?_
   refine OV (.int .i64 (x16.1.length : Int)) rfl (x_lenR U24 rfl (hL.rdO 1 rfl)) ?_
   refine OV (.bool ((x16.1.length : Int) == 0)) rfl (x_eql rfl rfl) ?_
   refine OV (.bool ((x16.1.length : Int) == 0)) rfl (x_assign) ?_
   refine OW.nil ?_
   refine CW.ret ?_
   obtain rfl := Option.some.inj hm
   exact RR1 rfl rfl ⟨rfl, hL.fresh 3 rfl [] (by decide) (by decide) rfl⟩
 refine CW.skip ?_
 refine CW.seq ?_
 refine CW.seqJ (fun (s_j2 : Bool) (F : Fr) (w : World) => F 3 = v12 ∧ F 4 = (.int .i64 x9.2) ∧ F 5 = v19 ∧ F 59 = (.bool s_j2) ∧ Hp w0 [Ent.own 32 S18 v19 x16.1, Ent.own 32 S11 v12 x9.1, Ent.snap w0 w0.heap.size] w) (fun s_j2 => M.laws_FnSimplified_j2 x9 x16 s_j2 = some r) ?_ ?_
 · refine CW.regionL ?_
   refine OV v19 rfl (x_mv f45) ?_
   refine OV (.int .i64 (x16.1.length : Int)) rfl (x_lenR U24 rfl (hL.rdO 1 rfl)) ?_
   refine OV v12 rfl (x_mv f43) ?_
   refine OV (.int .i64 (x9.1.length : Int)) rfl (x_lenR U24 rfl (hL.rdO 2 rfl)) ?_
   refine OV (.bool (decide ((x9.1.length : Int) < (x16.1.length : Int)))) rfl (x_gtr rfl rfl) ?_
   refine OV (.bool (decide ((x9.1.length : Int) < (x16.1.length : Int)))) rfl (x_move) ?_
   refine ifB_elim hm (fun hb283 hm => ?_) (fun hb283 hm => ?_)
   · refine OW.cons (OP.no' rfl rfl hb283 rfl ?_)
     refine OW.cons (OP.no' rfl rfl hb283 rfl ?_)
     refine OW.cons (OP.no' rfl rfl hb283 rfl ?_)
     refine OW.cons (OP.no' rfl rfl hb283 rfl ?_)
     refine OW.cons (OP.no' rfl rfl hb283 rfl ?_)
     refine OV (.bool true) rfl (x_pickT' rfl hb283 rfl) ?_
     refine OW.nil ?_
     have hL := hL.sel [1, 2, 3] (by decide) rfl
     exact ⟨true, hm, ⟨f43, f44, f45, rfl, hL⟩⟩
   refine OW.cons (OP.yes' rfl rfl hb283 (OP.val (v := v19) rfl (x_mv f45) ?_))
   refine OW.cons (OP.yes' rfl rfl hb283 (OP.val (v := (.int .i64 (x16.1.length : Int))) rfl (x_lenR U24 rfl (hL.rdO 1 rfl)) ?_))
   refine OW.cons (OP.yes' rfl rfl hb283 (OP.val (v := v26) rfl (x_mv f47) ?_))
   refine OW.cons (OP.yes' rfl rfl hb283 (OP.val (v := (.int .i64 (x23.1.length : Int))) rfl (x_lenR U24 rfl (hL.rdO 0 rfl)) ?_))
   refine OW.cons (OP.yes' rfl rfl hb283 (OP.val (v := (.bool ((x16.1.length : Int) != (x23.1.length : Int)))) rfl (x_neq rfl rfl) ?_))
   refine OV (.bool ((x16.1.length : Int) != (x23.1.length : Int))) rfl (x_pickF' rfl hb283 rfl) ?_
   refine OW.nil ?_
   have hL := hL.sel [1, 2, 3] (by decide) rfl
   exact ⟨(x16.1.length : Int) != (x23.1.length : Int), hm, ⟨f43, f44, f45, rfl, hL⟩⟩
 intro s_j2 F52 wd53 hJ hm
 unfold M.laws_FnSimplified_j2 at hm
 obtain ⟨f54, f55, f56, f57, hL⟩ := hJ
 refine CW.condM (t := s_j2) f57 hm (fun hb58 hm => ?_) (fun hb58 hm => ?_)
 · refine CSR ?_
   refine OV (.bool false) rfl (x_assign) ?_
   refine OW.nil ?_
   refine CW.ret ?_
   obtain rfl := Option.some.inj hm
   exact RR1 rfl rfl ⟨rfl, hL.fresh 2 rfl [] (by decide) (by decide) rfl⟩
 refine CW.skip ?_
 refine CW.seq ?_
 refine CSR ?_
 refine OV (.int .i64 0) rfl (x_assign) ?_
 refine OW.nil ?_
 obtain ⟨o167, ho168, hm⟩ := bndE hm
 refine CW.loopB (fun (s_l1 : Int) (F : Fr) (w : World) => F 3 = v12 ∧ F 4 = (.int .i64 x9.2) ∧ F 5 = v19 ∧ F 9 = (.int .i64 s_l1) ∧ Hp w0 [Ent.own 32 S18 v19 x16.1, Ent.own 32 S11 v12 x9.1, Ent.snap w0 w0.heap.size] w) (fun o => outc o (fun x => some x) (fun s => M.laws_FnSimplified_a1 x9 s) = some r) ho168 hm ⟨f54, f55, f56, rfl, hL⟩ ?_ ?_
 · intro s_l1 F169 wd170 hJ hm
   have hm := outcE hm
   have hm : M.laws_FnSimplified_a1 x9 s_l1 = some r := hm
   unfold M.laws_FnSimplified_a1 at hm
   obtain ⟨f171, f172, f173, f174, hL⟩ := hJ
   refine CSR ?_
   refine OV v12 rfl (x_mv f171) ?_
   obtain ⟨x175, hx176, hm⟩ := bndE hm
   refine OW.cons (OP.call rfl (x_call (vs := [v12]) Tryd_C8 ⟨rfl, trivial⟩) (M.impl_CurveText_ok _ (hL.tabR 2 rfl rfl htab) x9.1 (hL.rdO 1 rfl) hx176) ?_)
   rintro e177 wd178 ⟨rfl, hF179⟩
   refine ⟨_, rfl, ?_⟩
   have hL := hL.pushAll hF179
   simp only [lA, lB, lC, lD] at hL
   obtain ⟨x180, hx181, hm⟩ := bndE hm
   refine OW.cons (OP.call rfl (x_call (vs := [(.string x175)]) Tryd_C11 ⟨rfl, trivial⟩) (M.impl_ReadCurve_ok _ (hL.tabR 2 rfl rfl htab) x175 hx181) ?_)
   rintro e184 wd185 ⟨v183, S182, rfl, hF186⟩
   refine ⟨_, rfl, ?_⟩
   have hL := hL.pushAll hF186
   simp only [lA, lB, lC, lD] at hL
   refine OV (.tuple #[v183, (.bool x180.2)]) rfl (x_move) ?_
   refine OV v183 rfl (x_extract rfl rfl) ?_
   refine OV (.bool x180.2) rfl (x_extract rfl rfl) ?_
   refine OV v183 rfl (x_assign) ?_
   refine OV (.bool x180.2) rfl (x_assign) ?_
   refine OW.nil ?_
   refine CW.seqJ (fun (s_j3 : Bool) (F : Fr) (w : World) => F 2 = (.bool s_j3) ∧ Hp w0 [Ent.snap w0 w0.heap.size] w) (fun s_j3 => M.laws_FnSimplified_j3 s_j3 = some r) ?_ ?_
   · refine CW.regionL ?_
     refine OV (.bool x180.2) rfl (x_move) ?_
     refine OV (.bool x180.2) rfl (x_move) ?_
     refine ifB_elim hm (fun hb207 hm => ?_) (fun hb207 hm => ?_)
     · refine OW.cons (OP.yes' rfl rfl hb207 (OP.val (v := v183) rfl (x_move) ?_))
       obtain ⟨x208, hx209, hm⟩ := bndE hm
       refine OW.cons (OP.yes' rfl rfl hb207 (OP.call rfl (x_call (vs := [v183]) Tryd_C8 ⟨rfl, trivial⟩) (M.impl_CurveText_ok _ (hL.tabR 3 rfl rfl htab) x180.1 (hL.rdO 0 rfl) hx209) ?_))
       rintro e210 wd211 ⟨rfl, hF212⟩
       refine ⟨_, rfl, ?_⟩
       have hL := hL.pushAll hF212
       simp only [lA, lB, lC, lD] at hL
       refine OW.cons (OP.yes' rfl rfl hb207 (OP.val (v := v12) rfl (x_mv f171) ?_))
       obtain ⟨x213, hx214, hm⟩ := bndE hm
       refine OW.cons (OP.yes' rfl rfl hb207 (OP.call rfl (x_call (vs := [v12]) Tryd_C8 ⟨rfl, trivial⟩) (M.impl_CurveText_ok _ (hL.tabR 3 rfl rfl htab) x9.1 (hL.rdO 2 rfl) hx214) ?_))
       rintro e215 wd216 ⟨rfl, hF217⟩
       refine ⟨_, rfl, ?_⟩
       have hL := hL.pushAll hF217
       simp only [lA, lB, lC, lD] at hL
       refine OW.cons (OP.yes' rfl rfl hb207 (OP.val (v := (.bool (sEq x208 x213))) rfl (x_eqlT rfl rfl) ?_))
       refine OV (.bool (sEq x208 x213)) rfl (x_pickT' rfl hb207 rfl) ?_
       refine OV (.bool (sEq x208 x213)) rfl (x_move) ?_
       refine ifB_elim hm (fun hb218 hm => ?_) (fun hb218 hm => ?_)
       · refine OW.cons (OP.yes' rfl rfl hb218 (OP.val (v := v12) rfl (x_mv f171) ?_))
         obtain ⟨x219, hx220, hm⟩ := bndE hm
         refine OW.cons (OP.yes' rfl rfl hb218 (OP.call rfl (x_call (vs := [v12]) Tryd_C8 ⟨rfl, trivial⟩) (M.impl_CurveText_ok _ (hL.tabR 3 rfl rfl htab) x9.1 (hL.rdO 2 rfl) hx220) ?_))
         rintro e221 wd222 ⟨rfl, hF223⟩
         refine ⟨_, rfl, ?_⟩
         have hL := hL.pushAll hF223
         simp only [lA, lB, lC, lD] at hL
         refine OW.cons (OP.yes' rfl rfl hb218 (OP.val (v := (.bool (!(sEq x219 (⟨#[]⟩ : ByteArray))))) rfl (x_neqT rfl rfl) ?_))
         refine OV (.bool (!(sEq x219 (⟨#[]⟩ : ByteArray)))) rfl (x_pickT' rfl hb218 rfl) ?_
         refine OV (.bool (!(sEq x219 (⟨#[]⟩ : ByteArray)))) rfl (x_assign) ?_
         refine OW.nil ?_
         have hL := hL.sel [3] (by decide) rfl
         exact ⟨!(sEq x219 (⟨#[]⟩ : ByteArray)), hm, ⟨rfl, hL⟩⟩
       refine OW.cons (OP.no' rfl rfl hb218 rfl ?_)
       refine OW.cons (OP.no' rfl rfl hb218 rfl ?_)
       refine OW.cons (OP.no' rfl rfl hb218 rfl ?_)
       refine OV (.bool false) rfl (x_pickF' rfl hb218 rfl) ?_
       refine OV (.bool false) rfl (x_assign) ?_
       refine OW.nil ?_
       have hL := hL.sel [3] (by decide) rfl
       exact ⟨false, hm, ⟨rfl, hL⟩⟩
     refine OW.cons (OP.no' rfl rfl hb207 rfl ?_)
     refine OW.cons (OP.no' rfl rfl hb207 rfl ?_)
     refine OW.cons (OP.no' rfl rfl hb207 rfl ?_)
     refine OW.cons (OP.no' rfl rfl hb207 rfl ?_)
     refine OW.cons (OP.no' rfl rfl hb207 rfl ?_)
     refine OV (.bool false) rfl (x_pickF' rfl hb207 rfl) ?_
     refine OV (.bool false) rfl (x_move) ?_
     refine OW.cons (OP.no' rfl rfl rfl rfl ?_)
     refine OW.cons (OP.no' rfl rfl rfl rfl ?_)
     refine OW.cons (OP.no' rfl rfl rfl rfl ?_)
     refine OV (.bool false) rfl (x_pickF' rfl rfl rfl) ?_
     refine OV (.bool false) rfl (x_assign) ?_
     refine OW.nil ?_
     have hL := hL.sel [3] (by decide) rfl
     exact ⟨false, hm, ⟨rfl, hL⟩⟩
   intro s_j3 F204 wd205 hJ hm
   unfold M.laws_FnSimplified_j3 at hm
   obtain ⟨f206, hL⟩ := hJ
   refine CW.ret ?_
   obtain rfl := Option.some.inj hm
   exact RR1 rfl f206 ⟨rfl, hL.fresh 0 rfl [] (by decide) (by decide) rfl⟩
 intro s_l1 F224 wd225 t165 hJ hm hr166
 unfold M.laws_FnSimplified_l1 at hm
 obtain ⟨f226, f227, f228, f229, hL⟩ := hJ
 refine CW.seq ?_
 refine CSR ?_
 refine OV (.int .i64 s_l1) rfl (x_mv f229) ?_
 refine OV v12 rfl (x_mv f226) ?_
 refine OV (.int .i64 (x9.1.length : Int)) rfl (x_lenR U24 rfl (hL.rdO 1 rfl)) ?_
 refine OV (.bool (decide (s_l1 < (x9.1.length : Int)))) rfl (x_lss rfl rfl) ?_
 refine OW.nil ?_
 refine CW.condM (t := decide (s_l1 < (x9.1.length : Int))) rfl hm (fun hb230 hm => ?_) (fun hb230 hm => ?_)
 · refine CW.skip ?_
   refine CW.seq ?_
   refine CW.block ?_
   refine CSR ?_
   refine OV v19 rfl (x_mv f228) ?_
   refine OV v12 rfl (x_mv f226) ?_
   refine OV (.int .i64 s_l1) rfl (x_mv f229) ?_
   obtain ⟨x231, ha232, hm⟩ := bndE hm
   obtain ⟨hz233, ha237⟩ := idxE ha232
   obtain ⟨b234, q235, hix236⟩ := rdL_ix (hL.rdO 1 rfl) hz233 ha237
   refine OV (.pointer (some ⟨b234, q235, none⟩)) rfl (x_ix U24 Tryd_T32 rfl rfl hix236) ?_
   refine OV (.pointer (some ⟨b234, q235, none⟩)) rfl (x_fieldAddr (fsz := 1) q235 0 q235 U32 rfl Tryd_T2 rfl rfl rfl) ?_
   refine OV (.int .i64 x231.Wind) rfl (x_load1 U2 rfl rfl (rdF_cells (hL.rdO 1 rfl) hix236 ha237 0 _ rfl)) ?_
   obtain ⟨x238, hx239, hm⟩ := bndE hm
   refine OW.cons (OP.call rfl (x_call (vs := [v19, (.int .i64 x231.Wind)]) Tryd_C10 ⟨rfl, rfl, trivial⟩) (M.impl_PaceAt_ok _ x16.1 (hL.rdO 0 rfl) x231.Wind hx239) ?_)
   rintro e240 wd241 ⟨rfl, hF242⟩
   refine ⟨_, rfl, ?_⟩
   have hL := hL.pushAll hF242
   simp only [lA, lB, lC, lD] at hL
   refine OV (.tuple #[(.int .i64 x238.1), (.int .i64 x238.2)]) rfl (x_move) ?_
   refine OV (.int .i64 x238.1) rfl (x_extract rfl rfl) ?_
   refine OV (.int .i64 x238.2) rfl (x_extract rfl rfl) ?_
   refine OV (.int .i64 x238.1) rfl (x_assign) ?_
   refine OV (.int .i64 x238.2) rfl (x_assign) ?_
   refine OW.nil ?_
   refine CW.seqJ (fun (s_j4 : Bool) (F : Fr) (w : World) => F 3 = v12 ∧ F 4 = (.int .i64 x9.2) ∧ F 5 = v19 ∧ F 9 = (.int .i64 s_l1) ∧ F 99 = (.bool s_j4) ∧ Hp w0 [Ent.own 32 S18 v19 x16.1, Ent.own 32 S11 v12 x9.1, Ent.snap w0 w0.heap.size] w) (fun s_j4 => M.laws_FnSimplified_j4 s_l1 s_j4 = some t165) ?_ ?_
   · refine CW.regionL ?_
     refine OV (.int .i64 x238.2) rfl (x_move) ?_
     refine OV (.bool (x238.2 != 0)) rfl (x_neq rfl rfl) ?_
     refine OV (.bool (x238.2 != 0)) rfl (x_move) ?_
     refine ifB_elim hm (fun hb267 hm => ?_) (fun hb267 hm => ?_)
     · refine OW.cons (OP.no' rfl rfl hb267 rfl ?_)
       refine OW.cons (OP.no' rfl rfl hb267 rfl ?_)
       refine OW.cons (OP.no' rfl rfl hb267 rfl ?_)
       refine OW.cons (OP.no' rfl rfl hb267 rfl ?_)
       refine OW.cons (OP.no' rfl rfl hb267 rfl ?_)
       refine OW.cons (OP.no' rfl rfl hb267 rfl ?_)
       refine OW.cons (OP.no' rfl rfl hb267 rfl ?_)
       refine OW.cons (OP.no' rfl rfl hb267 rfl ?_)
       refine OW.cons (OP.no' rfl rfl hb267 rfl ?_)
       refine OV (.bool true) rfl (x_pickT' rfl hb267 rfl) ?_
       refine OV (.bool true) rfl (x_move) ?_
       refine OW.cons (OP.no' rfl rfl rfl rfl ?_)
       refine OW.cons (OP.no' rfl rfl rfl rfl ?_)
       refine OW.cons (OP.no' rfl rfl rfl rfl ?_)
       refine OW.cons (OP.no' rfl rfl rfl rfl ?_)
       refine OW.cons (OP.no' rfl rfl rfl rfl ?_)
       refine OW.cons (OP.no' rfl rfl rfl rfl ?_)
       refine OW.cons (OP.no' rfl rfl rfl rfl ?_)
       refine OW.cons (OP.no' rfl rfl rfl rfl ?_)
       refine OW.cons (OP.no' rfl rfl rfl rfl ?_)
       refine OV (.bool true) rfl (x_pickT' rfl rfl rfl) ?_
       refine OW.nil ?_
       exact ⟨true, hm, ⟨f226, f227, f228, f229, rfl, hL⟩⟩
     refine OW.cons (OP.yes' rfl rfl hb267 (OP.val (v := (.int .i64 x238.1)) rfl (x_move) ?_))
     refine OW.cons (OP.yes' rfl rfl hb267 (OP.val (v := v12) rfl (x_mv f226) ?_))
     refine OW.cons (OP.yes' rfl rfl hb267 (OP.val (v := (.int .i64 s_l1)) rfl (x_mv f229) ?_))
     obtain ⟨x268, ha269, hm⟩ := bndE hm
     obtain ⟨hz270, ha274⟩ := idxE ha269
     obtain ⟨b271, q272, hix273⟩ := rdL_ix (hL.rdO 1 rfl) hz270 ha274
     refine OW.cons (OP.yes' rfl rfl hb267 (OP.val (v := (.pointer (some ⟨b271, q272, none⟩))) rfl (x_ix U24 Tryd_T32 rfl rfl hix273) ?_))
     refine OW.cons (OP.yes' rfl rfl hb267 (OP.val (v := (.pointer (some ⟨b271, q272 + 1, none⟩))) rfl (x_fieldAddr (fsz := 1) q272 1 (q272 + 1) U32 rfl Tryd_T2 rfl rfl rfl) ?_))
     refine OW.cons (OP.yes' rfl rfl hb267 (OP.val (v := (.int .i64 x268.Pace)) rfl (x_load1 U2 rfl rfl (rdF_cells (hL.rdO 1 rfl) hix273 ha274 1 _ rfl)) ?_))
     refine OW.cons (OP.yes' rfl rfl hb267 (OP.val (v := (.int .i64 (w64 (x238.1 - x268.Pace)))) rfl (x_sub rfl rfl) ?_))
     refine OW.cons (OP.yes' rfl rfl hb267 (OP.val (v := (.int .i64 x9.2)) rfl (x_mv f227) ?_))
     refine OW.cons (OP.yes' rfl rfl hb267 (OP.val (v := (.bool (decide (x9.2 < (w64 (x238.1 - x268.Pace)))))) rfl (x_gtr rfl rfl) ?_))
     refine OV (.bool (decide (x9.2 < (w64 (x238.1 - x268.Pace))))) rfl (x_pickF' rfl hb267 rfl) ?_
     refine OV (.bool (decide (x9.2 < (w64 (x238.1 - x268.Pace))))) rfl (x_move) ?_
     refine ifB_elim hm (fun hb275 hm => ?_) (fun hb275 hm => ?_)
     · refine OW.cons (OP.no' rfl rfl hb275 rfl ?_)
       refine OW.cons (OP.no' rfl rfl hb275 rfl ?_)
       refine OW.cons (OP.no' rfl rfl hb275 rfl ?_)
       refine OW.cons (OP.no' rfl rfl hb275 rfl ?_)
       refine OW.cons (OP.no' rfl rfl hb275 rfl ?_)
       refine OW.cons (OP.no' rfl rfl hb275 rfl ?_)
       refine OW.cons (OP.no' rfl rfl hb275 rfl ?_)
       refine OW.cons (OP.no' rfl rfl hb275 rfl ?_)
       refine OW.cons (OP.no' rfl rfl hb275 rfl ?_)
       refine OV (.bool true) rfl (x_pickT' rfl hb275 rfl) ?_
       refine OW.nil ?_
       exact ⟨true, hm, ⟨f226, f227, f228, f229, rfl, hL⟩⟩
     refine OW.cons (OP.yes' rfl rfl hb275 (OP.val (v := v12) rfl (x_mv f226) ?_))
     refine OW.cons (OP.yes' rfl rfl hb275 (OP.val (v := (.int .i64 s_l1)) rfl (x_mv f229) ?_))
     obtain ⟨x276, ha277, hm⟩ := bndE hm
     obtain ⟨hz278, ha282⟩ := idxE ha277
     obtain ⟨b279, q280, hix281⟩ := rdL_ix (hL.rdO 1 rfl) hz278 ha282
     refine OW.cons (OP.yes' rfl rfl hb275 (OP.val (v := (.pointer (some ⟨b279, q280, none⟩))) rfl (x_ix U24 Tryd_T32 rfl rfl hix281) ?_))
     refine OW.cons (OP.yes' rfl rfl hb275 (OP.val (v := (.pointer (some ⟨b279, q280 + 1, none⟩))) rfl (x_fieldAddr (fsz := 1) q280 1 (q280 + 1) U32 rfl Tryd_T2 rfl rfl rfl) ?_))
     refine OW.cons (OP.yes' rfl rfl hb275 (OP.val (v := (.int .i64 x276.Pace)) rfl (x_load1 U2 rfl rfl (rdF_cells (hL.rdO 1 rfl) hix281 ha282 1 _ rfl)) ?_))
     refine OW.cons (OP.yes' rfl rfl hb275 (OP.val (v := (.int .i64 x238.1)) rfl (x_move) ?_))
     refine OW.cons (OP.yes' rfl rfl hb275 (OP.val (v := (.int .i64 (w64 (x276.Pace - x238.1)))) rfl (x_sub rfl rfl) ?_))
     refine OW.cons (OP.yes' rfl rfl hb275 (OP.val (v := (.int .i64 x9.2)) rfl (x_mv f227) ?_))
     refine OW.cons (OP.yes' rfl rfl hb275 (OP.val (v := (.bool (decide (x9.2 < (w64 (x276.Pace - x238.1)))))) rfl (x_gtr rfl rfl) ?_))
     refine OV (.bool (decide (x9.2 < (w64 (x276.Pace - x238.1))))) rfl (x_pickF' rfl hb275 rfl) ?_
     refine OW.nil ?_
     exact ⟨decide (x9.2 < (w64 (x276.Pace - x238.1))), hm, ⟨f226, f227, f228, f229, rfl, hL⟩⟩
   intro s_j4 F259 wd260 hJ hm
   unfold M.laws_FnSimplified_j4 at hm
   obtain ⟨f261, f262, f263, f264, f265, hL⟩ := hJ
   refine CW.condM (t := s_j4) f265 hm (fun hb266 hm => ?_) (fun hb266 hm => ?_)
   · refine CSR ?_
     refine OV (.bool false) rfl (x_assign) ?_
     refine OW.nil ?_
     refine CW.ret ?_
     obtain rfl := Option.some.inj hm
     have hm := hr166 _ rfl
     obtain rfl := Option.some.inj hm
     exact RR1 rfl rfl ⟨rfl, hL.fresh 2 rfl [] (by decide) (by decide) rfl⟩
   refine CW.skip ?_
   refine CW.regionL ?_
   refine OV (.int .i64 s_l1) rfl (x_mv f264) ?_
   refine OV (.int .i64 (w64 (s_l1 + 1))) rfl (x_add rfl rfl) ?_
   refine OV (.int .i64 (w64 (s_l1 + 1))) rfl (x_assign) ?_
   refine OW.nil ?_
   obtain rfl := Option.some.inj hm
   exact ⟨_, rfl, ⟨f261, f262, f263, rfl, hL⟩⟩
 refine CW.exit ?_
 refine XJ.hit ?_
 obtain rfl := Option.some.inj hm
 exact ⟨_, rfl, ⟨f226, f227, f228, f229, hL⟩⟩

end Go.Proofs.YtngegaodnokmbaaDoor
