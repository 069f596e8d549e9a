/- Links: each Go function returns what its model computes and leaves what was there. Printed by my generator. -/
import Derived.Test.YtmmkkcmliofknaaGreatDoorLnkFnStandingC
namespace Go.Proofs.YtmmkkcmliofknaaGreatDoor
set_option maxRecDepth 10000
open Go Go.RowKit Go.ChangeShapes Go.WideShapes
set_option linter.unusedVariables false
set_option linter.unusedSimpArgs false

theorem M.spec_StandingText_ok (w0 : World) (a0 : Table) {v1 : Value} {v3 : Value} (h2 : rdL (· < w0.heap.size) w0 v1 a0.Points) (h4 : rdL (· < w0.heap.size) w0 v3 a0.Codes) (a1 : List Int) {v5 : Value} (h6 : rdL (· < w0.heap.size) w0 v5 a1) {r : ByteArray} (hm : M.spec_StandingText a0 a1 = some r) :
    Calls Tryz.prog 11 #[(.agg #[(.int .i64 a0.Boats), v1, v3]), v5] w0 fun e w' => e = .returned (.string r) ∧ Fresh w0 w' [] := by
 unfold M.spec_StandingText at hm
 refine calls_CW (args := [(.agg #[(.int .i64 a0.Boats), v1, v3]), v5]) Tryz.func11 rfl rfl rfl ?_
 have hL := Hp.start w0
 refine CSR ?_
 refine OW.cons (S_box (cs := #[(.int .i64 a0.Boats), v1, v3]) hL rfl rfl rfl ?_)
 intro wd7 b8 hL
 refine OV (.string (⟨#[]⟩ : ByteArray)) rfl (x_assign) ?_
 refine ONS ?_
 refine CSR ?_
 refine OV (.agg #[(.int .i64 a0.Boats), v1, v3]) rfl (x_loadN (cs := [(.int .i64 a0.Boats), v1, v3]) U26 Tryz_T26 rfl rfl (hL.cellsB 0 rfl (o := 0) (l := [(.int .i64 a0.Boats), v1, v3]) (by intro j u hj; exact (by simpa using hj)))) ?_
 refine OV v5 rfl (x_move) ?_
 obtain ⟨x9, hx10, hm⟩ := bndE hm
 refine OW.cons (OP.call rfl (x_call (vs := [(.agg #[(.int .i64 a0.Boats), v1, v3]), v5, (.int .i64 0)]) Tryz_C26 ⟨rfl, rfl, rfl, trivial⟩) (M.spec_l27Code_ok _ a0 (hL.rdS 1 rfl h2) (hL.rdS 1 rfl h4) a1 (hL.rdS 1 rfl h6) 0 hx10) ?_)
 rintro e11 wd12 ⟨rfl, hF13⟩
 refine ⟨_, rfl, ?_⟩
 have hL := hL.pushAll hF13
 simp only [lA, lB, lC, lD] at hL
 refine OV (.bool (x9 != 0)) rfl (x_neq rfl rfl) ?_
 refine OW.nil ?_
 refine CW.condM (t := x9 != 0) rfl hm (fun hb14 hm => ?_) (fun hb14 hm => ?_)
 · refine CSR ?_
   refine OV (.string (⟨#[]⟩ : ByteArray)) rfl (x_assign) ?_
   refine OW.nil ?_
   refine CW.ret ?_
   obtain rfl := Option.some.inj hm
   exact RR1 rfl rfl ⟨rfl, hL.fresh 1 rfl [] (by decide) (by decide) rfl⟩
 refine CW.skip ?_
 refine CSR ?_
 refine OV (.string (⟨#[]⟩ : ByteArray)) rfl (x_assign) ?_
 refine ONR ?_
 refine OV (.agg #[(.int .i64 a0.Boats), v1, v3]) rfl (x_loadN (cs := [(.int .i64 a0.Boats), v1, v3]) U26 Tryz_T26 rfl rfl (hL.cellsB 0 rfl (o := 0) (l := [(.int .i64 a0.Boats), v1, v3]) (by intro j u hj; exact (by simpa using hj)))) ?_
 refine OV v5 rfl (x_move) ?_
 obtain ⟨x15, hx16, hm⟩ := bndE hm
 refine OW.cons (OP.call rfl (x_call (vs := [(.agg #[(.int .i64 a0.Boats), v1, v3]), v5]) Tryz_C27 ⟨rfl, rfl, trivial⟩) (M.spec_l28Standing_ok _ a0 (hL.rdS 1 rfl h2) (hL.rdS 1 rfl h4) a1 (hL.rdS 1 rfl h6) hx16) ?_)
 rintro e19 wd20 ⟨v18, S17, rfl, hF21⟩
 refine ⟨_, rfl, ?_⟩
 have hL := hL.pushAll hF21
 simp only [lA, lB, lC, lD] at hL
 refine OV v18 rfl (x_assign) ?_
 refine ONS ?_
 refine CSR ?_
 refine OV (.int .i64 0) rfl (x_assign) ?_
 refine OW.nil ?_
 obtain ⟨o262, ho263, hm⟩ := bndE hm
 refine CW.loopB (fun (s_l1 : ByteArray × Int) (F : Fr) (w : World) => F 1 = v5 ∧ F 2 = (.pointer (some ⟨b8, 0, none⟩)) ∧ F 5 = (.string s_l1.1) ∧ F 6 = v18 ∧ F 7 = (.int .i64 s_l1.2) ∧ Hp w0 [Ent.own 2 S17 v18 x15, Ent.blk b8 26 #[(.int .i64 a0.Boats), v1, v3], Ent.snap w0 w0.heap.size] w) (fun o => outc o (fun x => some x) (fun s => M.spec_StandingText_a1 s) = some r) ho263 hm ⟨rfl, rfl, rfl, rfl, rfl, hL⟩ ?_ ?_
 · intro s_l1 F264 wd265 hJ hm
   have hm := outcE hm
   have hm : M.spec_StandingText_a1 s_l1 = some r := hm
   unfold M.spec_StandingText_a1 at hm
   obtain ⟨f266, f267, f268, f269, f270, hL⟩ := hJ
   refine CSR ?_
   refine OV (.string s_l1.1) rfl (x_mv f268) ?_
   refine OV (.string s_l1.1) rfl (x_assign) ?_
   refine OW.nil ?_
   refine CW.ret ?_
   obtain rfl := Option.some.inj hm
   exact RR1 rfl rfl ⟨rfl, hL.fresh 2 rfl [] (by decide) (by decide) rfl⟩
 intro s_l1 F271 wd272 t260 hJ hm hr261
 unfold M.spec_StandingText_l1 at hm
 obtain ⟨f273, f274, f275, f276, f277, hL⟩ := hJ
 refine CW.seq ?_
 refine CSR ?_
 refine OV (.int .i64 s_l1.2) rfl (x_mv f277) ?_
 refine OV v18 rfl (x_mv f276) ?_
 refine OV (.int .i64 (x15.length : Int)) rfl (x_lenR U27 rfl (hL.rdO 0 rfl)) ?_
 refine OV (.bool (decide (s_l1.2 < (x15.length : Int)))) rfl (x_lss rfl rfl) ?_
 refine OW.nil ?_
 refine CW.condM (t := decide (s_l1.2 < (x15.length : Int))) rfl hm (fun hb278 hm => ?_) (fun hb278 hm => ?_)
 · refine CW.skip ?_
   refine CW.seq ?_
   refine CW.block ?_
   refine CW.drawH (fun w' => Hp w0 [Ent.own 2 S17 v18 x15, Ent.blk b8 26 #[(.int .i64 a0.Boats), v1, v3], Ent.snap w0 w0.heap.size] w') Tryz_mixed ?_
   have hL := hL.call (Mod.drew _)
   have hS := (hL.sel [0, 1, 2] (by decide) rfl)
   refine DH.take 0 rfl (by kernel_rfl) (by kernel_rfl) (by kernel_rfl) rfl rfl hS (YH.val (v := (.string s_l1.1)) (fun w' hS' => x_mv f275)) ?_
   have hS := (hL.sel [0, 1, 2] (by decide) rfl)
   refine DH.take 1 rfl (by kernel_rfl) (by kernel_rfl) (by kernel_rfl) rfl rfl hS (YH.val (v := (.agg #[(.int .i64 a0.Boats), v1, v3])) (fun w' hS' => x_loadN (cs := [(.int .i64 a0.Boats), v1, v3]) U26 Tryz_T26 rfl f274 (hS'.cellsB 1 rfl (o := 0) (l := [(.int .i64 a0.Boats), v1, v3]) (by intro j u hj; exact (by simpa using hj))))) ?_
   have hS := (hL.sel [0, 1, 2] (by decide) rfl)
   refine DH.take 2 rfl (by kernel_rfl) (by kernel_rfl) (by kernel_rfl) rfl rfl hS (YH.val (v := v5) (fun w' hS' => x_mv f273)) ?_
   have hS := (hL.sel [0, 1, 2] (by decide) rfl)
   refine DH.take 3 rfl (by kernel_rfl) (by kernel_rfl) (by kernel_rfl) rfl rfl hS (YH.val (v := v18) (fun w' hS' => x_mv f276)) ?_
   have hS := (hL.sel [0, 1, 2] (by decide) rfl)
   refine DH.take 4 rfl (by kernel_rfl) (by kernel_rfl) (by kernel_rfl) rfl rfl hS (YH.val (v := (.int .i64 s_l1.2)) (fun w' hS' => x_mv f277)) ?_
   have hS := (hL.sel [0, 1, 2] (by decide) rfl)
   obtain ⟨x338, ha339, hm⟩ := bndE hm
   obtain ⟨hz340, ha344⟩ := idxE ha339
   obtain ⟨b341, q342, hix343⟩ := rdL_ix (hL.rdO 0 rfl) hz340 ha344
   refine DH.take 5 rfl (by kernel_rfl) (by kernel_rfl) (by kernel_rfl) rfl rfl hS (YH.val (v := (.pointer (some ⟨b341, q342, none⟩))) (fun w' hS' => x_ix U27 Tryz_T2 rfl rfl hix343)) ?_
   have hS := (hL.sel [0, 1, 2] (by decide) rfl)
   refine DH.take 6 rfl (by kernel_rfl) (by kernel_rfl) (by kernel_rfl) rfl rfl hS (YH.val (v := (.int .i64 x338)) (fun w' hS' => x_load1 U2 rfl rfl (rdF_cells (hS'.rdO 0 rfl) hix343 ha344 0 _ rfl))) ?_
   have hS := (hL.sel [0, 1, 2] (by decide) rfl)
   refine DH.take 11 rfl (by kernel_rfl) (by kernel_rfl) (by kernel_rfl) rfl rfl hS (YH.val (v := v18) (fun w' hS' => x_mv f276)) ?_
   have hS := (hL.sel [0, 1, 2] (by decide) rfl)
   refine DH.take 12 rfl (by kernel_rfl) (by kernel_rfl) (by kernel_rfl) rfl rfl hS (YH.val (v := (.int .i64 s_l1.2)) (fun w' hS' => x_mv f277)) ?_
   have hS := (hL.sel [0, 1, 2] (by decide) rfl)
   obtain ⟨x345, ha346, hm⟩ := bndE hm
   obtain ⟨hz347, ha351⟩ := idxE ha346
   obtain ⟨b348, q349, hix350⟩ := rdL_ix (hL.rdO 0 rfl) hz347 ha351
   refine DH.take 13 rfl (by kernel_rfl) (by kernel_rfl) (by kernel_rfl) rfl rfl hS (YH.val (v := (.pointer (some ⟨b348, q349, none⟩))) (fun w' hS' => x_ix U27 Tryz_T2 rfl rfl hix350)) ?_
   have hS := (hL.sel [0, 1, 2] (by decide) rfl)
   refine DH.take 14 rfl (by kernel_rfl) (by kernel_rfl) (by kernel_rfl) rfl rfl hS (YH.val (v := (.int .i64 x345)) (fun w' hS' => x_load1 U2 rfl rfl (rdF_cells (hS'.rdO 0 rfl) hix350 ha351 0 _ rfl))) ?_
   have hS := (hL.sel [0, 1, 2] (by decide) rfl)
   refine DH.take 18 rfl (by kernel_rfl) (by kernel_rfl) (by kernel_rfl) rfl rfl hS (YH.val (v := (.agg #[(.int .i64 a0.Boats), v1, v3])) (fun w' hS' => x_loadN (cs := [(.int .i64 a0.Boats), v1, v3]) U26 Tryz_T26 rfl f274 (hS'.cellsB 1 rfl (o := 0) (l := [(.int .i64 a0.Boats), v1, v3]) (by intro j u hj; exact (by simpa using hj))))) ?_
   have hS := (hL.sel [0, 1, 2] (by decide) rfl)
   refine DH.take 19 rfl (by kernel_rfl) (by kernel_rfl) (by kernel_rfl) rfl rfl hS (YH.val (v := v5) (fun w' hS' => x_mv f273)) ?_
   have hS := (hL.sel [0, 1, 2] (by decide) rfl)
   refine DH.take 20 rfl (by kernel_rfl) (by kernel_rfl) (by kernel_rfl) rfl rfl hS (YH.val (v := v18) (fun w' hS' => x_mv f276)) ?_
   have hS := (hL.sel [0, 1, 2] (by decide) rfl)
   refine DH.take 21 rfl (by kernel_rfl) (by kernel_rfl) (by kernel_rfl) rfl rfl hS (YH.val (v := (.int .i64 s_l1.2)) (fun w' hS' => x_mv f277)) ?_
   have hS := (hL.sel [0, 1, 2] (by decide) rfl)
   obtain ⟨x352, ha353, hm⟩ := bndE hm
   obtain ⟨hz354, ha358⟩ := idxE ha353
   obtain ⟨b355, q356, hix357⟩ := rdL_ix (hL.rdO 0 rfl) hz354 ha358
   refine DH.take 22 rfl (by kernel_rfl) (by kernel_rfl) (by kernel_rfl) rfl rfl hS (YH.val (v := (.pointer (some ⟨b355, q356, none⟩))) (fun w' hS' => x_ix U27 Tryz_T2 rfl rfl hix357)) ?_
   have hS := (hL.sel [0, 1, 2] (by decide) rfl)
   refine DH.take 23 rfl (by kernel_rfl) (by kernel_rfl) (by kernel_rfl) rfl rfl hS (YH.val (v := (.int .i64 x352)) (fun w' hS' => x_load1 U2 rfl rfl (rdF_cells (hS'.rdO 0 rfl) hix357 ha358 0 _ rfl))) ?_
   obtain ⟨x359, hx360, hm⟩ := bndE hm
   refine DH.only 7 rfl (by kernel_rfl) (OP.call rfl (x_call (vs := [(.agg #[(.int .i64 a0.Boats), v1, v3]), v5, (.int .i64 x338)]) Tryz_C32 ⟨rfl, rfl, rfl, trivial⟩) (M.spec_l28Rank_ok _ a0 (hL.rdS 2 rfl h2) (hL.rdS 2 rfl h4) a1 (hL.rdS 2 rfl h6) x338 hx360) ?_)
   rintro e361 wd362 ⟨rfl, hF363⟩
   refine ⟨_, rfl, ?_⟩
   have hL := hL.pushAll hF363
   simp only [lA, lB, lC, lD] at hL
   refine ⟨(hL.sel [0, 1, 2] (by decide) rfl), ?_⟩
   obtain ⟨x364, hx365, hm⟩ := bndE hm
   refine DH.only 8 rfl (by kernel_rfl) (OP.call rfl (x_call (vs := [(.int .i64 x359)]) Tryz_C31 ⟨rfl, trivial⟩) (M.spec_l26Number_ok _ x359 hx365) ?_)
   rintro e366 wd367 ⟨rfl, hF368⟩
   refine ⟨_, rfl, ?_⟩
   have hL := hL.pushAll hF368
   simp only [lA, lB, lC, lD] at hL
   refine ⟨(hL.sel [0, 1, 2] (by decide) rfl), ?_⟩
   have hS := (hL.sel [0, 1, 2] (by decide) rfl)
   obtain ⟨hc369, hm⟩ := chkE hm
   refine DH.take 9 rfl (by kernel_rfl) (by kernel_rfl) (by kernel_rfl) rfl rfl hS (YH.val (v := (.string (s_l1.1 ++ x364))) (fun w' hS' => x_addT rfl rfl hc369)) ?_
   have hS := (hL.sel [0, 1, 2] (by decide) rfl)
   obtain ⟨hc370, hm⟩ := chkE hm
   refine DH.take 10 rfl (by kernel_rfl) (by kernel_rfl) (by kernel_rfl) rfl rfl hS (YH.val (v := (.string ((s_l1.1 ++ x364) ++ (⟨#[32]⟩ : ByteArray)))) (fun w' hS' => x_addT rfl rfl hc370)) ?_
   obtain ⟨x371, hx372, hm⟩ := bndE hm
   refine DH.only 15 rfl (by kernel_rfl) (OP.call rfl (x_call (vs := [(.int .i64 x345)]) Tryz_C31 ⟨rfl, trivial⟩) (M.spec_l26Number_ok _ x345 hx372) ?_)
   rintro e373 wd374 ⟨rfl, hF375⟩
   refine ⟨_, rfl, ?_⟩
   have hL := hL.pushAll hF375
   simp only [lA, lB, lC, lD] at hL
   refine ⟨(hL.sel [0, 1, 2] (by decide) rfl), ?_⟩
   have hS := (hL.sel [0, 1, 2] (by decide) rfl)
   obtain ⟨hc376, hm⟩ := chkE hm
   refine DH.take 16 rfl (by kernel_rfl) (by kernel_rfl) (by kernel_rfl) rfl rfl hS (YH.val (v := (.string (((s_l1.1 ++ x364) ++ (⟨#[32]⟩ : ByteArray)) ++ x371))) (fun w' hS' => x_addT rfl rfl hc376)) ?_
   have hS := (hL.sel [0, 1, 2] (by decide) rfl)
   obtain ⟨hc377, hm⟩ := chkE hm
   refine DH.take 17 rfl (by kernel_rfl) (by kernel_rfl) (by kernel_rfl) rfl rfl hS (YH.val (v := (.string ((((s_l1.1 ++ x364) ++ (⟨#[32]⟩ : ByteArray)) ++ x371) ++ (⟨#[32]⟩ : ByteArray)))) (fun w' hS' => x_addT rfl rfl hc377)) ?_
   obtain ⟨x378, hx379, hm⟩ := bndE hm
   refine DH.only 24 rfl (by kernel_rfl) (OP.call rfl (x_call (vs := [(.agg #[(.int .i64 a0.Boats), v1, v3]), v5, (.int .i64 x352)]) Tryz_C34 ⟨rfl, rfl, rfl, trivial⟩) (M.spec_l27Counted_ok _ a0 (hL.rdS 2 rfl h2) (hL.rdS 2 rfl h4) a1 (hL.rdS 2 rfl h6) x352 hx379) ?_)
   rintro e382 wd383 ⟨v381, S380, rfl, hF384⟩
   refine ⟨_, rfl, ?_⟩
   have hL := hL.pushAll hF384
   simp only [lA, lB, lC, lD] at hL
   refine ⟨(hL.sel [1, 2, 3] (by decide) rfl), ?_⟩
   obtain ⟨x385, hx386, hm⟩ := bndE hm
   refine DH.only 25 rfl (by kernel_rfl) (OP.call rfl (x_call (vs := [v381]) Tryz_C33 ⟨rfl, trivial⟩) (M.spec_l27Sum_ok _ x378 (hL.rdO 0 rfl) hx386) ?_)
   rintro e387 wd388 ⟨rfl, hF389⟩
   refine ⟨_, rfl, ?_⟩
   have hL := hL.pushAll hF389
   simp only [lA, lB, lC, lD] at hL
   refine ⟨(hL.sel [1, 2, 3] (by decide) rfl), ?_⟩
   obtain ⟨x390, hx391, hm⟩ := bndE hm
   refine DH.only 26 rfl (by kernel_rfl) (OP.call rfl (x_call (vs := [(.int .i64 x385)]) Tryz_C31 ⟨rfl, trivial⟩) (M.spec_l26Number_ok _ x385 hx391) ?_)
   rintro e392 wd393 ⟨rfl, hF394⟩
   refine ⟨_, rfl, ?_⟩
   have hL := hL.pushAll hF394
   simp only [lA, lB, lC, lD] at hL
   refine ⟨(hL.sel [1, 2, 3] (by decide) rfl), ?_⟩
   have hS := (hL.sel [1, 2, 3] (by decide) rfl)
   obtain ⟨hc395, hm⟩ := chkE hm
   refine DH.take 27 rfl (by kernel_rfl) (by kernel_rfl) (by kernel_rfl) rfl rfl hS (YH.val (v := (.string (((((s_l1.1 ++ x364) ++ (⟨#[32]⟩ : ByteArray)) ++ x371) ++ (⟨#[32]⟩ : ByteArray)) ++ x390))) (fun w' hS' => x_addT rfl rfl hc395)) ?_
   have hS := (hL.sel [1, 2, 3] (by decide) rfl)
   obtain ⟨hc396, hm⟩ := chkE hm
   refine DH.take 28 rfl (by kernel_rfl) (by kernel_rfl) (by kernel_rfl) rfl rfl hS (YH.val (v := (.string ((((((s_l1.1 ++ x364) ++ (⟨#[32]⟩ : ByteArray)) ++ x371) ++ (⟨#[32]⟩ : ByteArray)) ++ x390) ++ (⟨#[10]⟩ : ByteArray)))) (fun w' hS' => x_addT rfl rfl hc396)) ?_
   have hS := (hL.sel [1, 2, 3] (by decide) rfl)
   refine DH.take 29 rfl (by kernel_rfl) (by kernel_rfl) (by kernel_rfl) rfl rfl hS (YH.val (v := (.string ((((((s_l1.1 ++ x364) ++ (⟨#[32]⟩ : ByteArray)) ++ x371) ++ (⟨#[32]⟩ : ByteArray)) ++ x390) ++ (⟨#[10]⟩ : ByteArray)))) (fun w' hS' => x_assign)) ?_
   refine DH.done (by kernel_rfl) ?_
   refine CW.regionL ?_
   refine OV (.int .i64 s_l1.2) rfl (x_mv f277) ?_
   refine OV (.int .i64 (w64 (s_l1.2 + 1))) rfl (x_add rfl rfl) ?_
   refine OV (.int .i64 (w64 (s_l1.2 + 1))) rfl (x_assign) ?_
   refine OW.nil ?_
   have hL := hL.sel [1, 2, 3] (by decide) rfl
   obtain rfl := Option.some.inj hm
   exact ⟨_, rfl, ⟨f273, f274, rfl, f276, rfl, hL⟩⟩
 refine CW.exit ?_
 refine XJ.hit ?_
 obtain rfl := Option.some.inj hm
 exact ⟨_, rfl, ⟨f273, f274, f275, f276, f277, hL⟩⟩

theorem M.impl_RanksOf_ok (w0 : World) (a0 : Table) {v1 : Value} {v3 : Value} (h2 : rdL (· < w0.heap.size) w0 v1 a0.Points) (h4 : rdL (· < w0.heap.size) w0 v3 a0.Codes) (a1 : List Int) {v5 : Value} (h6 : rdL (· < w0.heap.size) w0 v5 a1) {r : (List Int) × Int} (hm : M.impl_RanksOf a0 a1 = some r) :
    Calls Tryz.prog 12 #[(.agg #[(.int .i64 a0.Boats), v1, v3]), v5] w0 fun e w' => ∃ (rv0 : Value) (rS0 : Nat → Prop), e = .returned (.tuple #[rv0, (.int .i64 r.2)]) ∧ Fresh w0 w' [Ent.own 2 rS0 rv0 r.1] := by
 unfold M.impl_RanksOf at hm
 refine calls_CW (args := [(.agg #[(.int .i64 a0.Boats), v1, v3]), v5]) Tryz.func12 rfl rfl rfl ?_
 have hL := Hp.start w0
 refine CSR ?_
 refine OW.cons (S_box (cs := #[(.int .i64 a0.Boats), v1, v3]) hL rfl rfl rfl ?_)
 intro wd7 b8 hL
 refine OV (.slice none 0 0) rfl (x_assign) ?_
 refine OV (.int .i64 0) rfl (x_assign) ?_
 refine ONS ?_
 refine CSR ?_
 refine OV (.agg #[(.int .i64 a0.Boats), v1, v3]) rfl (x_loadN (cs := [(.int .i64 a0.Boats), v1, v3]) U26 Tryz_T26 rfl rfl (hL.cellsB 0 rfl (o := 0) (l := [(.int .i64 a0.Boats), v1, v3]) (by intro j u hj; exact (by simpa using hj)))) ?_
 refine OV v5 rfl (x_move) ?_
 obtain ⟨x9, hx10, hm⟩ := bndE hm
 refine OW.cons (OP.call rfl (x_call (vs := [(.agg #[(.int .i64 a0.Boats), v1, v3]), v5, (.int .i64 0)]) Tryz_C24 ⟨rfl, rfl, rfl, trivial⟩) (M.impl_tableCode_ok _ a0 (hL.rdS 1 rfl h2) (hL.rdS 1 rfl h4) a1 (hL.rdS 1 rfl h6) 0 hx10) ?_)
 rintro e11 wd12 ⟨rfl, hF13⟩
 refine ⟨_, rfl, ?_⟩
 have hL := hL.pushAll hF13
 simp only [lA, lB, lC, lD] at hL
 refine OV (.int .i64 x9) rfl (x_assign) ?_
 refine ONR ?_
 refine OV (.int .i64 x9) rfl (x_move) ?_
 refine OV (.bool (x9 != 0)) rfl (x_neq rfl rfl) ?_
 refine OW.nil ?_
 refine CW.condM (t := x9 != 0) rfl hm (fun hb14 hm => ?_) (fun hb14 hm => ?_)
 · refine CSR ?_
   refine OV (.int .i64 x9) rfl (x_move) ?_
   refine OV (.slice none 0 0) rfl (x_assign) ?_
   refine OV (.int .i64 x9) rfl (x_assign) ?_
   refine OW.nil ?_
   refine CW.ret ?_
   have hL := hL.pushNil Int 2
   obtain rfl := Option.some.inj hm
   exact RR2 rfl rfl rfl ⟨(.slice none 0 0), None_, rfl, hL.fresh 2 rfl [0] (by decide) (by decide) rfl⟩
 refine CW.skip ?_
 refine CSR ?_
 refine OV (.agg #[(.int .i64 a0.Boats), v1, v3]) rfl (x_loadN (cs := [(.int .i64 a0.Boats), v1, v3]) U26 Tryz_T26 rfl rfl (hL.cellsB 0 rfl (o := 0) (l := [(.int .i64 a0.Boats), v1, v3]) (by intro j u hj; exact (by simpa using hj)))) ?_
 refine OV v5 rfl (x_move) ?_
 obtain ⟨x15, hx16, hm⟩ := bndE hm
 refine OW.cons (OP.call rfl (x_call (vs := [(.agg #[(.int .i64 a0.Boats), v1, v3]), v5]) Tryz_C28 ⟨rfl, rfl, trivial⟩) (M.impl_ranksOf_ok _ a0 (hL.rdS 1 rfl h2) (hL.rdS 1 rfl h4) a1 (hL.rdS 1 rfl h6) hx16) ?_)
 rintro e19 wd20 ⟨v18, S17, rfl, hF21⟩
 refine ⟨_, rfl, ?_⟩
 have hL := hL.pushAll hF21
 simp only [lA, lB, lC, lD] at hL
 refine OV v18 rfl (x_assign) ?_
 refine OV (.int .i64 0) rfl (x_assign) ?_
 refine OW.nil ?_
 refine CW.ret ?_
 obtain rfl := Option.some.inj hm
 exact RR2 rfl rfl rfl ⟨v18, S17, rfl, hL.fresh 2 rfl [0] (by decide) (by decide) rfl⟩

theorem M.impl_boatsCode_ok (w0 : World) (a0 : Table) {v1 : Value} {v3 : Value} (h2 : rdL (· < w0.heap.size) w0 v1 a0.Points) (h4 : rdL (· < w0.heap.size) w0 v3 a0.Codes) (a1 : List Int) {v5 : Value} (h6 : rdL (· < w0.heap.size) w0 v5 a1) (a2 : Int) (a3 : Int) {r : Int} (hm : M.impl_boatsCode a0 a1 a2 a3 = some r) :
    Calls Tryz.prog 35 #[(.agg #[(.int .i64 a0.Boats), v1, v3]), v5, (.int .i64 a2), (.int .i64 a3)] w0 fun e w' => e = .returned (.int .i64 r) ∧ Fresh w0 w' [] := by
 unfold M.impl_boatsCode at hm
 refine calls_CW (args := [(.agg #[(.int .i64 a0.Boats), v1, v3]), v5, (.int .i64 a2), (.int .i64 a3)]) Tryz.func35 rfl rfl rfl ?_
 have hL := Hp.start w0
 refine CSR ?_
 refine OW.cons (S_box (cs := #[(.int .i64 a0.Boats), v1, v3]) hL rfl rfl rfl ?_)
 intro wd7 b8 hL
 refine OV (.int .i64 0) rfl (x_assign) ?_
 refine ONS ?_
 refine CSR ?_
 refine OV (.agg #[(.int .i64 a0.Boats), v1, v3]) rfl (x_loadN (cs := [(.int .i64 a0.Boats), v1, v3]) U26 Tryz_T26 rfl rfl (hL.cellsB 0 rfl (o := 0) (l := [(.int .i64 a0.Boats), v1, v3]) (by intro j u hj; exact (by simpa using hj)))) ?_
 refine OV v5 rfl (x_move) ?_
 refine OV (.int .i64 a2) rfl (x_move) ?_
 obtain ⟨x9, hx10, hm⟩ := bndE hm
 refine OW.cons (OP.call rfl (x_call (vs := [(.agg #[(.int .i64 a0.Boats), v1, v3]), v5, (.int .i64 a2)]) Tryz_C24 ⟨rfl, rfl, rfl, trivial⟩) (M.impl_tableCode_ok _ a0 (hL.rdS 1 rfl h2) (hL.rdS 1 rfl h4) a1 (hL.rdS 1 rfl h6) a2 hx10) ?_)
 rintro e11 wd12 ⟨rfl, hF13⟩
 refine ⟨_, rfl, ?_⟩
 have hL := hL.pushAll hF13
 simp only [lA, lB, lC, lD] at hL
 refine OV (.int .i64 x9) rfl (x_assign) ?_
 refine ONR ?_
 refine OV (.int .i64 x9) rfl (x_move) ?_
 refine OV (.bool (x9 != 0)) rfl (x_neq rfl rfl) ?_
 refine OW.nil ?_
 refine CW.condM (t := x9 != 0) rfl hm (fun hb14 hm => ?_) (fun hb14 hm => ?_)
 · refine CSR ?_
   refine OV (.int .i64 x9) rfl (x_move) ?_
   refine OV (.int .i64 x9) rfl (x_assign) ?_
   refine OW.nil ?_
   refine CW.ret ?_
   obtain rfl := Option.some.inj hm
   exact RR1 rfl rfl ⟨rfl, hL.fresh 1 rfl [] (by decide) (by decide) rfl⟩
 refine CW.skip ?_
 refine CSR ?_
 refine OV (.agg #[(.int .i64 a0.Boats), v1, v3]) rfl (x_loadN (cs := [(.int .i64 a0.Boats), v1, v3]) U26 Tryz_T26 rfl rfl (hL.cellsB 0 rfl (o := 0) (l := [(.int .i64 a0.Boats), v1, v3]) (by intro j u hj; exact (by simpa using hj)))) ?_
 refine OV v5 rfl (x_move) ?_
 refine OV (.int .i64 a3) rfl (x_move) ?_
 obtain ⟨x15, hx16, hm⟩ := bndE hm
 refine OW.cons (OP.call rfl (x_call (vs := [(.agg #[(.int .i64 a0.Boats), v1, v3]), v5, (.int .i64 a3)]) Tryz_C24 ⟨rfl, rfl, rfl, trivial⟩) (M.impl_tableCode_ok _ a0 (hL.rdS 1 rfl h2) (hL.rdS 1 rfl h4) a1 (hL.rdS 1 rfl h6) a3 hx16) ?_)
 rintro e17 wd18 ⟨rfl, hF19⟩
 refine ⟨_, rfl, ?_⟩
 have hL := hL.pushAll hF19
 simp only [lA, lB, lC, lD] at hL
 refine OV (.int .i64 x15) rfl (x_assign) ?_
 refine OW.nil ?_
 refine CW.ret ?_
 obtain rfl := Option.some.inj hm
 exact RR1 rfl rfl ⟨rfl, hL.fresh 1 rfl [] (by decide) (by decide) rfl⟩

theorem M.impl_CompareBoats_ok (w0 : World) (a0 : Table) {v1 : Value} {v3 : Value} (h2 : rdL (· < w0.heap.size) w0 v1 a0.Points) (h4 : rdL (· < w0.heap.size) w0 v3 a0.Codes) (a1 : List Int) {v5 : Value} (h6 : rdL (· < w0.heap.size) w0 v5 a1) (a2 : Int) (a3 : Int) {r : Int × Int × Int} (hm : M.impl_CompareBoats a0 a1 a2 a3 = some r) :
    Calls Tryz.prog 13 #[(.agg #[(.int .i64 a0.Boats), v1, v3]), v5, (.int .i64 a2), (.int .i64 a3)] w0 fun e w' => e = .returned (.tuple #[(.int .i64 r.1), (.int .i64 r.2.1), (.int .i64 r.2.2)]) ∧ Fresh w0 w' [] := by
 unfold M.impl_CompareBoats at hm
 refine calls_CW (args := [(.agg #[(.int .i64 a0.Boats), v1, v3]), v5, (.int .i64 a2), (.int .i64 a3)]) Tryz.func13 rfl rfl rfl ?_
 have hL := Hp.start w0
 refine CSR ?_
 refine OW.cons (S_box (cs := #[(.int .i64 a0.Boats), v1, v3]) hL rfl rfl rfl ?_)
 intro wd7 b8 hL
 refine OV (.int .i64 0) rfl (x_assign) ?_
 refine OV (.int .i64 0) rfl (x_assign) ?_
 refine OV (.int .i64 0) rfl (x_assign) ?_
 refine ONS ?_
 refine CSR ?_
 refine OV (.agg #[(.int .i64 a0.Boats), v1, v3]) rfl (x_loadN (cs := [(.int .i64 a0.Boats), v1, v3]) U26 Tryz_T26 rfl rfl (hL.cellsB 0 rfl (o := 0) (l := [(.int .i64 a0.Boats), v1, v3]) (by intro j u hj; exact (by simpa using hj)))) ?_
 refine OV v5 rfl (x_move) ?_
 refine OV (.int .i64 a2) rfl (x_move) ?_
 refine OV (.int .i64 a3) rfl (x_move) ?_
 obtain ⟨x9, hx10, hm⟩ := bndE hm
 refine OW.cons (OP.call rfl (x_call (vs := [(.agg #[(.int .i64 a0.Boats), v1, v3]), v5, (.int .i64 a2), (.int .i64 a3)]) Tryz_C35 ⟨rfl, rfl, rfl, rfl, trivial⟩) (M.impl_boatsCode_ok _ a0 (hL.rdS 1 rfl h2) (hL.rdS 1 rfl h4) a1 (hL.rdS 1 rfl h6) a2 a3 hx10) ?_)
 rintro e11 wd12 ⟨rfl, hF13⟩
 refine ⟨_, rfl, ?_⟩
 have hL := hL.pushAll hF13
 simp only [lA, lB, lC, lD] at hL
 refine OV (.int .i64 x9) rfl (x_assign) ?_
 refine ONR ?_
 refine OV (.int .i64 x9) rfl (x_move) ?_
 refine OV (.bool (x9 != 0)) rfl (x_neq rfl rfl) ?_
 refine OW.nil ?_
 refine CW.condM (t := x9 != 0) rfl hm (fun hb14 hm => ?_) (fun hb14 hm => ?_)
 · refine CSR ?_
   refine OV (.int .i64 x9) rfl (x_move) ?_
   refine OV (.int .i64 0) rfl (x_assign) ?_
   refine OV (.int .i64 0) rfl (x_assign) ?_
   refine OV (.int .i64 x9) rfl (x_assign) ?_
   refine OW.nil ?_
   refine CW.ret ?_
   obtain rfl := Option.some.inj hm
   exact RR3 rfl rfl rfl rfl ⟨rfl, hL.fresh 1 rfl [] (by decide) (by decide) rfl⟩
 refine CW.skip ?_
 refine CSR ?_
 refine OV (.agg #[(.int .i64 a0.Boats), v1, v3]) rfl (x_loadN (cs := [(.int .i64 a0.Boats), v1, v3]) U26 Tryz_T26 rfl rfl (hL.cellsB 0 rfl (o := 0) (l := [(.int .i64 a0.Boats), v1, v3]) (by intro j u hj; exact (by simpa using hj)))) ?_
 refine OV v5 rfl (x_move) ?_
 refine OV (.int .i64 a2) rfl (x_move) ?_
 refine OV (.int .i64 a3) rfl (x_move) ?_
 obtain ⟨x15, hx16, hm⟩ := bndE hm
 refine OW.cons (OP.call rfl (x_call (vs := [(.agg #[(.int .i64 a0.Boats), v1, v3]), v5, (.int .i64 a2), (.int .i64 a3)]) Tryz_C36 ⟨rfl, rfl, rfl, rfl, trivial⟩) (M.impl_compareBoats_ok _ a0 (hL.rdS 1 rfl h2) (hL.rdS 1 rfl h4) a1 (hL.rdS 1 rfl h6) a2 a3 hx16) ?_)
 rintro e17 wd18 ⟨rfl, hF19⟩
 refine ⟨_, rfl, ?_⟩
 have hL := hL.pushAll hF19
 simp only [lA, lB, lC, lD] at hL
 refine OV (.tuple #[(.int .i64 x15.1), (.int .i64 x15.2.1), (.int .i64 x15.2.2)]) rfl (x_move) ?_
 refine OV (.int .i64 x15.1) rfl (x_extract rfl rfl) ?_
 refine OV (.int .i64 x15.2.1) rfl (x_extract rfl rfl) ?_
 refine OV (.int .i64 x15.2.2) rfl (x_extract rfl rfl) ?_
 refine OV (.int .i64 x15.1) rfl (x_assign) ?_
 refine OV (.int .i64 x15.2.1) rfl (x_assign) ?_
 refine OV (.int .i64 x15.2.2) rfl (x_assign) ?_
 refine ONR ?_
 refine OV (.int .i64 x15.1) rfl (x_move) ?_
 refine OV (.int .i64 x15.2.1) rfl (x_move) ?_
 refine OV (.int .i64 x15.1) rfl (x_assign) ?_
 refine OV (.int .i64 x15.2.1) rfl (x_assign) ?_
 refine OV (.int .i64 0) rfl (x_assign) ?_
 refine OW.nil ?_
 refine CW.ret ?_
 obtain rfl := Option.some.inj hm
 exact RR3 rfl rfl rfl rfl ⟨rfl, hL.fresh 1 rfl [] (by decide) (by decide) rfl⟩

theorem M.laws_FnStanding_ok (w0 : World) (htab : Lib.TabIs Tryz.prog w0 "internal/strconv.uint64pow10" .u64 Lib.pow10Tab) (a0 : List UInt8) {v1 : Value} (h2 : rdL (· < w0.heap.size) w0 v1 a0) {r : Bool} (hm : M.laws_FnStanding a0 = some r) :
    Calls Tryz.prog 3 #[v1] w0 fun e w' => e = .returned (.bool r) ∧ Fresh w0 w' [] := by
 unfold M.laws_FnStanding at hm
 refine calls_CW (args := [v1]) Tryz.func3 rfl rfl rfl ?_
 have hL := Hp.start w0
 refine CSR ?_
 refine OV (.bool false) rfl (x_assign) ?_
 refine ONS ?_
 refine CSR ?_
 refine OV v1 rfl (x_move) ?_
 obtain ⟨x3, hx4, hm⟩ := bndE hm
 refine OW.cons (OP.call rfl (x_call (vs := [v1]) Tryz_C5 ⟨rfl, trivial⟩) (M.laws_big_ok _ a0 (hL.rdS 0 rfl h2) hx4) ?_)
 rintro e5 wd6 ⟨rfl, hF7⟩
 refine ⟨_, rfl, ?_⟩
 have hL := hL.pushAll hF7
 simp only [lA, lB, lC, lD] at hL
 refine OW.nil ?_
 refine CW.condM (t := x3) rfl hm (fun hb8 hm => ?_) (fun hb8 hm => ?_)
 · refine CSR ?_
   refine OV (.bool true) rfl (x_assign) ?_
   refine OW.nil ?_
   refine CW.ret ?_
   obtain rfl := Option.some.inj hm
   exact RR1 rfl rfl ⟨rfl, hL.fresh 0 rfl [] (by decide) (by decide) rfl⟩
 refine CW.skip ?_
 refine CSR ?_
 refine OV v1 rfl (x_move) ?_
 obtain ⟨x9, hx10, hm⟩ := bndE hm
 refine OW.cons (OP.call rfl (x_call (vs := [v1]) Tryz_C6 ⟨rfl, trivial⟩) (M.spec_DrawStandingOf_ok _ a0 (hL.rdS 0 rfl h2) hx10) ?_)
 rintro e17 wd18 ⟨v12, S11, v14, S13, v16, S15, rfl, hF19⟩
 refine ⟨_, rfl, ?_⟩
 have hL := hL.pushAll hF19
 simp only [lA, lB, lC, lD] at hL
 obtain ⟨wz20, hL, ho21⟩ := hL.rdxFz 0 rfl
 simp only [lC, lD] at hL
 obtain ⟨wz22, hL, ho23⟩ := hL.rdxFz 1 rfl
 simp only [lC, lD] at hL
 obtain ⟨wz24, hL, ho25⟩ := hL.rdxFz 2 rfl
 simp only [lC, lD] at hL
 refine OV (.tuple #[(.agg #[(.int .i64 x9.1.Boats), v12, v14]), v16]) rfl (x_move) ?_
 refine OV (.agg #[(.int .i64 x9.1.Boats), v12, v14]) rfl (x_extract rfl rfl) ?_
 refine OV v16 rfl (x_extract rfl rfl) ?_
 refine OW.cons (S_alloc (cs := #[(.int .i64 0), (.slice none 0 0), (.slice none 0 0)]) hL Tryz_T26 rfl rfl ?_)
 intro wd26 b27 hL
 refine OW.cons (S_storeN (l := [(.int .i64 x9.1.Boats), v12, v14]) (cs' := #[(.int .i64 x9.1.Boats), v12, v14]) hL 0 rfl Tryz_T26 rfl rfl (List.forall_mem_cons.2 ⟨rfl, (List.forall_mem_cons.2 ⟨rdL_one (hL.rdF 1 rfl ho21.1.rdL), (List.forall_mem_cons.2 ⟨rdL_one (hL.rdF 2 rfl ho23.1.rdL), (fun _ h => by cases h)⟩)⟩)⟩) rfl (Nat.le_of_ble_eq_true rfl) rfl ?_)
 intro wd28 hL
 refine OV v16 rfl (x_assign) ?_
 refine ONR ?_
 refine OV (.agg #[(.int .i64 x9.1.Boats), v12, v14]) rfl (x_loadN (cs := [(.int .i64 x9.1.Boats), v12, v14]) U26 Tryz_T26 rfl rfl (hL.cellsB 0 rfl (o := 0) (l := [(.int .i64 x9.1.Boats), v12, v14]) (by intro j u hj; exact (by simpa using hj)))) ?_
 refine OV v16 rfl (x_move) ?_
 obtain ⟨x29, hx30, hm⟩ := bndE hm
 refine OW.cons (OP.call rfl (x_call (vs := [(.agg #[(.int .i64 x9.1.Boats), v12, v14]), v16]) Tryz_C7 ⟨rfl, rfl, trivial⟩) (M.impl_StandingOf_ok _ x9.1 (hL.rdF 1 rfl ho21.1.rdL) (hL.rdF 2 rfl ho23.1.rdL) x9.2 (hL.rdF 3 rfl ho25.1.rdL) hx30) ?_)
 rintro e33 wd34 ⟨v32, S31, rfl, hF35⟩
 refine ⟨_, rfl, ?_⟩
 have hL := hL.pushAll hF35
 simp only [lA, lB, lC, lD] at hL
 refine OV (.tuple #[v32, (.int .i64 x29.2)]) rfl (x_move) ?_
 refine OV v32 rfl (x_extract rfl rfl) ?_
 refine OV (.int .i64 x29.2) rfl (x_extract rfl rfl) ?_
 refine OV v32 rfl (x_assign) ?_
 refine OV (.int .i64 x29.2) rfl (x_assign) ?_
 refine ONR ?_
 refine OV v1 rfl (x_move) ?_
 obtain ⟨x36, hx37, hm⟩ := bndE hm
 refine OW.cons (OP.call rfl (x_call (vs := [v1]) Tryz_C6 ⟨rfl, trivial⟩) (M.spec_DrawStandingOf_ok _ a0 (hL.rdS 5 rfl h2) hx37) ?_)
 rintro e44 wd45 ⟨v39, S38, v41, S40, v43, S42, rfl, hF46⟩
 refine ⟨_, rfl, ?_⟩
 have hL := hL.pushAll hF46
 simp only [lA, lB, lC, lD] at hL
 obtain ⟨wz47, hL, ho48⟩ := hL.rdxFz 0 rfl
 simp only [lC, lD] at hL
 obtain ⟨wz49, hL, ho50⟩ := hL.rdxFz 1 rfl
 simp only [lC, lD] at hL
 obtain ⟨wz51, hL, ho52⟩ := hL.rdxFz 2 rfl
 simp only [lC, lD] at hL
 refine OV (.tuple #[(.agg #[(.int .i64 x36.1.Boats), v39, v41]), v43]) rfl (x_move) ?_
 refine OV (.agg #[(.int .i64 x36.1.Boats), v39, v41]) rfl (x_extract rfl rfl) ?_
 refine OV v43 rfl (x_extract rfl rfl) ?_
 refine OW.cons (S_storeN (l := [(.int .i64 x36.1.Boats), v39, v41]) (cs' := #[(.int .i64 x36.1.Boats), v39, v41]) hL 4 rfl Tryz_T26 rfl rfl (List.forall_mem_cons.2 ⟨rfl, (List.forall_mem_cons.2 ⟨rdL_one (hL.rdF 0 rfl ho48.1.rdL), (List.forall_mem_cons.2 ⟨rdL_one (hL.rdF 1 rfl ho50.1.rdL), (fun _ h => by cases h)⟩)⟩)⟩) rfl (Nat.le_of_ble_eq_true rfl) rfl ?_)
 intro wd53 hL
 refine OV v43 rfl (x_assign) ?_
 refine ONR ?_
 refine OV (.agg #[(.int .i64 x36.1.Boats), v39, v41]) rfl (x_loadN (cs := [(.int .i64 x36.1.Boats), v39, v41]) U26 Tryz_T26 rfl rfl (hL.cellsB 4 rfl (o := 0) (l := [(.int .i64 x36.1.Boats), v39, v41]) (by intro j u hj; exact (by simpa using hj)))) ?_
 refine OV v43 rfl (x_move) ?_
 obtain ⟨x54, hx55, hm⟩ := bndE hm
 refine OW.cons (OP.call rfl (x_call (vs := [(.agg #[(.int .i64 x36.1.Boats), v39, v41]), v43]) Tryz_C8 ⟨rfl, rfl, trivial⟩) (M.spec_StandingOf_ok _ x36.1 (hL.rdF 0 rfl ho48.1.rdL) (hL.rdF 1 rfl ho50.1.rdL) x36.2 (hL.rdF 2 rfl ho52.1.rdL) hx55) ?_)
 rintro e58 wd59 ⟨v57, S56, rfl, hF60⟩
 refine ⟨_, rfl, ?_⟩
 have hL := hL.pushAll hF60
 simp only [lA, lB, lC, lD] at hL
 refine OV (.tuple #[v57, (.int .i64 x54.2)]) rfl (x_move) ?_
 refine OV v57 rfl (x_extract rfl rfl) ?_
 refine OV (.int .i64 x54.2) rfl (x_extract rfl rfl) ?_
 refine OV v57 rfl (x_assign) ?_
 refine OV (.int .i64 x54.2) rfl (x_assign) ?_
 refine ONS ?_
 refine CW.seqJ (fun (s_j1 : Bool) (F : Fr) (w : World) => F 3 = (.pointer (some ⟨b27, 0, none⟩)) ∧ F 4 = v43 ∧ F 6 = (.int .i64 x29.2) ∧ F 7 = v57 ∧ F 58 = (.bool s_j1) ∧ Hp w0 [Ent.own 2 S56 v57 x54.1, Ent.frzS wz47 S38, Ent.frzS wz49 S40, Ent.frzS wz51 S42, Ent.blk b27 26 #[(.int .i64 x36.1.Boats), v39, v41], Ent.snap w0 w0.heap.size] w) (fun s_j1 => M.laws_FnStanding_j1 x29 x36 x54 s_j1 = some r) ?_ ?_
 · refine CW.draw Tryz_mixed ?_
   have hL := hL.call (Mod.drew _)
   refine DW.pre (fuel := 0) (fin := bma 18 262143) (C := fun w' => Mod None_ _ w') [0, 1, 2, 3, 4, 5, 6, 7, 8, 9, 10, 11, 12, 13, 14, 15, 16, 17] (Mod.refl _ _) (by kernel_rfl) (by kernel_rfl) ?_
   refine QW.cons rfl (QP.val (v := (.int .i64 x29.2)) rfl (fun w' hm' => x_move) ?_)
   refine QW.cons rfl (QP.val (v := (.int .i64 x54.2)) rfl (fun w' hm' => x_move) ?_)
   refine QW.cons rfl (QP.val (v := (.bool (x29.2 != x54.2))) rfl (fun w' hm' => x_neq rfl rfl) ?_)
   refine QW.cons rfl (QP.val (v := (.bool (x29.2 != x54.2))) rfl (fun w' hm' => x_move) ?_)
   refine ifB_elim hm (fun hb1178 hm => ?_) (fun hb1178 hm => ?_)
   · refine QW.cons rfl (QP.no' rfl rfl hb1178 rfl ?_)
     refine QW.cons rfl (QP.no' rfl rfl hb1178 rfl ?_)
     refine QW.cons rfl (QP.no' rfl rfl hb1178 rfl ?_)
     refine QW.cons rfl (QP.no' rfl rfl hb1178 rfl ?_)
     refine QW.cons rfl (QP.val (v := (.bool true)) rfl (fun w' hm' => x_pickT' rfl hb1178 rfl) ?_)
     refine QW.cons rfl (QP.val (v := (.bool true)) rfl (fun w' hm' => x_move) ?_)
     refine QW.cons rfl (QP.no' rfl rfl rfl rfl ?_)
     refine QW.cons rfl (QP.no' rfl rfl rfl rfl ?_)
     refine QW.cons rfl (QP.no' rfl rfl rfl rfl ?_)
     refine QW.cons rfl (QP.no' rfl rfl rfl rfl ?_)
     refine QW.cons rfl (QP.no' rfl rfl rfl rfl ?_)
     refine QW.cons rfl (QP.no' rfl rfl rfl rfl ?_)
     refine QW.cons rfl (QP.no' rfl rfl rfl rfl ?_)
     refine QW.cons rfl (QP.val (v := (.bool true)) rfl (fun w' hm' => x_pickT' rfl rfl rfl) ?_)
     refine QW.nil ?_
     intro wd1179 hmod
     have hL := hL.call hmod
     refine DW.done (by kernel_rfl) ?_
     have hL := hL.sel [0, 1, 2, 3, 5, 9] (by decide) rfl
     exact ⟨true, hm, ⟨rfl, rfl, rfl, rfl, rfl, hL⟩⟩
   refine QW.cons rfl (QP.yes' rfl rfl hb1178 (QP.val (v := v32) rfl (fun w' hm' => x_move) ?_))
   refine QW.cons rfl (QP.yes' rfl rfl hb1178 (QP.val (v := v57) rfl (fun w' hm' => x_move) ?_))
   obtain ⟨x1180, hx1181, hm⟩ := bndE hm
   refine QW.cons rfl (QP.yes' rfl rfl hb1178 (QP.call (v := (.bool x1180)) rfl (fun w' hm' => x_call (vs := [v32, v57]) Tryz_C9 ⟨rfl, rfl, trivial⟩) (fun w' hm' => (M.laws_likeInts_ok w' x29.1 ((hL.call hm').rdO 4 rfl) x54.1 ((hL.call hm').rdO 0 rfl) hx1181).mono (fun e w'' h => ⟨h.1, hm'.trans h.2.mod⟩)) ?_))
   refine QW.cons rfl (QP.yes' rfl rfl hb1178 (QP.val (v := (.bool (!x1180))) rfl (fun w' hm' => x_not rfl) ?_))
   refine QW.cons rfl (QP.val (v := (.bool (!x1180))) rfl (fun w' hm' => x_pickF' rfl hb1178 rfl) ?_)
   refine QW.cons rfl (QP.val (v := (.bool (!x1180))) rfl (fun w' hm' => x_move) ?_)
   refine ifB_elim hm (fun hb1182 hm => ?_) (fun hb1182 hm => ?_)
   · refine QW.cons rfl (QP.no' rfl rfl hb1182 rfl ?_)
     refine QW.cons rfl (QP.no' rfl rfl hb1182 rfl ?_)
     refine QW.cons rfl (QP.no' rfl rfl hb1182 rfl ?_)
     refine QW.cons rfl (QP.no' rfl rfl hb1182 rfl ?_)
     refine QW.cons rfl (QP.no' rfl rfl hb1182 rfl ?_)
     refine QW.cons rfl (QP.no' rfl rfl hb1182 rfl ?_)
     refine QW.cons rfl (QP.no' rfl rfl hb1182 rfl ?_)
     refine QW.cons rfl (QP.val (v := (.bool true)) rfl (fun w' hm' => x_pickT' rfl hb1182 rfl) ?_)
     refine QW.nil ?_
     intro wd1183 hmod
     have hL := hL.call hmod
     refine DW.done (by kernel_rfl) ?_
     have hL := hL.sel [0, 1, 2, 3, 5, 9] (by decide) rfl
     exact ⟨true, hm, ⟨rfl, rfl, rfl, rfl, rfl, hL⟩⟩
   refine QW.cons rfl (QP.yes' rfl rfl hb1182 (QP.val (v := (.agg #[(.int .i64 x36.1.Boats), v39, v41])) rfl (fun w' hm' => x_loadN (cs := [(.int .i64 x36.1.Boats), v39, v41]) U26 Tryz_T26 rfl rfl ((hL.call hm').cellsB 5 rfl (o := 0) (l := [(.int .i64 x36.1.Boats), v39, v41]) (by intro j u hj; exact (by simpa using hj)))) ?_))
   refine QW.cons rfl (QP.yes' rfl rfl hb1182 (QP.val (v := v43) rfl (fun w' hm' => x_move) ?_))
   obtain ⟨x1184, hx1185, hm⟩ := bndE hm
   refine QW.cons rfl (QP.yes' rfl rfl hb1182 (QP.call (v := (.string x1184)) rfl (fun w' hm' => x_call (vs := [(.agg #[(.int .i64 x36.1.Boats), v39, v41]), v43]) Tryz_C10 ⟨rfl, rfl, trivial⟩) (fun w' hm' => (M.impl_StandingText_ok w' ((hL.call hm').tab 9 rfl rfl htab) x36.1 ((hL.call hm').rdF 1 rfl ho48.1.rdL) ((hL.call hm').rdF 2 rfl ho50.1.rdL) x36.2 ((hL.call hm').rdF 3 rfl ho52.1.rdL) hx1185).mono (fun e w'' h => ⟨h.1, hm'.trans h.2.mod⟩)) ?_))
   refine QW.cons rfl (QP.yes' rfl rfl hb1182 (QP.val (v := (.agg #[(.int .i64 x36.1.Boats), v39, v41])) rfl (fun w' hm' => x_loadN (cs := [(.int .i64 x36.1.Boats), v39, v41]) U26 Tryz_T26 rfl rfl ((hL.call hm').cellsB 5 rfl (o := 0) (l := [(.int .i64 x36.1.Boats), v39, v41]) (by intro j u hj; exact (by simpa using hj)))) ?_))
   refine QW.cons rfl (QP.yes' rfl rfl hb1182 (QP.val (v := v43) rfl (fun w' hm' => x_move) ?_))
   obtain ⟨x1186, hx1187, hm⟩ := bndE hm
   refine QW.cons rfl (QP.yes' rfl rfl hb1182 (QP.call (v := (.string x1186)) rfl (fun w' hm' => x_call (vs := [(.agg #[(.int .i64 x36.1.Boats), v39, v41]), v43]) Tryz_C11 ⟨rfl, rfl, trivial⟩) (fun w' hm' => (M.spec_StandingText_ok w' x36.1 ((hL.call hm').rdF 1 rfl ho48.1.rdL) ((hL.call hm').rdF 2 rfl ho50.1.rdL) x36.2 ((hL.call hm').rdF 3 rfl ho52.1.rdL) hx1187).mono (fun e w'' h => ⟨h.1, hm'.trans h.2.mod⟩)) ?_))
   refine QW.cons rfl (QP.yes' rfl rfl hb1182 (QP.val (v := (.bool (!(sEq x1184 x1186)))) rfl (fun w' hm' => x_neqT rfl rfl) ?_))
   refine QW.cons rfl (QP.val (v := (.bool (!(sEq x1184 x1186)))) rfl (fun w' hm' => x_pickF' rfl hb1182 rfl) ?_)
   refine QW.nil ?_
   intro wd1188 hmod
   have hL := hL.call hmod
   refine DW.done (by kernel_rfl) ?_
   have hL := hL.sel [0, 1, 2, 3, 5, 9] (by decide) rfl
   exact ⟨!(sEq x1184 x1186), hm, ⟨rfl, rfl, rfl, rfl, rfl, hL⟩⟩
 intro s_j1 F72 wd73 hJ hm
 unfold M.laws_FnStanding_j1 at hm
 obtain ⟨f74, f75, f76, f77, f78, hL⟩ := hJ
 refine CW.condM (t := s_j1) f78 hm (fun hb79 hm => ?_) (fun hb79 hm => ?_)
 · refine CSR ?_
   refine OV (.bool false) rfl (x_assign) ?_
   refine OW.nil ?_
   refine CW.ret ?_
   obtain rfl := Option.some.inj hm
   exact RR1 rfl rfl ⟨rfl, hL.fresh 5 rfl [] (by decide) (by decide) rfl⟩
 refine CW.skip ?_
 refine CW.seq ?_
 refine CSR ?_
 refine OV (.int .i64 x29.2) rfl (x_mv f76) ?_
 refine OV (.bool (x29.2 != 0)) rfl (x_neq rfl rfl) ?_
 refine OW.nil ?_
 refine CW.condM (t := x29.2 != 0) rfl hm (fun hb80 hm => ?_) (fun hb80 hm => ?_)
 · refine CSR ?_
   refine OV (.bool true) rfl (x_assign) ?_
   refine OW.nil ?_
   refine CW.ret ?_
   obtain rfl := Option.some.inj hm
   exact RR1 rfl rfl ⟨rfl, hL.fresh 5 rfl [] (by decide) (by decide) rfl⟩
 refine CW.skip ?_
 refine CSR ?_
 refine OV (.agg #[(.int .i64 x36.1.Boats), v39, v41]) rfl (x_loadN (cs := [(.int .i64 x36.1.Boats), v39, v41]) U26 Tryz_T26 rfl f74 (hL.cellsB 4 rfl (o := 0) (l := [(.int .i64 x36.1.Boats), v39, v41]) (by intro j u hj; exact (by simpa using hj)))) ?_
 refine OV v43 rfl (x_mv f75) ?_
 obtain ⟨x81, hx82, hm⟩ := bndE hm
 refine OW.cons (OP.call rfl (x_call (vs := [(.agg #[(.int .i64 x36.1.Boats), v39, v41]), v43]) Tryz_C12 ⟨rfl, rfl, trivial⟩) (M.impl_RanksOf_ok _ x36.1 (hL.rdF 1 rfl ho48.1.rdL) (hL.rdF 2 rfl ho50.1.rdL) x36.2 (hL.rdF 3 rfl ho52.1.rdL) hx82) ?_)
 rintro e85 wd86 ⟨v84, S83, rfl, hF87⟩
 refine ⟨_, rfl, ?_⟩
 have hL := hL.pushAll hF87
 simp only [lA, lB, lC, lD] at hL
 refine OV (.tuple #[v84, (.int .i64 x81.2)]) rfl (x_move) ?_
 refine OV v84 rfl (x_extract rfl rfl) ?_
 refine OV (.int .i64 x81.2) rfl (x_extract rfl rfl) ?_
 refine OV v84 rfl (x_assign) ?_
 refine OV (.int .i64 x81.2) rfl (x_assign) ?_
 refine ONS ?_
 refine CW.seqJ (fun (s_j2 : Bool) (F : Fr) (w : World) => F 3 = (.pointer (some ⟨b27, 0, none⟩)) ∧ F 4 = v43 ∧ F 7 = v57 ∧ F 9 = v84 ∧ F 75 = (.bool s_j2) ∧ Hp w0 [Ent.own 2 S83 v84 x81.1, Ent.own 2 S56 v57 x54.1, Ent.frzS wz47 S38, Ent.frzS wz49 S40, Ent.frzS wz51 S42, Ent.blk b27 26 #[(.int .i64 x36.1.Boats), v39, v41], Ent.snap w0 w0.heap.size] w) (fun s_j2 => M.laws_FnStanding_j2 x36 x54 x81 s_j2 = some r) ?_ ?_
 · refine CW.regionL ?_
   refine OV (.int .i64 x81.2) rfl (x_move) ?_
   refine OV (.bool (x81.2 != 0)) rfl (x_neq rfl rfl) ?_
   refine OV (.bool (x81.2 != 0)) rfl (x_move) ?_
   refine ifB_elim hm (fun hb1177 hm => ?_) (fun hb1177 hm => ?_)
   · refine OW.cons (OP.no' rfl rfl hb1177 rfl ?_)
     refine OW.cons (OP.no' rfl rfl hb1177 rfl ?_)
     refine OW.cons (OP.no' rfl rfl hb1177 rfl ?_)
     refine OW.cons (OP.no' rfl rfl hb1177 rfl ?_)
     refine OW.cons (OP.no' rfl rfl hb1177 rfl ?_)
     refine OV (.bool true) rfl (x_pickT' rfl hb1177 rfl) ?_
     refine OW.nil ?_
     exact ⟨true, hm, ⟨f74, f75, f77, rfl, rfl, hL⟩⟩
   refine OW.cons (OP.yes' rfl rfl hb1177 (OP.val (v := v84) rfl (x_move) ?_))
   refine OW.cons (OP.yes' rfl rfl hb1177 (OP.val (v := (.int .i64 (x81.1.length : Int))) rfl (x_lenR U27 rfl (hL.rdO 0 rfl)) ?_))
   refine OW.cons (OP.yes' rfl rfl hb1177 (OP.val (v := (.pointer (some ⟨b27, 0, none⟩))) rfl (x_fieldAddr (fsz := 1) 0 0 0 U26 rfl Tryz_T2 rfl f74 rfl) ?_))
   refine OW.cons (OP.yes' rfl rfl hb1177 (OP.val (v := (.int .i64 x36.1.Boats)) rfl (x_load1 U2 rfl rfl (hL.cellB 5 rfl rfl)) ?_))
   refine OW.cons (OP.yes' rfl rfl hb1177 (OP.val (v := (.bool ((x81.1.length : Int) != x36.1.Boats))) rfl (x_neq rfl rfl) ?_))
   refine OV (.bool ((x81.1.length : Int) != x36.1.Boats)) rfl (x_pickF' rfl hb1177 rfl) ?_
   refine OW.nil ?_
   exact ⟨(x81.1.length : Int) != x36.1.Boats, hm, ⟨f74, f75, f77, rfl, rfl, hL⟩⟩
 intro s_j2 F89 wd90 hJ hm
 unfold M.laws_FnStanding_j2 at hm
 obtain ⟨f91, f92, f93, f94, f95, hL⟩ := hJ
 refine CW.condM (t := s_j2) f95 hm (fun hb96 hm => ?_) (fun hb96 hm => ?_)
 · refine CSR ?_
   refine OV (.bool false) rfl (x_assign) ?_
   refine OW.nil ?_
   refine CW.ret ?_
   obtain rfl := Option.some.inj hm
   exact RR1 rfl rfl ⟨rfl, hL.fresh 6 rfl [] (by decide) (by decide) rfl⟩
 refine CW.skip ?_
 refine CW.seq ?_
 refine CSR ?_
 refine OV (.int .i64 0) rfl (x_assign) ?_
 refine OW.nil ?_
 obtain ⟨o807, ho808, hm⟩ := bndE hm
 refine CW.loopB (fun (s_l1 : Int) (F : Fr) (w : World) => F 3 = (.pointer (some ⟨b27, 0, none⟩)) ∧ F 4 = v43 ∧ F 7 = v57 ∧ F 9 = v84 ∧ F 11 = (.int .i64 s_l1) ∧ Hp w0 [Ent.own 2 S83 v84 x81.1, Ent.own 2 S56 v57 x54.1, Ent.frzS wz47 S38, Ent.frzS wz49 S40, Ent.frzS wz51 S42, Ent.blk b27 26 #[(.int .i64 x36.1.Boats), v39, v41], Ent.snap w0 w0.heap.size] w) (fun o => outc o (fun x => some x) (fun s => M.laws_FnStanding_a1 s) = some r) ho808 hm ⟨f91, f92, f93, f94, rfl, hL⟩ ?_ ?_
 · intro s_l1 F809 wd810 hJ hm
   have hm := outcE hm
   have hm : M.laws_FnStanding_a1 s_l1 = some r := hm
   unfold M.laws_FnStanding_a1 at hm
   obtain ⟨f811, f812, f813, f814, f815, hL⟩ := hJ
   refine CSR ?_
   refine OV (.bool true) rfl (x_assign) ?_
   refine OW.nil ?_
   refine CW.ret ?_
   obtain rfl := Option.some.inj hm
   exact RR1 rfl rfl ⟨rfl, hL.fresh 6 rfl [] (by decide) (by decide) rfl⟩
 intro s_l1 F816 wd817 t805 hJ hm hr806
 unfold M.laws_FnStanding_l1 at hm
 obtain ⟨f818, f819, f820, f821, f822, hL⟩ := hJ
 refine CW.seq ?_
 refine CSR ?_
 refine OV (.int .i64 s_l1) rfl (x_mv f822) ?_
 refine OV v57 rfl (x_mv f820) ?_
 refine OV (.int .i64 (x54.1.length : Int)) rfl (x_lenR U27 rfl (hL.rdO 1 rfl)) ?_
 refine OV (.bool (decide (s_l1 < (x54.1.length : Int)))) rfl (x_lss rfl rfl) ?_
 refine OW.nil ?_
 refine CW.condM (t := decide (s_l1 < (x54.1.length : Int))) rfl hm (fun hb823 hm => ?_) (fun hb823 hm => ?_)
 · refine CW.skip ?_
   refine CW.seq ?_
   refine CW.block ?_
   refine CSR ?_
   refine OV (.int .i64 0) rfl (x_assign) ?_
   refine ONS ?_
   refine CSR ?_
   refine OV (.int .i64 0) rfl (x_assign) ?_
   refine OW.nil ?_
   obtain ⟨o978, ho979, hm⟩ := bndE hm
   refine CW.loopB (fun (s_l2 : Int × Int) (F : Fr) (w : World) => F 3 = (.pointer (some ⟨b27, 0, none⟩)) ∧ F 4 = v43 ∧ F 7 = v57 ∧ F 9 = v84 ∧ F 11 = (.int .i64 s_l1) ∧ F 12 = (.int .i64 s_l2.1) ∧ F 13 = (.int .i64 s_l2.2) ∧ Hp w0 [Ent.own 2 S83 v84 x81.1, Ent.own 2 S56 v57 x54.1, Ent.frzS wz47 S38, Ent.frzS wz49 S40, Ent.frzS wz51 S42, Ent.blk b27 26 #[(.int .i64 x36.1.Boats), v39, v41], Ent.snap w0 w0.heap.size] w) (fun o => outc o (fun x => some (.ret x)) (fun s => M.laws_FnStanding_a2 x54 x81 s_l1 s) = some t805) ho979 hm ⟨f818, f819, f820, f821, f822, rfl, rfl, hL⟩ ?_ ?_
   · intro s_l2 F980 wd981 hJ hm
     have hm := outcE hm
     have hm : M.laws_FnStanding_a2 x54 x81 s_l1 s_l2 = some t805 := hm
     unfold M.laws_FnStanding_a2 at hm
     obtain ⟨f982, f983, f984, f985, f986, f987, f988, hL⟩ := hJ
     refine CW.seqJ (fun (s_j3 : Bool) (F : Fr) (w : World) => F 3 = (.pointer (some ⟨b27, 0, none⟩)) ∧ F 4 = v43 ∧ F 7 = v57 ∧ F 9 = v84 ∧ F 11 = (.int .i64 s_l1) ∧ F 137 = (.bool s_j3) ∧ Hp w0 [Ent.own 2 S83 v84 x81.1, Ent.own 2 S56 v57 x54.1, Ent.frzS wz47 S38, Ent.frzS wz49 S40, Ent.frzS wz51 S42, Ent.blk b27 26 #[(.int .i64 x36.1.Boats), v39, v41], Ent.snap w0 w0.heap.size] w) (fun s_j3 => M.laws_FnStanding_j3 s_l1 s_j3 = some t805) ?_ ?_
     · refine CW.draw Tryz_mixed ?_
       have hL := hL.call (Mod.drew _)
       refine DW.pre (fuel := 0) (fin := bma 32 4294967295) (C := fun w' => Mod None_ _ w') [0, 1, 2, 3, 4, 5, 6, 7, 8, 9, 10, 11, 12, 13, 14, 15, 16, 17, 18, 19, 20, 21, 22, 23, 24, 25, 26, 27, 28, 29, 30, 31] (Mod.refl _ _) (by kernel_rfl) (by kernel_rfl) ?_
       refine QW.cons rfl (QP.val (v := v84) rfl (fun w' hm' => x_mv f985) ?_)
       refine QW.cons rfl (QP.val (v := v57) rfl (fun w' hm' => x_mv f984) ?_)
       refine QW.cons rfl (QP.val (v := (.int .i64 s_l1)) rfl (fun w' hm' => x_mv f986) ?_)
       obtain ⟨x1045, ha1046, hm⟩ := bndE hm
       obtain ⟨hz1047, ha1051⟩ := idxE ha1046
       obtain ⟨b1048, q1049, hix1050⟩ := rdL_ix (hL.rdO 1 rfl) hz1047 ha1051
       refine QW.cons rfl (QP.val (v := (.pointer (some ⟨b1048, q1049, none⟩))) rfl (fun w' hm' => x_ix U27 Tryz_T2 rfl rfl hix1050) ?_)
       refine QW.cons rfl (QP.val (v := (.int .i64 x1045)) rfl (fun w' hm' => x_load1 U2 rfl rfl (rdF_cells ((hL.call hm').rdO 1 rfl) hix1050 ha1051 0 _ rfl)) ?_)
       obtain ⟨x1052, ha1053, hm⟩ := bndE hm
       obtain ⟨hz1054, ha1058⟩ := idxE ha1053
       obtain ⟨b1055, q1056, hix1057⟩ := rdL_ix (hL.rdO 0 rfl) hz1054 ha1058
       refine QW.cons rfl (QP.val (v := (.pointer (some ⟨b1055, q1056, none⟩))) rfl (fun w' hm' => x_ix U27 Tryz_T2 rfl rfl hix1057) ?_)
       refine QW.cons rfl (QP.val (v := (.int .i64 x1052)) rfl (fun w' hm' => x_load1 U2 rfl rfl (rdF_cells ((hL.call hm').rdO 0 rfl) hix1057 ha1058 0 _ rfl)) ?_)
       refine QW.cons rfl (QP.val (v := (.int .i64 s_l2.1)) rfl (fun w' hm' => x_mv f987) ?_)
       refine QW.cons rfl (QP.val (v := (.int .i64 (w64 (s_l2.1 + 1)))) rfl (fun w' hm' => x_add rfl rfl) ?_)
       refine QW.cons rfl (QP.val (v := (.bool (x1052 != (w64 (s_l2.1 + 1))))) rfl (fun w' hm' => x_neq rfl rfl) ?_)
       refine QW.cons rfl (QP.val (v := (.bool (x1052 != (w64 (s_l2.1 + 1))))) rfl (fun w' hm' => x_move) ?_)
       refine ifB_elim hm (fun hb1059 hm => ?_) (fun hb1059 hm => ?_)
       · refine QW.cons rfl (QP.no' rfl rfl hb1059 rfl ?_)
         refine QW.cons rfl (QP.no' rfl rfl hb1059 rfl ?_)
         refine QW.cons rfl (QP.no' rfl rfl hb1059 rfl ?_)
         refine QW.cons rfl (QP.noU rfl rfl rfl ?_)
         refine QW.cons rfl (QP.noU rfl rfl rfl ?_)
         refine QW.cons rfl (QP.noU rfl rfl rfl ?_)
         refine QW.cons rfl (QP.noU rfl rfl rfl ?_)
         refine QW.cons rfl (QP.noU rfl rfl rfl ?_)
         refine QW.cons rfl (QP.noU rfl rfl rfl ?_)
         refine QW.cons rfl (QP.noU rfl rfl rfl ?_)
         refine QW.cons rfl (QP.noU rfl rfl rfl ?_)
         refine QW.cons rfl (QP.noU rfl rfl rfl ?_)
         refine QW.cons rfl (QP.noU rfl rfl rfl ?_)
         refine QW.cons rfl (QP.noU rfl rfl rfl ?_)
         refine QW.cons rfl (QP.noU rfl rfl rfl ?_)
         refine QW.cons rfl (QP.noU rfl rfl rfl ?_)
         refine QW.cons rfl (QP.noU rfl rfl rfl ?_)
         refine QW.cons rfl (QP.noU rfl rfl rfl ?_)
         refine QW.cons rfl (QP.noU rfl rfl rfl ?_)
         refine QW.cons rfl (QP.no' rfl rfl hb1059 rfl ?_)
         refine QW.cons rfl (QP.val (v := (.bool true)) rfl (fun w' hm' => x_pickT' rfl hb1059 rfl) ?_)
         refine QW.nil ?_
         intro wd1060 hmod
         have hL := hL.call hmod
         refine DW.done (by kernel_rfl) ?_
         exact ⟨true, hm, ⟨f982, f983, f984, f985, f986, rfl, hL⟩⟩
       refine QW.cons rfl (QP.yes' rfl rfl hb1059 (QP.val (v := (.int .i64 s_l1)) rfl (fun w' hm' => x_mv f986) ?_))
       refine QW.cons rfl (QP.yes' rfl rfl hb1059 (QP.val (v := (.bool (decide (0 < s_l1)))) rfl (fun w' hm' => x_gtr rfl rfl) ?_))
       refine QW.cons rfl (QP.yes' rfl rfl hb1059 (QP.val (v := (.bool (decide (0 < s_l1)))) rfl (fun w' hm' => x_move) ?_))
       refine ifB_elim hm (fun hb1061 hm => ?_) (fun hb1061 hm => ?_)
       · refine QW.cons rfl (QP.yes' rfl rfl hb1061 (QP.val (v := v84) rfl (fun w' hm' => x_mv f985) ?_))
         refine QW.cons rfl (QP.yes' rfl rfl hb1061 (QP.val (v := v57) rfl (fun w' hm' => x_mv f984) ?_))
         refine QW.cons rfl (QP.yes' rfl rfl hb1061 (QP.val (v := (.int .i64 s_l1)) rfl (fun w' hm' => x_mv f986) ?_))
         refine QW.cons rfl (QP.yes' rfl rfl hb1061 (QP.val (v := (.int .i64 (w64 (s_l1 - 1)))) rfl (fun w' hm' => x_sub rfl rfl) ?_))
         obtain ⟨x1062, ha1063, hm⟩ := bndE hm
         obtain ⟨hz1064, ha1068⟩ := idxE ha1063
         obtain ⟨b1065, q1066, hix1067⟩ := rdL_ix (hL.rdO 1 rfl) hz1064 ha1068
         refine QW.cons rfl (QP.yes' rfl rfl hb1061 (QP.val (v := (.pointer (some ⟨b1065, q1066, none⟩))) rfl (fun w' hm' => x_ix U27 Tryz_T2 rfl rfl hix1067) ?_))
         refine QW.cons rfl (QP.yes' rfl rfl hb1061 (QP.val (v := (.int .i64 x1062)) rfl (fun w' hm' => x_load1 U2 rfl rfl (rdF_cells ((hL.call hm').rdO 1 rfl) hix1067 ha1068 0 _ rfl)) ?_))
         obtain ⟨x1069, ha1070, hm⟩ := bndE hm
         obtain ⟨hz1071, ha1075⟩ := idxE ha1070
         obtain ⟨b1072, q1073, hix1074⟩ := rdL_ix (hL.rdO 0 rfl) hz1071 ha1075
         refine QW.cons rfl (QP.yes' rfl rfl hb1061 (QP.val (v := (.pointer (some ⟨b1072, q1073, none⟩))) rfl (fun w' hm' => x_ix U27 Tryz_T2 rfl rfl hix1074) ?_))
         refine QW.cons rfl (QP.yes' rfl rfl hb1061 (QP.val (v := (.int .i64 x1069)) rfl (fun w' hm' => x_load1 U2 rfl rfl (rdF_cells ((hL.call hm').rdO 0 rfl) hix1074 ha1075 0 _ rfl)) ?_))
         refine QW.cons rfl (QP.yes' rfl rfl hb1061 (QP.val (v := v84) rfl (fun w' hm' => x_mv f985) ?_))
         refine QW.cons rfl (QP.yes' rfl rfl hb1061 (QP.val (v := v57) rfl (fun w' hm' => x_mv f984) ?_))
         refine QW.cons rfl (QP.yes' rfl rfl hb1061 (QP.val (v := (.int .i64 s_l1)) rfl (fun w' hm' => x_mv f986) ?_))
         obtain ⟨x1076, ha1077, hm⟩ := bndE hm
         obtain ⟨hz1078, ha1082⟩ := idxE ha1077
         obtain ⟨b1079, q1080, hix1081⟩ := rdL_ix (hL.rdO 1 rfl) hz1078 ha1082
         refine QW.cons rfl (QP.yes' rfl rfl hb1061 (QP.val (v := (.pointer (some ⟨b1079, q1080, none⟩))) rfl (fun w' hm' => x_ix U27 Tryz_T2 rfl rfl hix1081) ?_))
         refine QW.cons rfl (QP.yes' rfl rfl hb1061 (QP.val (v := (.int .i64 x1076)) rfl (fun w' hm' => x_load1 U2 rfl rfl (rdF_cells ((hL.call hm').rdO 1 rfl) hix1081 ha1082 0 _ rfl)) ?_))
         obtain ⟨x1083, ha1084, hm⟩ := bndE hm
         obtain ⟨hz1085, ha1089⟩ := idxE ha1084
         obtain ⟨b1086, q1087, hix1088⟩ := rdL_ix (hL.rdO 0 rfl) hz1085 ha1089
         refine QW.cons rfl (QP.yes' rfl rfl hb1061 (QP.val (v := (.pointer (some ⟨b1086, q1087, none⟩))) rfl (fun w' hm' => x_ix U27 Tryz_T2 rfl rfl hix1088) ?_))
         refine QW.cons rfl (QP.yes' rfl rfl hb1061 (QP.val (v := (.int .i64 x1083)) rfl (fun w' hm' => x_load1 U2 rfl rfl (rdF_cells ((hL.call hm').rdO 0 rfl) hix1088 ha1089 0 _ rfl)) ?_))
         refine QW.cons rfl (QP.yes' rfl rfl hb1061 (QP.val (v := (.bool (decide (x1083 < x1069)))) rfl (fun w' hm' => x_gtr rfl rfl) ?_))
         refine QW.cons rfl (QP.yes' rfl rfl hb1059 (QP.val (v := (.bool (decide (x1083 < x1069)))) rfl (fun w' hm' => x_pickT' rfl hb1061 rfl) ?_))
         refine QW.cons rfl (QP.val (v := (.bool (decide (x1083 < x1069)))) rfl (fun w' hm' => x_pickF' rfl hb1059 rfl) ?_)
         refine QW.nil ?_
         intro wd1090 hmod
         have hL := hL.call hmod
         refine DW.done (by kernel_rfl) ?_
         exact ⟨decide (x1083 < x1069), hm, ⟨f982, f983, f984, f985, f986, rfl, hL⟩⟩
       refine QW.cons rfl (QP.no' rfl rfl hb1061 rfl ?_)
       refine QW.cons rfl (QP.no' rfl rfl hb1061 rfl ?_)
       refine QW.cons rfl (QP.no' rfl rfl hb1061 rfl ?_)
       refine QW.cons rfl (QP.no' rfl rfl hb1061 rfl ?_)
       refine QW.cons rfl (QP.no' rfl rfl hb1061 rfl ?_)
       refine QW.cons rfl (QP.no' rfl rfl hb1061 rfl ?_)
       refine QW.cons rfl (QP.no' rfl rfl hb1061 rfl ?_)
       refine QW.cons rfl (QP.no' rfl rfl hb1061 rfl ?_)
       refine QW.cons rfl (QP.no' rfl rfl hb1061 rfl ?_)
       refine QW.cons rfl (QP.no' rfl rfl hb1061 rfl ?_)
       refine QW.cons rfl (QP.no' rfl rfl hb1061 rfl ?_)
       refine QW.cons rfl (QP.no' rfl rfl hb1061 rfl ?_)
       refine QW.cons rfl (QP.no' rfl rfl hb1061 rfl ?_)
       refine QW.cons rfl (QP.no' rfl rfl hb1061 rfl ?_)
       refine QW.cons rfl (QP.no' rfl rfl hb1061 rfl ?_)
       refine QW.cons rfl (QP.no' rfl rfl hb1061 rfl ?_)
       refine QW.cons rfl (QP.yes' rfl rfl hb1059 (QP.val (v := (.bool false)) rfl (fun w' hm' => x_pickF' rfl hb1061 rfl) ?_))
       refine QW.cons rfl (QP.val (v := (.bool false)) rfl (fun w' hm' => x_pickF' rfl hb1059 rfl) ?_)
       refine QW.nil ?_
       intro wd1091 hmod
       have hL := hL.call hmod
       refine DW.done (by kernel_rfl) ?_
       exact ⟨false, hm, ⟨f982, f983, f984, f985, f986, rfl, hL⟩⟩
     intro s_j3 F1036 wd1037 hJ hm
     unfold M.laws_FnStanding_j3 at hm
     obtain ⟨f1038, f1039, f1040, f1041, f1042, f1043, hL⟩ := hJ
     refine CW.condM (t := s_j3) f1043 hm (fun hb1044 hm => ?_) (fun hb1044 hm => ?_)
     · refine CSR ?_
       refine OV (.bool false) rfl (x_assign) ?_
       refine OW.nil ?_
       refine CW.ret ?_
       obtain rfl := Option.some.inj hm
       have hm := hr806 _ rfl
       obtain rfl := Option.some.inj hm
       exact RR1 rfl rfl ⟨rfl, hL.fresh 6 rfl [] (by decide) (by decide) rfl⟩
     refine CW.skip ?_
     refine CW.regionL ?_
     refine OV (.int .i64 s_l1) rfl (x_mv f1042) ?_
     refine OV (.int .i64 (w64 (s_l1 + 1))) rfl (x_add rfl rfl) ?_
     refine OV (.int .i64 (w64 (s_l1 + 1))) rfl (x_assign) ?_
     refine OW.nil ?_
     obtain rfl := Option.some.inj hm
     exact ⟨_, rfl, ⟨f1038, f1039, f1040, f1041, rfl, hL⟩⟩
   intro s_l2 F1092 wd1093 t976 hJ hm hr977
   unfold M.laws_FnStanding_l2 at hm
   obtain ⟨f1094, f1095, f1096, f1097, f1098, f1099, f1100, hL⟩ := hJ
   refine CW.seq ?_
   refine CSR ?_
   refine OV (.int .i64 s_l2.2) rfl (x_mv f1100) ?_
   refine OV (.pointer (some ⟨b27, 0, none⟩)) rfl (x_fieldAddr (fsz := 1) 0 0 0 U26 rfl Tryz_T2 rfl f1094 rfl) ?_
   refine OV (.int .i64 x36.1.Boats) rfl (x_load1 U2 rfl rfl (hL.cellB 5 rfl rfl)) ?_
   refine OV (.bool (decide (s_l2.2 < x36.1.Boats))) rfl (x_lss rfl rfl) ?_
   refine OW.nil ?_
   refine CW.condM (t := decide (s_l2.2 < x36.1.Boats)) rfl hm (fun hb1101 hm => ?_) (fun hb1101 hm => ?_)
   · refine CW.skip ?_
     refine CW.seqJ (fun (s_j4 : Int) (F : Fr) (w : World) => F 3 = (.pointer (some ⟨b27, 0, none⟩)) ∧ F 4 = v43 ∧ F 7 = v57 ∧ F 9 = v84 ∧ F 11 = (.int .i64 s_l1) ∧ F 12 = (.int .i64 s_j4) ∧ F 13 = (.int .i64 s_l2.2) ∧ Hp w0 [Ent.own 2 S83 v84 x81.1, Ent.own 2 S56 v57 x54.1, Ent.frzS wz47 S38, Ent.frzS wz49 S40, Ent.frzS wz51 S42, Ent.blk b27 26 #[(.int .i64 x36.1.Boats), v39, v41], Ent.snap w0 w0.heap.size] w) (fun s_j4 => M.laws_FnStanding_j4 s_l2 s_j4 = some t976) ?_ ?_
     · refine CW.blockJ (fun (s_j5 : Int) (F : Fr) (w : World) => F 3 = (.pointer (some ⟨b27, 0, none⟩)) ∧ F 4 = v43 ∧ F 7 = v57 ∧ F 9 = v84 ∧ F 11 = (.int .i64 s_l1) ∧ F 12 = (.int .i64 s_j5) ∧ F 13 = (.int .i64 s_l2.2) ∧ Hp w0 [Ent.own 2 S83 v84 x81.1, Ent.own 2 S56 v57 x54.1, Ent.frzS wz47 S38, Ent.frzS wz49 S40, Ent.frzS wz51 S42, Ent.blk b27 26 #[(.int .i64 x36.1.Boats), v39, v41], Ent.snap w0 w0.heap.size] w) (fun s_j5 => M.laws_FnStanding_j5 s_l2 s_j5 = some t976) ?_ ?_
       · refine CW.seq ?_
         refine CW.draw Tryz_mixed ?_
         have hL := hL.call (Mod.drew _)
         refine DW.pre (fuel := 0) (fin := bma 15 32767) (C := fun w' => Mod None_ _ w') [0, 1, 2, 3, 4, 5, 6, 7, 8, 9, 10, 11, 12, 13, 14] (Mod.refl _ _) (by kernel_rfl) (by kernel_rfl) ?_
         refine QW.cons rfl (QP.val (v := (.agg #[(.int .i64 x36.1.Boats), v39, v41])) rfl (fun w' hm' => x_loadN (cs := [(.int .i64 x36.1.Boats), v39, v41]) U26 Tryz_T26 rfl f1094 ((hL.call hm').cellsB 5 rfl (o := 0) (l := [(.int .i64 x36.1.Boats), v39, v41]) (by intro j u hj; exact (by simpa using hj)))) ?_)
         refine QW.cons rfl (QP.val (v := v43) rfl (fun w' hm' => x_mv f1095) ?_)
         refine QW.cons rfl (QP.val (v := (.int .i64 s_l2.2)) rfl (fun w' hm' => x_mv f1100) ?_)
         refine QW.cons rfl (QP.val (v := v57) rfl (fun w' hm' => x_mv f1096) ?_)
         refine QW.cons rfl (QP.val (v := (.int .i64 s_l1)) rfl (fun w' hm' => x_mv f1098) ?_)
         obtain ⟨x1165, ha1166, hm⟩ := bndE hm
         obtain ⟨hz1167, ha1171⟩ := idxE ha1166
         obtain ⟨b1168, q1169, hix1170⟩ := rdL_ix (hL.rdO 1 rfl) hz1167 ha1171
         refine QW.cons rfl (QP.val (v := (.pointer (some ⟨b1168, q1169, none⟩))) rfl (fun w' hm' => x_ix U27 Tryz_T2 rfl rfl hix1170) ?_)
         refine QW.cons rfl (QP.val (v := (.int .i64 x1165)) rfl (fun w' hm' => x_load1 U2 rfl rfl (rdF_cells ((hL.call hm').rdO 1 rfl) hix1170 ha1171 0 _ rfl)) ?_)
         obtain ⟨x1172, hx1173, hm⟩ := bndE hm
         refine QW.cons rfl (QP.call (v := (.tuple #[(.int .i64 x1172.1), (.int .i64 x1172.2.1), (.int .i64 x1172.2.2)])) rfl (fun w' hm' => x_call (vs := [(.agg #[(.int .i64 x36.1.Boats), v39, v41]), v43, (.int .i64 s_l2.2), (.int .i64 x1165)]) Tryz_C13 ⟨rfl, rfl, rfl, rfl, trivial⟩) (fun w' hm' => (M.impl_CompareBoats_ok w' x36.1 ((hL.call hm').rdF 2 rfl ho48.1.rdL) ((hL.call hm').rdF 3 rfl ho50.1.rdL) x36.2 ((hL.call hm').rdF 4 rfl ho52.1.rdL) s_l2.2 x1165 hx1173).mono (fun e w'' h => ⟨h.1, hm'.trans h.2.mod⟩)) ?_)
         refine QW.cons rfl (QP.val (v := (.tuple #[(.int .i64 x1172.1), (.int .i64 x1172.2.1), (.int .i64 x1172.2.2)])) rfl (fun w' hm' => x_move) ?_)
         refine QW.cons rfl (QP.val (v := (.int .i64 x1172.1)) rfl (fun w' hm' => x_extract rfl rfl) ?_)
         refine QW.cons rfl (QP.val (v := (.int .i64 x1172.2.1)) rfl (fun w' hm' => x_extract rfl rfl) ?_)
         refine QW.cons rfl (QP.val (v := (.int .i64 x1172.2.2)) rfl (fun w' hm' => x_extract rfl rfl) ?_)
         refine QW.cons rfl (QP.val (v := (.int .i64 x1172.1)) rfl (fun w' hm' => x_assign) ?_)
         refine QW.cons rfl (QP.val (v := (.int .i64 x1172.2.1)) rfl (fun w' hm' => x_assign) ?_)
         refine QW.cons rfl (QP.val (v := (.int .i64 x1172.2.2)) rfl (fun w' hm' => x_assign) ?_)
         refine QW.nil ?_
         intro wd1174 hmod
         have hL := hL.call hmod
         refine DW.done (by kernel_rfl) ?_
         refine CW.seq ?_
         refine CSR ?_
         refine OV (.int .i64 x1172.2.2) rfl (x_move) ?_
         refine OV (.bool (x1172.2.2 != 0)) rfl (x_neq rfl rfl) ?_
         refine OW.nil ?_
         refine CW.condM (t := x1172.2.2 != 0) rfl hm (fun hb1175 hm => ?_) (fun hb1175 hm => ?_)
         · refine CSR ?_
           refine OV (.bool false) rfl (x_assign) ?_
           refine OW.nil ?_
           refine CW.ret ?_
           obtain rfl := Option.some.inj hm
           have hm := hr977 _ rfl
           obtain rfl := Option.some.inj hm
           have hm := hr806 _ rfl
           obtain rfl := Option.some.inj hm
           exact RR1 rfl rfl ⟨rfl, hL.fresh 6 rfl [] (by decide) (by decide) rfl⟩
         refine CW.skip ?_
         refine CSR ?_
         refine OV (.int .i64 x1172.1) rfl (x_move) ?_
         refine OV (.bool (decide (x1172.1 < 0))) rfl (x_lss rfl rfl) ?_
         refine OW.nil ?_
         refine CW.condM (t := decide (x1172.1 < 0)) rfl hm (fun hb1176 hm => ?_) (fun hb1176 hm => ?_)
         · refine CW.regionL ?_
           refine OV (.int .i64 s_l2.1) rfl (x_mv f1099) ?_
           refine OV (.int .i64 (w64 (s_l2.1 + 1))) rfl (x_add rfl rfl) ?_
           refine OV (.int .i64 (w64 (s_l2.1 + 1))) rfl (x_assign) ?_
           refine OW.nil ?_
           exact ⟨w64 (s_l2.1 + 1), hm, ⟨f1094, f1095, f1096, f1097, f1098, rfl, f1100, hL⟩⟩
         refine CW.skip ?_
         exact ⟨s_l2.1, hm, ⟨f1094, f1095, f1096, f1097, f1098, f1099, f1100, hL⟩⟩
       intro s_j5 F1156 wd1157 hJ hm
       unfold M.laws_FnStanding_j5 at hm
       obtain ⟨f1158, f1159, f1160, f1161, f1162, f1163, f1164, hL⟩ := hJ
       exact ⟨s_j5, hm, ⟨f1158, f1159, f1160, f1161, f1162, f1163, f1164, hL⟩⟩
     intro s_j4 F1135 wd1136 hJ hm
     unfold M.laws_FnStanding_j4 at hm
     obtain ⟨f1137, f1138, f1139, f1140, f1141, f1142, f1143, hL⟩ := hJ
     refine CW.regionL ?_
     refine OV (.int .i64 s_l2.2) rfl (x_mv f1143) ?_
     refine OV (.int .i64 (w64 (s_l2.2 + 1))) rfl (x_add rfl rfl) ?_
     refine OV (.int .i64 (w64 (s_l2.2 + 1))) rfl (x_assign) ?_
     refine OW.nil ?_
     obtain rfl := Option.some.inj hm
     exact ⟨_, rfl, ⟨f1137, f1138, f1139, f1140, f1141, f1142, rfl, hL⟩⟩
   refine CW.exit ?_
   refine XJ.hit ?_
   obtain rfl := Option.some.inj hm
   exact ⟨_, rfl, ⟨f1094, f1095, f1096, f1097, f1098, f1099, f1100, hL⟩⟩
 refine CW.exit ?_
 refine XJ.hit ?_
 obtain rfl := Option.some.inj hm
 exact ⟨_, rfl, ⟨f818, f819, f820, f821, f822, hL⟩⟩

end Go.Proofs.YtmmkkcmliofknaaGreatDoor
