/- Links: each Go function returns what its model computes and leaves what was there. Printed by my generator. -/
import Derived.Test.YtbkpfcpbpnmjaaaLnkFnExactFactorHistoryA
namespace Go.Proofs.Ytbkpfcpbpnmjaaa
set_option maxRecDepth 10000
open Go Go.RowKit Go.ChangeShapes Go.WideShapes
set_option linter.unusedVariables false
set_option linter.unusedSimpArgs false

theorem M.impl_progressRace_ok (w0 : World) (a0 : ProgressRules) (a1 : List Finish) {v1 : Value} (h2 : rdL (· < w0.heap.size) w0 v1 a1) (a2 : List Rating) {v3 : Value} (h4 : rdL (· < w0.heap.size) w0 v3 a2) {r : (List Rating)} (hm : M.impl_progressRace a0 a1 a2 = some r) :
    Calls Try.prog 60 #[(.agg #[(.int .i64 a0.Gain), (.int .i64 a0.Step), (.int .i64 a0.Low), (.int .i64 a0.High)]), v1, v3] w0 fun e w' => ∃ (rv0 : Value) (rS0 : Nat → Prop), e = .returned rv0 ∧ Fresh w0 w' [Ent.own 61 rS0 rv0 r] := by
  unfold M.impl_progressRace at hm
  refine calls_CW (args := [(.agg #[(.int .i64 a0.Gain), (.int .i64 a0.Step), (.int .i64 a0.Low), (.int .i64 a0.High)]), v1, v3]) Try.func60 rfl rfl rfl ?_
  have hL := Hp.start w0
  refine CW.seq ?_
  refine CW.regionL ?_
  refine OW.cons (S_box (cs := #[(.int .i64 a0.Gain), (.int .i64 a0.Step), (.int .i64 a0.Low), (.int .i64 a0.High)]) hL rfl rfl rfl ?_)
  intro wd5 b6 hL
  refine OW.cons (OP.val (v := (.slice none 0 0)) rfl (x_assign) ?_)
  refine OW.nil ?_
  refine CW.seq ?_
  refine CW.regionL ?_
  refine OW.cons (OP.val (v := v3) rfl (x_move) ?_)
  obtain ⟨x7, hx8, hm⟩ := bndE hm
  refine OW.cons (OP.call rfl (x_call (vs := [v3]) Try_C83 ⟨rfl, trivial⟩) (M.slices_Clone___impl_Rating_impl_Rating__ok _ a2 (hL.rdS 1 rfl h4) hx8) ?_)
  rintro e11 wd12 ⟨v10, S9, rfl, hF13⟩
  refine ⟨_, rfl, ?_⟩
  have hL := hL.pushAll hF13
  simp only [lA, lB, lC, lD] at hL
  refine OW.cons (OP.val (v := v1) rfl (x_move) ?_)
  refine OW.cons (OP.val (v := v3) rfl (x_move) ?_)
  obtain ⟨x14, hx15, hm⟩ := bndE hm
  refine OW.cons (OP.call rfl (x_call (vs := [v1, v3]) Try_C52 ⟨rfl, rfl, trivial⟩) (M.impl_parTime_ok _ a1 (hL.rdS 2 rfl h2) a2 (hL.rdS 2 rfl h4) hx15) ?_)
  rintro e16 wd17 ⟨rfl, hF18⟩
  refine ⟨_, rfl, ?_⟩
  have hL := hL.pushAll hF18
  simp only [lA, lB, lC, lD] at hL
  refine OW.cons (OP.val (v := v10) rfl (x_assign) ?_)
  refine OW.cons (OP.val (v := (.int .i64 x14)) rfl (x_assign) ?_)
  refine OW.cons (OP.val (v := (.int .i64 0)) rfl (x_assign) ?_)
  refine OW.nil ?_
  refine CW.seq ?_
  refine CW.seq ?_
  refine CW.regionL ?_
  refine OW.cons (OP.val (v := v1) rfl (x_move) ?_)
  refine OW.cons (OP.val (v := (.int .i64 (a1.length : Int))) rfl (x_lenR Try.underlying28 rfl (hL.rdS 2 rfl h2)) ?_)
  refine OW.cons (OP.val (v := (.int .i64 0)) rfl (x_move) ?_)
  refine OW.nil ?_
  obtain ⟨o171, ho172, hm⟩ := bndE hm
  refine CW.loopB (fun (s_l1 : Int × Int) (F : Fr) (w : World) => F 1 = v1 ∧ F 3 = (.pointer (some ⟨b6, 0, none⟩)) ∧ F 7 = v10 ∧ F 8 = (.int .i64 x14) ∧ F 9 = (.int .i64 s_l1.1) ∧ F 19 = v1 ∧ F 20 = (.int .i64 (a1.length : Int)) ∧ F 21 = (.int .i64 s_l1.2) ∧ Hp w0 [Ent.own 61 S9 v10 x7, Ent.blk b6 46 #[(.int .i64 a0.Gain), (.int .i64 a0.Step), (.int .i64 a0.Low), (.int .i64 a0.High)], Ent.snap w0 w0.heap.size] w) (fun o => outc o (fun x => some x) (fun s => M.impl_progressRace_a1 a0 a1 x7 x14 s) = some r) ho172 hm ⟨rfl, rfl, rfl, rfl, rfl, rfl, rfl, rfl, hL⟩ ?_ ?_
  · intro s_l1 F173 wd174 hJ hm
    have hm := outcE hm
    have hm : M.impl_progressRace_a1 a0 a1 x7 x14 s_l1 = some r := hm
    unfold M.impl_progressRace_a1 at hm
    obtain ⟨f175, f176, f177, f178, f179, f180, f181, f182, hL⟩ := hJ
    refine CW.seq ?_
    refine CW.seq ?_
    refine CW.regionL ?_
    refine OW.cons (OP.val (v := v1) rfl (x_mv f175) ?_)
    refine OW.cons (OP.val (v := (.int .i64 (a1.length : Int))) rfl (x_lenR Try.underlying28 rfl (hL.rdS 2 rfl h2)) ?_)
    refine OW.cons (OP.val (v := (.int .i64 0)) rfl (x_move) ?_)
    refine OW.nil ?_
    obtain ⟨o1009, ho1010, hm⟩ := bndE hm
    refine CW.loopB (fun (s_l2 : (List Rating) × Int) (F : Fr) (w : World) => ∃ (S1006 : Nat → Prop), F 3 = (.pointer (some ⟨b6, 0, none⟩)) ∧ F 7 = v10 ∧ F 8 = (.int .i64 x14) ∧ F 9 = (.int .i64 s_l1.1) ∧ F 31 = v1 ∧ F 32 = (.int .i64 (a1.length : Int)) ∧ F 33 = (.int .i64 s_l2.2) ∧ Hp w0 [Ent.own 61 S1006 v10 s_l2.1, Ent.blk b6 46 #[(.int .i64 a0.Gain), (.int .i64 a0.Step), (.int .i64 a0.Low), (.int .i64 a0.High)], Ent.snap w0 w0.heap.size] w) (fun o => outc o (fun x => some x) (fun s => M.impl_progressRace_a2 s) = some r) ho1010 hm ⟨S9, f176, f177, f178, f179, rfl, rfl, rfl, hL⟩ ?_ ?_
    · intro s_l2 F1011 wd1012 hJ hm
      have hm := outcE hm
      have hm : M.impl_progressRace_a2 s_l2 = some r := hm
      unfold M.impl_progressRace_a2 at hm
      obtain ⟨S1006, f1013, f1014, f1015, f1016, f1017, f1018, f1019, hL⟩ := hJ
      refine CW.seq ?_
      refine CW.regionL ?_
      refine OW.cons (OP.val (v := v10) rfl (x_mv f1014) ?_)
      refine OW.cons (OP.val (v := v10) rfl (x_assign) ?_)
      refine OW.nil ?_
      refine CW.ret ?_
      obtain rfl := Option.some.inj hm
      exact RR1 rfl rfl ⟨v10, S1006, rfl, hL.fresh 2 rfl [0] (by decide) (by decide) rfl⟩
    · intro s_l2 F1020 wd1021 t1007 hJ hm hr1008
      unfold M.impl_progressRace_l2 at hm
      obtain ⟨S1006, f1022, f1023, f1024, f1025, f1026, f1027, f1028, hL⟩ := hJ
      refine CW.seq ?_
      refine CW.regionL ?_
      refine OW.cons (OP.val (v := (.bool (decide (s_l2.2 < (a1.length : Int))))) rfl (x_lss f1028 f1027) ?_)
      refine OW.nil ?_
      refine CW.seq ?_
      refine CW.condM (t := decide (s_l2.2 < (a1.length : Int))) rfl hm (fun hb1029 hm => ?_) (fun hb1029 hm => ?_)
      · refine CW.skip ?_
        refine CW.seqJ (fun (s_j1 : (List Rating)) (F : Fr) (w : World) => ∃ (S1230 : Nat → Prop), F 3 = (.pointer (some ⟨b6, 0, none⟩)) ∧ F 7 = v10 ∧ F 8 = (.int .i64 x14) ∧ F 9 = (.int .i64 s_l1.1) ∧ F 31 = v1 ∧ F 32 = (.int .i64 (a1.length : Int)) ∧ F 33 = (.int .i64 s_l2.2) ∧ Hp w0 [Ent.own 61 S1230 v10 s_j1, Ent.blk b6 46 #[(.int .i64 a0.Gain), (.int .i64 a0.Step), (.int .i64 a0.Low), (.int .i64 a0.High)], Ent.snap w0 w0.heap.size] w) (fun s_j1 => M.impl_progressRace_j1 s_l2 s_j1 = some t1007) ?_ ?_
        · refine CW.blockJ (fun (s_j2 : (List Rating)) (F : Fr) (w : World) => ∃ (S1335 : Nat → Prop), F 3 = (.pointer (some ⟨b6, 0, none⟩)) ∧ F 7 = v10 ∧ F 8 = (.int .i64 x14) ∧ F 9 = (.int .i64 s_l1.1) ∧ F 31 = v1 ∧ F 32 = (.int .i64 (a1.length : Int)) ∧ F 33 = (.int .i64 s_l2.2) ∧ Hp w0 [Ent.own 61 S1335 v10 s_j2, Ent.blk b6 46 #[(.int .i64 a0.Gain), (.int .i64 a0.Step), (.int .i64 a0.Low), (.int .i64 a0.High)], Ent.snap w0 w0.heap.size] w) (fun s_j2 => M.impl_progressRace_j2 s_l2 s_j2 = some t1007) ?_ ?_
          · refine CW.seq ?_
            refine CW.regionL ?_
            refine OW.cons (OP.val (v := (.int .i64 s_l2.2)) rfl (x_mv f1028) ?_)
            obtain ⟨x1345, ha1346, hm⟩ := bndE hm
            obtain ⟨hz1347, ha1351⟩ := idxE ha1346
            obtain ⟨b1348, q1349, hix1350⟩ := rdL_ix (hL.rdS 2 rfl h2) hz1347 ha1351
            refine OW.cons (OP.val (v := (.pointer (some ⟨b1348, q1349, none⟩))) rfl (x_ix Try.underlying28 Try_T56 f1026 f1028 hix1350) ?_)
            refine OW.cons (OP.val (v := (.agg #[(.int .i64 x1345.Boat), (.int .i64 x1345.Code), (.int .i64 x1345.Time)])) rfl (x_loadN (cs := [(.int .i64 x1345.Boat), (.int .i64 x1345.Code), (.int .i64 x1345.Time)]) Try.underlying56 Try_T56 rfl rfl (rdF_cells (hL.rdS 2 rfl h2) hix1350 ha1351)) ?_)
            refine OW.cons (S_alloc (cs := #[(.int .i64 0), (.int .i64 0), (.int .i64 0)]) hL Try_T56 rfl rfl ?_)
            intro wd1352 b1353 hL
            refine OW.cons (OP.val (v := (.int .i64 s_l2.2)) rfl (x_assign) ?_)
            refine OW.cons (S_storeN (l := [(.int .i64 x1345.Boat), (.int .i64 x1345.Code), (.int .i64 x1345.Time)]) (cs' := #[(.int .i64 x1345.Boat), (.int .i64 x1345.Code), (.int .i64 x1345.Time)]) hL 0 rfl Try_T56 rfl rfl (List.forall_mem_cons.2 ⟨rfl, (List.forall_mem_cons.2 ⟨rfl, (List.forall_mem_cons.2 ⟨rfl, (fun _ h => by cases h)⟩)⟩)⟩) rfl (Nat.le_of_ble_eq_true rfl) rfl ?_)
            intro wd1354 hL
            refine OW.nil ?_
            refine CW.seqJ (fun (s_j3 : Bool) (F : Fr) (w : World) => F 3 = (.pointer (some ⟨b6, 0, none⟩)) ∧ F 7 = v10 ∧ F 8 = (.int .i64 x14) ∧ F 9 = (.int .i64 s_l1.1) ∧ F 12 = (.int .i64 s_l2.2) ∧ F 13 = (.pointer (some ⟨b1353, 0, none⟩)) ∧ F 31 = v1 ∧ F 32 = (.int .i64 (a1.length : Int)) ∧ F 33 = (.int .i64 s_l2.2) ∧ F 44 = (.bool s_j3) ∧ Hp w0 [Ent.blk b1353 56 #[(.int .i64 x1345.Boat), (.int .i64 x1345.Code), (.int .i64 x1345.Time)], Ent.own 61 S1006 v10 s_l2.1, Ent.blk b6 46 #[(.int .i64 a0.Gain), (.int .i64 a0.Step), (.int .i64 a0.Low), (.int .i64 a0.High)], Ent.snap w0 w0.heap.size] w) (fun s_j3 => M.impl_progressRace_j3 a0 x14 s_l2 x1345 s_j3 = some t1007) ?_ ?_
            · refine CW.regionL ?_
              refine OW.cons (OP.val (v := (.int .i64 s_l1.1)) rfl (x_mv f1025) ?_)
              refine OW.cons (OP.val (v := (.bool (decide (1 < s_l1.1)))) rfl (x_gtr rfl rfl) ?_)
              refine OW.cons (OP.val (v := (.bool (decide (1 < s_l1.1)))) rfl (x_move) ?_)
              refine ifB_elim hm (fun hb1439 hm => ?_) (fun hb1439 hm => ?_)
              · refine OW.cons (OP.yes' rfl rfl hb1439 (OP.val (v := (.pointer (some ⟨b1353, 1, none⟩))) rfl (x_fieldAddr (fsz := 1) 0 1 1 Try.underlying56 rfl Try_T2 rfl rfl rfl) ?_))
                refine OW.cons (OP.yes' rfl rfl hb1439 (OP.val (v := (.int .i64 x1345.Code)) rfl (x_load1 Try.underlying2 rfl rfl (hL.cellB 0 rfl rfl)) ?_))
                refine OW.cons (OP.yes' rfl rfl hb1439 (OP.val (v := (.bool (x1345.Code == 0))) rfl (x_eql rfl rfl) ?_))
                refine OW.cons (OP.val (v := (.bool (x1345.Code == 0))) rfl (x_pickT' rfl hb1439 rfl) ?_)
                refine OW.nil ?_
                exact ⟨x1345.Code == 0, hm, ⟨f1022, f1023, f1024, f1025, rfl, rfl, f1026, f1027, f1028, rfl, hL⟩⟩
              · refine OW.cons (OP.no' rfl rfl hb1439 rfl ?_)
                refine OW.cons (OP.no' rfl rfl hb1439 rfl ?_)
                refine OW.cons (OP.no' rfl rfl hb1439 rfl ?_)
                refine OW.cons (OP.val (v := (.bool false)) rfl (x_pickF' rfl hb1439 rfl) ?_)
                refine OW.nil ?_
                exact ⟨false, hm, ⟨f1022, f1023, f1024, f1025, rfl, rfl, f1026, f1027, f1028, rfl, hL⟩⟩
            · intro s_j3 F1356 wd1357 hJ hm
              unfold M.impl_progressRace_j3 at hm
              obtain ⟨f1358, f1359, f1360, f1361, f1362, f1363, f1364, f1365, f1366, f1367, hL⟩ := hJ
              refine CW.condM (t := s_j3) f1367 hm (fun hb1368 hm => ?_) (fun hb1368 hm => ?_)
              · refine CW.drawH (fun w' => Hp w0 [Ent.blk b1353 56 #[(.int .i64 x1345.Boat), (.int .i64 x1345.Code), (.int .i64 x1345.Time)], Ent.blk b6 46 #[(.int .i64 a0.Gain), (.int .i64 a0.Step), (.int .i64 a0.Low), (.int .i64 a0.High)], Ent.snap w0 w0.heap.size] w') Try_mixed ?_
                have hL := hL.call (Mod.drew _)
                have hS := (hL.sel [0, 2, 3] (by decide) rfl)
                refine DH.take 0 rfl (by kernel_rfl) (by kernel_rfl) (by kernel_rfl) rfl rfl hS (YH.val (v := v10) (fun w' hS' => x_mv f1359)) ?_
                have hS := (hL.sel [0, 2, 3] (by decide) rfl)
                refine DH.take 1 rfl (by kernel_rfl) (by kernel_rfl) (by kernel_rfl) rfl rfl hS (YH.val (v := (.int .i64 s_l2.2)) (fun w' hS' => x_mv f1362)) ?_
                have hS := (hL.sel [0, 2, 3] (by decide) rfl)
                refine DH.take 2 rfl (by kernel_rfl) (by kernel_rfl) (by kernel_rfl) rfl rfl hS (YH.val (v := (.agg #[(.int .i64 a0.Gain), (.int .i64 a0.Step), (.int .i64 a0.Low), (.int .i64 a0.High)])) (fun w' hS' => x_loadN (cs := [(.int .i64 a0.Gain), (.int .i64 a0.Step), (.int .i64 a0.Low), (.int .i64 a0.High)]) Try.underlying46 Try_T46 rfl f1358 (hS'.cellsB 1 rfl (o := 0) (l := [(.int .i64 a0.Gain), (.int .i64 a0.Step), (.int .i64 a0.Low), (.int .i64 a0.High)]) (by intro j u hj; exact (by simpa using hj))))) ?_
                have hS := (hL.sel [0, 2, 3] (by decide) rfl)
                refine DH.take 3 rfl (by kernel_rfl) (by kernel_rfl) (by kernel_rfl) rfl rfl hS (YH.val (v := v10) (fun w' hS' => x_mv f1359)) ?_
                have hS := (hL.sel [0, 2, 3] (by decide) rfl)
                refine DH.take 4 rfl (by kernel_rfl) (by kernel_rfl) (by kernel_rfl) rfl rfl hS (YH.val (v := (.int .i64 s_l2.2)) (fun w' hS' => x_mv f1362)) ?_
                have hS := (hL.sel [0, 2, 3] (by decide) rfl)
                obtain ⟨x1394, ha1395, hm⟩ := bndE hm
                obtain ⟨hz1396, ha1400⟩ := idxE ha1395
                obtain ⟨b1397, q1398, hix1399⟩ := rdL_ix (hL.rdO 1 rfl) hz1396 ha1400
                refine DH.take 5 rfl (by kernel_rfl) (by kernel_rfl) (by kernel_rfl) rfl rfl hS (YH.val (v := (.pointer (some ⟨b1397, q1398, none⟩))) (fun w' hS' => x_ix Try.underlying30 Try_T61 rfl rfl hix1399)) ?_
                have hS := (hL.sel [0, 2, 3] (by decide) rfl)
                refine DH.take 6 rfl (by kernel_rfl) (by kernel_rfl) (by kernel_rfl) rfl rfl hS (YH.val (v := (.pointer (some ⟨b1397, q1398 + 1, none⟩))) (fun w' hS' => x_fieldAddr (fsz := 1) q1398 1 (q1398 + 1) Try.underlying61 rfl Try_T2 rfl rfl rfl)) ?_
                have hS := (hL.sel [0, 2, 3] (by decide) rfl)
                refine DH.take 8 rfl (by kernel_rfl) (by kernel_rfl) (by kernel_rfl) rfl rfl hS (YH.val (v := (.int .i64 x14)) (fun w' hS' => x_mv f1360)) ?_
                have hS := (hL.sel [0, 2, 3] (by decide) rfl)
                refine DH.take 9 rfl (by kernel_rfl) (by kernel_rfl) (by kernel_rfl) rfl rfl hS (YH.val (v := (.pointer (some ⟨b1353, 2, none⟩))) (fun w' hS' => x_fieldAddr (fsz := 1) 0 2 2 Try.underlying56 rfl Try_T2 rfl f1363 rfl)) ?_
                have hS := (hL.sel [0, 2, 3] (by decide) rfl)
                refine DH.take 10 rfl (by kernel_rfl) (by kernel_rfl) (by kernel_rfl) rfl rfl hS (YH.val (v := (.int .i64 x1345.Time)) (fun w' hS' => x_load1 Try.underlying2 rfl rfl (hS'.cellB 0 rfl rfl))) ?_
                refine DH.all (rs := [7, 11]) (by kernel_rfl) (by simp) ?_
                intro i1401 hi1402
                simp only [List.mem_cons, List.not_mem_nil, or_false] at hi1402
                rcases hi1402 with rfl | rfl
                · refine ⟨_, rfl, ?_⟩
                  refine OP.val (v := (.int .i64 x1394.Value)) rfl (x_load1 Try.underlying2 rfl rfl (rdF_cells (hL.rdO 1 rfl) hix1399 ha1400 1 _ rfl)) ?_
                  refine ⟨(hL.sel [0, 2, 3] (by decide) rfl), ?_⟩
                  obtain ⟨x1403, hx1404, hm⟩ := bndE hm
                  refine DH.only 11 rfl (by kernel_rfl) (OP.call rfl (x_call (vs := [(.int .i64 x14), (.int .i64 x1345.Time)]) Try_C56 ⟨rfl, rfl, trivial⟩) (M.impl_parFactor_ok _ x14 x1345.Time hx1404) ?_)
                  rintro e1405 wd1406 ⟨rfl, hF1407⟩
                  refine ⟨_, rfl, ?_⟩
                  have hL := hL.pushAll hF1407
                  simp only [lA, lB, lC, lD] at hL
                  refine ⟨(hL.sel [0, 2, 3] (by decide) rfl), ?_⟩
                  obtain ⟨x1408, hx1409, hm⟩ := bndE hm
                  refine DH.only 12 rfl (by kernel_rfl) (OP.call rfl (x_call (vs := [(.agg #[(.int .i64 a0.Gain), (.int .i64 a0.Step), (.int .i64 a0.Low), (.int .i64 a0.High)]), (.int .i64 x1394.Value), (.int .i64 x1403)]) Try_C69 ⟨rfl, rfl, rfl, trivial⟩) (M.impl_progress_ok _ a0 x1394.Value x1403 hx1409) ?_)
                  rintro e1410 wd1411 ⟨rfl, hF1412⟩
                  refine ⟨_, rfl, ?_⟩
                  have hL := hL.pushAll hF1412
                  simp only [lA, lB, lC, lD] at hL
                  refine ⟨(hL.sel [0, 2, 3] (by decide) rfl), ?_⟩
                  have hS := (hL.sel [0, 2, 3] (by decide) rfl)
                  obtain ⟨x1413, ha1414, hm⟩ := bndE hm
                  obtain ⟨hz1415, ha1419⟩ := idxE ha1414
                  obtain ⟨b1416, q1417, hix1418⟩ := rdL_ix (hL.rdO 1 rfl) hz1415 ha1419
                  refine DH.take 13 rfl (by kernel_rfl) (by kernel_rfl) (by kernel_rfl) rfl rfl hS (YH.val (v := (.pointer (some ⟨b1416, q1417, none⟩))) (fun w' hS' => x_ix Try.underlying30 Try_T61 rfl rfl hix1418)) ?_
                  have hS := (hL.sel [0, 2, 3] (by decide) rfl)
                  refine DH.take 14 rfl (by kernel_rfl) (by kernel_rfl) (by kernel_rfl) rfl rfl hS (YH.val (v := (.pointer (some ⟨b1416, q1417 + 1, none⟩))) (fun w' hS' => x_fieldAddr (fsz := 1) q1417 1 (q1417 + 1) Try.underlying61 rfl Try_T2 rfl rfl rfl)) ?_
                  refine DH.only 15 rfl (by kernel_rfl) (S_storeX (j := 1) (Rating.mk x1413.Boat x1408) hL 1 rfl Try_T2 hix1418 ha1419 rfl rfl rfl rfl rfl rfl ?_)
                  intro wd1420 hL
                  refine ⟨(hL.sel [0, 2, 3] (by decide) rfl), ?_⟩
                  refine DH.done (by kernel_rfl) ?_
                  have hL := hL.sel [1, 2, 3] (by decide) rfl
                  exact ⟨s_l2.1.set (s_l2.2 : Int).toNat (Rating.mk x1413.Boat x1408), hm, ⟨S1006, f1358, f1359, f1360, f1361, f1364, f1365, f1366, hL⟩⟩
                · refine ⟨_, rfl, ?_⟩
                  obtain ⟨x1421, hx1422, hm⟩ := bndE hm
                  refine OP.call rfl (x_call (vs := [(.int .i64 x14), (.int .i64 x1345.Time)]) Try_C56 ⟨rfl, rfl, trivial⟩) (M.impl_parFactor_ok _ x14 x1345.Time hx1422) ?_
                  rintro e1423 wd1424 ⟨rfl, hF1425⟩
                  refine ⟨_, rfl, ?_⟩
                  have hL := hL.pushAll hF1425
                  simp only [lA, lB, lC, lD] at hL
                  refine ⟨(hL.sel [0, 2, 3] (by decide) rfl), ?_⟩
                  refine DH.only 7 rfl (by kernel_rfl) (OP.val (v := (.int .i64 x1394.Value)) rfl (x_load1 Try.underlying2 rfl rfl (rdF_cells (hL.rdO 1 rfl) hix1399 ha1400 1 _ rfl)) ?_)
                  refine ⟨(hL.sel [0, 2, 3] (by decide) rfl), ?_⟩
                  obtain ⟨x1426, hx1427, hm⟩ := bndE hm
                  refine DH.only 12 rfl (by kernel_rfl) (OP.call rfl (x_call (vs := [(.agg #[(.int .i64 a0.Gain), (.int .i64 a0.Step), (.int .i64 a0.Low), (.int .i64 a0.High)]), (.int .i64 x1394.Value), (.int .i64 x1421)]) Try_C69 ⟨rfl, rfl, rfl, trivial⟩) (M.impl_progress_ok _ a0 x1394.Value x1421 hx1427) ?_)
                  rintro e1428 wd1429 ⟨rfl, hF1430⟩
                  refine ⟨_, rfl, ?_⟩
                  have hL := hL.pushAll hF1430
                  simp only [lA, lB, lC, lD] at hL
                  refine ⟨(hL.sel [0, 2, 3] (by decide) rfl), ?_⟩
                  have hS := (hL.sel [0, 2, 3] (by decide) rfl)
                  obtain ⟨x1431, ha1432, hm⟩ := bndE hm
                  obtain ⟨hz1433, ha1437⟩ := idxE ha1432
                  obtain ⟨b1434, q1435, hix1436⟩ := rdL_ix (hL.rdO 1 rfl) hz1433 ha1437
                  refine DH.take 13 rfl (by kernel_rfl) (by kernel_rfl) (by kernel_rfl) rfl rfl hS (YH.val (v := (.pointer (some ⟨b1434, q1435, none⟩))) (fun w' hS' => x_ix Try.underlying30 Try_T61 rfl rfl hix1436)) ?_
                  have hS := (hL.sel [0, 2, 3] (by decide) rfl)
                  refine DH.take 14 rfl (by kernel_rfl) (by kernel_rfl) (by kernel_rfl) rfl rfl hS (YH.val (v := (.pointer (some ⟨b1434, q1435 + 1, none⟩))) (fun w' hS' => x_fieldAddr (fsz := 1) q1435 1 (q1435 + 1) Try.underlying61 rfl Try_T2 rfl rfl rfl)) ?_
                  refine DH.only 15 rfl (by kernel_rfl) (S_storeX (j := 1) (Rating.mk x1431.Boat x1426) hL 1 rfl Try_T2 hix1436 ha1437 rfl rfl rfl rfl rfl rfl ?_)
                  intro wd1438 hL
                  refine ⟨(hL.sel [0, 2, 3] (by decide) rfl), ?_⟩
                  refine DH.done (by kernel_rfl) ?_
                  have hL := hL.sel [1, 2, 3] (by decide) rfl
                  exact ⟨s_l2.1.set (s_l2.2 : Int).toNat (Rating.mk x1431.Boat x1426), hm, ⟨S1006, f1358, f1359, f1360, f1361, f1364, f1365, f1366, hL⟩⟩
              · refine CW.skip ?_
                have hL := hL.sel [1, 2, 3] (by decide) rfl
                exact ⟨s_l2.1, hm, ⟨S1006, f1358, f1359, f1360, f1361, f1364, f1365, f1366, hL⟩⟩
          · intro s_j2 F1336 wd1337 hJ hm
            unfold M.impl_progressRace_j2 at hm
            obtain ⟨S1335, f1338, f1339, f1340, f1341, f1342, f1343, f1344, hL⟩ := hJ
            exact ⟨s_j2, hm, ⟨S1335, f1338, f1339, f1340, f1341, f1342, f1343, f1344, hL⟩⟩
        · intro s_j1 F1231 wd1232 hJ hm
          unfold M.impl_progressRace_j1 at hm
          obtain ⟨S1230, f1233, f1234, f1235, f1236, f1237, f1238, f1239, hL⟩ := hJ
          refine CW.regionL ?_
          refine OW.cons (OP.val (v := (.int .i64 (w64 (s_l2.2 + 1)))) rfl (x_add f1239 rfl) ?_)
          refine OW.cons (OP.val (v := (.int .i64 (w64 (s_l2.2 + 1)))) rfl (x_move) ?_)
          refine OW.nil ?_
          obtain rfl := Option.some.inj hm
          exact ⟨_, rfl, ⟨S1230, f1233, f1234, f1235, f1236, f1237, f1238, rfl, hL⟩⟩
      · refine CW.exit ?_
        refine XJ.hit ?_
        obtain rfl := Option.some.inj hm
        exact ⟨_, rfl, ⟨S1006, f1022, f1023, f1024, f1025, f1026, f1027, f1028, hL⟩⟩
  · intro s_l1 F1440 wd1441 t169 hJ hm hr170
    unfold M.impl_progressRace_l1 at hm
    obtain ⟨f1442, f1443, f1444, f1445, f1446, f1447, f1448, f1449, hL⟩ := hJ
    refine CW.seq ?_
    refine CW.regionL ?_
    refine OW.cons (OP.val (v := (.bool (decide (s_l1.2 < (a1.length : Int))))) rfl (x_lss f1449 f1448) ?_)
    refine OW.nil ?_
    refine CW.seq ?_
    refine CW.condM (t := decide (s_l1.2 < (a1.length : Int))) rfl hm (fun hb1450 hm => ?_) (fun hb1450 hm => ?_)
    · refine CW.skip ?_
      refine CW.seqJ (fun (s_j4 : Int) (F : Fr) (w : World) => F 1 = v1 ∧ F 3 = (.pointer (some ⟨b6, 0, none⟩)) ∧ F 7 = v10 ∧ F 8 = (.int .i64 x14) ∧ F 9 = (.int .i64 s_j4) ∧ F 19 = v1 ∧ F 20 = (.int .i64 (a1.length : Int)) ∧ F 21 = (.int .i64 s_l1.2) ∧ Hp w0 [Ent.own 61 S9 v10 x7, Ent.blk b6 46 #[(.int .i64 a0.Gain), (.int .i64 a0.Step), (.int .i64 a0.Low), (.int .i64 a0.High)], Ent.snap w0 w0.heap.size] w) (fun s_j4 => M.impl_progressRace_j4 s_l1 s_j4 = some t169) ?_ ?_
      · refine CW.blockJ (fun (s_j5 : Int) (F : Fr) (w : World) => F 1 = v1 ∧ F 3 = (.pointer (some ⟨b6, 0, none⟩)) ∧ F 7 = v10 ∧ F 8 = (.int .i64 x14) ∧ F 9 = (.int .i64 s_j5) ∧ F 19 = v1 ∧ F 20 = (.int .i64 (a1.length : Int)) ∧ F 21 = (.int .i64 s_l1.2) ∧ Hp w0 [Ent.own 61 S9 v10 x7, Ent.blk b6 46 #[(.int .i64 a0.Gain), (.int .i64 a0.Step), (.int .i64 a0.Low), (.int .i64 a0.High)], Ent.snap w0 w0.heap.size] w) (fun s_j5 => M.impl_progressRace_j5 s_l1 s_j5 = some t169) ?_ ?_
        · refine CW.seq ?_
          refine CW.regionL ?_
          obtain ⟨x1514, ha1515, hm⟩ := bndE hm
          obtain ⟨hz1516, ha1520⟩ := idxE ha1515
          obtain ⟨b1517, q1518, hix1519⟩ := rdL_ix (hL.rdS 2 rfl h2) hz1516 ha1520
          refine OW.cons (OP.val (v := (.pointer (some ⟨b1517, q1518, none⟩))) rfl (x_ix Try.underlying28 Try_T56 f1447 f1449 hix1519) ?_)
          refine OW.cons (OP.val (v := (.agg #[(.int .i64 x1514.Boat), (.int .i64 x1514.Code), (.int .i64 x1514.Time)])) rfl (x_loadN (cs := [(.int .i64 x1514.Boat), (.int .i64 x1514.Code), (.int .i64 x1514.Time)]) Try.underlying56 Try_T56 rfl rfl (rdF_cells (hL.rdS 2 rfl h2) hix1519 ha1520)) ?_)
          refine OW.cons (S_alloc (cs := #[(.int .i64 0), (.int .i64 0), (.int .i64 0)]) hL Try_T56 rfl rfl ?_)
          intro wd1521 b1522 hL
          refine OW.cons (S_storeN (l := [(.int .i64 x1514.Boat), (.int .i64 x1514.Code), (.int .i64 x1514.Time)]) (cs' := #[(.int .i64 x1514.Boat), (.int .i64 x1514.Code), (.int .i64 x1514.Time)]) hL 0 rfl Try_T56 rfl rfl (List.forall_mem_cons.2 ⟨rfl, (List.forall_mem_cons.2 ⟨rfl, (List.forall_mem_cons.2 ⟨rfl, (fun _ h => by cases h)⟩)⟩)⟩) rfl (Nat.le_of_ble_eq_true rfl) rfl ?_)
          intro wd1523 hL
          refine OW.nil ?_
          refine CW.seq ?_
          refine CW.regionL ?_
          refine OW.cons (OP.val (v := (.pointer (some ⟨b1522, 1, none⟩))) rfl (x_fieldAddr (fsz := 1) 0 1 1 Try.underlying56 rfl Try_T2 rfl rfl rfl) ?_)
          refine OW.cons (OP.val (v := (.int .i64 x1514.Code)) rfl (x_load1 Try.underlying2 rfl rfl (hL.cellB 0 rfl rfl)) ?_)
          refine OW.cons (OP.val (v := (.bool (x1514.Code == 0))) rfl (x_eql rfl rfl) ?_)
          refine OW.nil ?_
          refine CW.condM (t := x1514.Code == 0) rfl hm (fun hb1524 hm => ?_) (fun hb1524 hm => ?_)
          · refine CW.regionL ?_
            refine OW.cons (OP.val (v := (.int .i64 s_l1.1)) rfl (x_mv f1446) ?_)
            refine OW.cons (OP.val (v := (.int .i64 (w64 (s_l1.1 + 1)))) rfl (x_add rfl rfl) ?_)
            refine OW.cons (OP.val (v := (.int .i64 (w64 (s_l1.1 + 1)))) rfl (x_assign) ?_)
            refine OW.nil ?_
            have hL := hL.sel [1, 2, 3] (by decide) rfl
            exact ⟨w64 (s_l1.1 + 1), hm, ⟨f1442, f1443, f1444, f1445, rfl, f1447, f1448, f1449, hL⟩⟩
          · refine CW.skip ?_
            have hL := hL.sel [1, 2, 3] (by decide) rfl
            exact ⟨s_l1.1, hm, ⟨f1442, f1443, f1444, f1445, f1446, f1447, f1448, f1449, hL⟩⟩
        · intro s_j5 F1504 wd1505 hJ hm
          unfold M.impl_progressRace_j5 at hm
          obtain ⟨f1506, f1507, f1508, f1509, f1510, f1511, f1512, f1513, hL⟩ := hJ
          exact ⟨s_j5, hm, ⟨f1506, f1507, f1508, f1509, f1510, f1511, f1512, f1513, hL⟩⟩
      · intro s_j4 F1483 wd1484 hJ hm
        unfold M.impl_progressRace_j4 at hm
        obtain ⟨f1485, f1486, f1487, f1488, f1489, f1490, f1491, f1492, hL⟩ := hJ
        refine CW.regionL ?_
        refine OW.cons (OP.val (v := (.int .i64 (w64 (s_l1.2 + 1)))) rfl (x_add f1492 rfl) ?_)
        refine OW.cons (OP.val (v := (.int .i64 (w64 (s_l1.2 + 1)))) rfl (x_move) ?_)
        refine OW.nil ?_
        obtain rfl := Option.some.inj hm
        exact ⟨_, rfl, ⟨f1485, f1486, f1487, f1488, f1489, f1490, f1491, rfl, hL⟩⟩
    · refine CW.exit ?_
      refine XJ.hit ?_
      obtain rfl := Option.some.inj hm
      exact ⟨_, rfl, ⟨f1442, f1443, f1444, f1445, f1446, f1447, f1448, f1449, hL⟩⟩

theorem M.impl_progressSteps_1_ok (w0 : World) (a0 : List Finish) {v1 : Value} (h2 : rdL (· < w0.heap.size) w0 v1 a0) (a1 : Int) {b3 : Nat} (hb4 : bxA (· < w0.heap.size) w0 b3 2 #[(.int .i64 a1)]) {r : Bool} (hm : M.impl_progressSteps_1 a0 a1 = some r) :
    Calls Try.prog 89 #[v1, (.pointer (some ⟨b3, 0, none⟩))] w0 fun e w' => e = .returned (.bool r) ∧ Fresh w0 w' [] := by
  unfold M.impl_progressSteps_1 at hm
  refine calls_CW (args := [v1, (.pointer (some ⟨b3, 0, none⟩))]) Try.func89 rfl rfl rfl ?_
  have hL := Hp.start w0
  refine CW.seq ?_
  refine CW.regionL ?_
  refine OW.cons (OP.val (v := (.bool false)) rfl (x_assign) ?_)
  refine OW.nil ?_
  refine CW.seq ?_
  refine CW.regionL ?_
  refine OW.cons (OP.val (v := (.int .i64 a1)) rfl (x_load1 Try.underlying2 rfl rfl ((hL.bxS 0 rfl hb4).cell rfl)) ?_)
  refine OW.cons (OP.val (v := v1) rfl (x_move) ?_)
  obtain ⟨x5, hx6, hm⟩ := bndE hm
  refine OW.cons (OP.call rfl (x_call (vs := [(.int .i64 a1), v1]) Try_C79 ⟨rfl, rfl, trivial⟩) (M.impl_areFinishes_ok _ a1 a0 (hL.rdS 0 rfl h2) hx6) ?_)
  rintro e7 wd8 ⟨rfl, hF9⟩
  refine ⟨_, rfl, ?_⟩
  have hL := hL.pushAll hF9
  simp only [lA, lB, lC, lD] at hL
  refine OW.cons (OP.val (v := (.bool (!x5))) rfl (x_not rfl) ?_)
  refine OW.cons (OP.val (v := (.bool (!x5))) rfl (x_assign) ?_)
  refine OW.nil ?_
  refine CW.ret ?_
  obtain rfl := Option.some.inj hm
  exact RR1 rfl rfl ⟨rfl, hL.fresh 0 rfl [] (by decide) (by decide) rfl⟩

theorem M.slices_IndexFunc_____impl_Finish___impl_Finish__ok (w0 : World) (a0 : List (List Finish)) {v1 : Value} (h2 : rdL (· < w0.heap.size) w0 v1 a0) (a1 : (List Finish) → Option Bool) {fk3 : FuncId} {cp4 : List Value} (hq5 : FnQ Try.prog fk3 cp4 (· < w0.heap.size) w0 (fun yw yvs yv => ∃ (y0 : List Finish) (yu0 : Value) (yr : Bool), yvs = [yu0] ∧ rdL (· < yw.heap.size) yw yu0 y0 ∧ a1 y0 = some yr ∧ yv = (.bool yr))) {r : Int} (hm : M.slices_IndexFunc_____impl_Finish___impl_Finish_ a0 a1 = some r) :
    Calls Try.prog 94 #[v1, (.func (.func fk3) #[] cp4.toArray)] w0 fun e w' => e = .returned (.int .i64 r) ∧ Fresh w0 w' [] := by
  unfold M.slices_IndexFunc_____impl_Finish___impl_Finish_ at hm
  refine calls_CW (args := [v1, (.func (.func fk3) #[] cp4.toArray)]) Try.func94 rfl rfl rfl ?_
  have hL := Hp.start w0
  refine CW.seq ?_
  refine CW.regionL ?_
  refine OW.cons (OP.val (v := (.int .i64 0)) rfl (x_assign) ?_)
  refine OW.nil ?_
  refine CW.seq ?_
  refine CW.seq ?_
  refine CW.regionL ?_
  refine OW.cons (OP.val (v := v1) rfl (x_move) ?_)
  refine OW.cons (OP.val (v := (.int .i64 (a0.length : Int))) rfl (x_lenR Try.underlying63 rfl (hL.rdS 0 rfl h2)) ?_)
  refine OW.cons (OP.val (v := (.int .i64 0)) rfl (x_move) ?_)
  refine OW.nil ?_
  obtain ⟨o44, ho45, hm⟩ := bndE hm
  refine CW.loopB (fun (s_l1 : Int) (F : Fr) (w : World) => F 0 = v1 ∧ F 1 = (.func (.func fk3) #[] cp4.toArray) ∧ F 7 = (.int .i64 (a0.length : Int)) ∧ F 8 = (.int .i64 s_l1) ∧ Hp w0 [Ent.snap w0 w0.heap.size] w) (fun o => outc o (fun x => some x) (fun s => M.slices_IndexFunc_____impl_Finish___impl_Finish__a1 s) = some r) ho45 hm ⟨rfl, rfl, rfl, rfl, hL⟩ ?_ ?_
  · intro s_l1 F46 wd47 hJ hm
    have hm := outcE hm
    have hm : M.slices_IndexFunc_____impl_Finish___impl_Finish__a1 s_l1 = some r := hm
    unfold M.slices_IndexFunc_____impl_Finish___impl_Finish__a1 at hm
    obtain ⟨f48, f49, f50, f51, hL⟩ := hJ
    refine CW.seq ?_
    refine CW.regionL ?_
    refine OW.cons (OP.val (v := (.int .i64 (-1))) rfl (x_assign) ?_)
    refine OW.nil ?_
    refine CW.ret ?_
    obtain rfl := Option.some.inj hm
    exact RR1 rfl rfl ⟨rfl, hL.fresh 0 rfl [] (by decide) (by decide) rfl⟩
  · intro s_l1 F52 wd53 t42 hJ hm hr43
    unfold M.slices_IndexFunc_____impl_Finish___impl_Finish__l1 at hm
    obtain ⟨f54, f55, f56, f57, hL⟩ := hJ
    refine CW.seq ?_
    refine CW.regionL ?_
    refine OW.cons (OP.val (v := (.bool (decide (s_l1 < (a0.length : Int))))) rfl (x_lss f57 f56) ?_)
    refine OW.nil ?_
    refine CW.seq ?_
    refine CW.condM (t := decide (s_l1 < (a0.length : Int))) rfl hm (fun hb58 hm => ?_) (fun hb58 hm => ?_)
    · refine CW.skip ?_
      refine CW.seq ?_
      refine CW.block ?_
      refine CW.seq ?_
      refine CW.regionL ?_
      refine OW.cons (OP.val (v := (.int .i64 s_l1)) rfl (x_mv f57) ?_)
      refine OW.cons (OP.val (v := (.int .i64 s_l1)) rfl (x_assign) ?_)
      refine OW.nil ?_
      refine CW.seq ?_
      refine CW.regionL ?_
      refine OW.cons (OP.val (v := (.func (.func fk3) #[] cp4.toArray)) rfl (x_mv f55) ?_)
      refine OW.cons (OP.val (v := v1) rfl (x_mv f54) ?_)
      refine OW.cons (OP.val (v := (.int .i64 s_l1)) rfl (x_move) ?_)
      obtain ⟨x59, ha60, hm⟩ := bndE hm
      obtain ⟨hz61, ha69⟩ := idxE ha60
      obtain ⟨b62, q63, v64, hix65, hs66, hc67, hr68⟩ := rdN_at h2 hz61 ha69
      refine OW.cons (OP.val (v := (.pointer (some ⟨b62, q63, none⟩))) rfl (x_ix Try.underlying63 Try_T28 rfl rfl hix65) ?_)
      refine OW.cons (OP.val (v := v64) rfl (x_load1 Try.underlying28 rfl rfl (hL.cellS 0 rfl hs66 hc67)) ?_)
      obtain ⟨x70, hx71, hm⟩ := bndE hm
      refine OW.cons (OP.call rfl (x_callV (vs := [v64]) (cap := cp4) hq5.1 rfl ⟨rfl, trivial⟩) (hq5.2 _ (hL.agS 0 rfl) [v64] _ ⟨x59, v64, x70, rfl, (hL.rdS 0 rfl hr68), hx71, rfl⟩) ?_)
      rintro e72 wd73 ⟨rfl, hF74⟩
      refine ⟨_, rfl, ?_⟩
      have hL := hL.pushAll hF74
      simp only [lA, lB, lC, lD] at hL
      refine OW.nil ?_
      refine CW.condM (t := x70) rfl hm (fun hb75 hm => ?_) (fun hb75 hm => ?_)
      · refine CW.seq ?_
        refine CW.regionL ?_
        refine OW.cons (OP.val (v := (.int .i64 s_l1)) rfl (x_move) ?_)
        refine OW.cons (OP.val (v := (.int .i64 s_l1)) rfl (x_assign) ?_)
        refine OW.nil ?_
        refine CW.ret ?_
        obtain rfl := Option.some.inj hm
        have hm := hr43 _ rfl
        obtain rfl := Option.some.inj hm
        exact RR1 rfl rfl ⟨rfl, hL.fresh 0 rfl [] (by decide) (by decide) rfl⟩
      · refine CW.skip ?_
        refine CW.regionL ?_
        refine OW.cons (OP.val (v := (.int .i64 (w64 (s_l1 + 1)))) rfl (x_add f57 rfl) ?_)
        refine OW.cons (OP.val (v := (.int .i64 (w64 (s_l1 + 1)))) rfl (x_move) ?_)
        refine OW.nil ?_
        obtain rfl := Option.some.inj hm
        exact ⟨_, rfl, ⟨f54, f55, f56, rfl, hL⟩⟩
    · refine CW.exit ?_
      refine XJ.hit ?_
      obtain rfl := Option.some.inj hm
      exact ⟨_, rfl, ⟨f54, f55, f56, f57, hL⟩⟩

theorem M.slices_ContainsFunc_____impl_Finish___impl_Finish__ok (w0 : World) (a0 : List (List Finish)) {v1 : Value} (h2 : rdL (· < w0.heap.size) w0 v1 a0) (a1 : (List Finish) → Option Bool) {fk3 : FuncId} {cp4 : List Value} (hq5 : FnQ Try.prog fk3 cp4 (· < w0.heap.size) w0 (fun yw yvs yv => ∃ (y0 : List Finish) (yu0 : Value) (yr : Bool), yvs = [yu0] ∧ rdL (· < yw.heap.size) yw yu0 y0 ∧ a1 y0 = some yr ∧ yv = (.bool yr))) {r : Bool} (hm : M.slices_ContainsFunc_____impl_Finish___impl_Finish_ a0 a1 = some r) :
    Calls Try.prog 88 #[v1, (.func (.func fk3) #[] cp4.toArray)] w0 fun e w' => e = .returned (.bool r) ∧ Fresh w0 w' [] := by
  unfold M.slices_ContainsFunc_____impl_Finish___impl_Finish_ at hm
  refine calls_CW (args := [v1, (.func (.func fk3) #[] cp4.toArray)]) Try.func88 rfl rfl rfl ?_
  have hL := Hp.start w0
  refine CW.seq ?_
  refine CW.regionL ?_
  refine OW.cons (OP.val (v := (.bool false)) rfl (x_assign) ?_)
  refine OW.nil ?_
  refine CW.seq ?_
  refine CW.regionL ?_
  refine OW.cons (OP.val (v := v1) rfl (x_move) ?_)
  refine OW.cons (OP.val (v := (.func (.func fk3) #[] cp4.toArray)) rfl (x_move) ?_)
  obtain ⟨x6, hx7, hm⟩ := bndE hm
  refine OW.cons (OP.call rfl (x_call (vs := [v1, (.func (.func fk3) #[] cp4.toArray)]) Try_C94 ⟨rfl, rfl, trivial⟩) (M.slices_IndexFunc_____impl_Finish___impl_Finish__ok _ a0 (hL.rdS 0 rfl h2) a1 (hL.fnS 0 rfl hq5) hx7) ?_)
  rintro e8 wd9 ⟨rfl, hF10⟩
  refine ⟨_, rfl, ?_⟩
  have hL := hL.pushAll hF10
  simp only [lA, lB, lC, lD] at hL
  refine OW.cons (OP.val (v := (.bool (decide (0 ≤ x6)))) rfl (x_geq rfl rfl) ?_)
  refine OW.cons (OP.val (v := (.bool (decide (0 ≤ x6)))) rfl (x_assign) ?_)
  refine OW.nil ?_
  refine CW.ret ?_
  obtain rfl := Option.some.inj hm
  exact RR1 rfl rfl ⟨rfl, hL.fresh 0 rfl [] (by decide) (by decide) rfl⟩

theorem M.impl_progressSteps_ok (w0 : World) (a0 : ProgressRules) (a1 : Int) (a2 : List (List Finish)) {v1 : Value} (h2 : rdL (· < w0.heap.size) w0 v1 a2) (a3 : List Rating) {v3 : Value} (h4 : rdL (· < w0.heap.size) w0 v3 a3) {r : (List (List Rating)) × Int} (hm : M.impl_progressSteps a0 a1 a2 a3 = some r) :
    Calls Try.prog 71 #[(.agg #[(.int .i64 a0.Gain), (.int .i64 a0.Step), (.int .i64 a0.Low), (.int .i64 a0.High)]), (.int .i64 a1), v1, v3] w0 fun e w' => ∃ (rv0 : Value) (rS0 : Nat → Prop), e = .returned (.tuple #[rv0, (.int .i64 r.2)]) ∧ Fresh w0 w' [Ent.own 30 rS0 rv0 r.1] := by
  unfold M.impl_progressSteps at hm
  refine calls_CW (args := [(.agg #[(.int .i64 a0.Gain), (.int .i64 a0.Step), (.int .i64 a0.Low), (.int .i64 a0.High)]), (.int .i64 a1), v1, v3]) Try.func71 rfl rfl rfl ?_
  have hL := Hp.start w0
  refine CW.seq ?_
  refine CW.regionL ?_
  refine OW.cons (S_box (cs := #[(.int .i64 a0.Gain), (.int .i64 a0.Step), (.int .i64 a0.Low), (.int .i64 a0.High)]) hL rfl rfl rfl ?_)
  intro wd5 b6 hL
  refine OW.cons (S_box (cs := #[(.int .i64 a1)]) hL rfl rfl rfl ?_)
  intro wd7 b8 hL
  refine OW.cons (OP.val (v := (.slice none 0 0)) rfl (x_assign) ?_)
  refine OW.cons (OP.val (v := (.int .i64 0)) rfl (x_assign) ?_)
  refine OW.nil ?_
  refine CW.seq ?_
  refine CW.seq ?_
  refine CW.regionL ?_
  refine OW.cons (OP.val (v := (.agg #[(.int .i64 a0.Gain), (.int .i64 a0.Step), (.int .i64 a0.Low), (.int .i64 a0.High)])) rfl (x_loadN (cs := [(.int .i64 a0.Gain), (.int .i64 a0.Step), (.int .i64 a0.Low), (.int .i64 a0.High)]) Try.underlying46 Try_T46 rfl rfl (hL.cellsB 1 rfl (o := 0) (l := [(.int .i64 a0.Gain), (.int .i64 a0.Step), (.int .i64 a0.Low), (.int .i64 a0.High)]) (by intro j u hj; exact (by simpa using hj)))) ?_)
  obtain ⟨x9, hx10, hm⟩ := bndE hm
  refine OW.cons (OP.call rfl (x_call (vs := [(.agg #[(.int .i64 a0.Gain), (.int .i64 a0.Step), (.int .i64 a0.Low), (.int .i64 a0.High)])]) Try_C59 ⟨rfl, trivial⟩) (M.impl_IsProgress_ok _ a0 hx10) ?_)
  rintro e11 wd12 ⟨rfl, hF13⟩
  refine ⟨_, rfl, ?_⟩
  have hL := hL.pushAll hF13
  simp only [lA, lB, lC, lD] at hL
  refine OW.cons (OP.val (v := (.bool (!x9))) rfl (x_not rfl) ?_)
  refine OW.nil ?_
  refine CW.condM (t := !x9) rfl hm (fun hb14 hm => ?_) (fun hb14 hm => ?_)
  · refine CW.seq ?_
    refine CW.regionL ?_
    refine OW.cons (OP.val (v := (.slice none 0 0)) rfl (x_assign) ?_)
    refine OW.cons (OP.val (v := (.int .i64 1)) rfl (x_assign) ?_)
    refine OW.nil ?_
    refine CW.ret ?_
    have hL := hL.pushNil (List Rating) 30
    obtain rfl := Option.some.inj hm
    exact RR2 rfl rfl rfl ⟨(.slice none 0 0), None_, rfl, hL.fresh 3 rfl [0] (by decide) (by decide) rfl⟩
  · refine CW.skip ?_
    refine CW.seq ?_
    refine CW.seq ?_
    refine CW.regionL ?_
    refine OW.cons (OP.val (v := v1) rfl (x_move) ?_)
    refine OW.cons (OP.val (v := (.int .i64 (a2.length : Int))) rfl (x_lenR Try.underlying63 rfl (hL.rdS 2 rfl h2)) ?_)
    refine OW.cons (OP.val (v := (.bool (decide (20 < (a2.length : Int))))) rfl (x_gtr rfl rfl) ?_)
    refine OW.nil ?_
    refine CW.condM (t := decide (20 < (a2.length : Int))) rfl hm (fun hb15 hm => ?_) (fun hb15 hm => ?_)
    · refine CW.seq ?_
      refine CW.regionL ?_
      refine OW.cons (OP.val (v := (.slice none 0 0)) rfl (x_assign) ?_)
      refine OW.cons (OP.val (v := (.int .i64 3)) rfl (x_assign) ?_)
      refine OW.nil ?_
      refine CW.ret ?_
      have hL := hL.pushNil (List Rating) 30
      obtain rfl := Option.some.inj hm
      exact RR2 rfl rfl rfl ⟨(.slice none 0 0), None_, rfl, hL.fresh 3 rfl [0] (by decide) (by decide) rfl⟩
    · refine CW.skip ?_
      refine CW.seq ?_
      refine CW.seq ?_
      refine CW.regionL ?_
      refine OW.cons (OP.val (v := v1) rfl (x_move) ?_)
      refine OW.cons (OP.val (v := (.func (.func 89) #[] #[(.pointer (some ⟨b8, 0, none⟩))])) rfl (x_makeFunc (vs := [(.pointer (some ⟨b8, 0, none⟩))]) ⟨rfl, trivial⟩) ?_)
      obtain ⟨x16, hx17, hm⟩ := bndE hm
      refine OW.cons (OP.call rfl (x_call (vs := [v1, (.func (.func 89) #[] #[(.pointer (some ⟨b8, 0, none⟩))])]) Try_C88 ⟨rfl, rfl, trivial⟩) (M.slices_ContainsFunc_____impl_Finish___impl_Finish__ok _ a2 (hL.rdS 2 rfl h2) (fun y0 => M.impl_progressSteps_1 y0 a1) ⟨Try_C89, fun yw hag yvs yv hR => by obtain ⟨y0, yu0, yr, rfl, yc0, hyf, rfl⟩ := hR; exact M.impl_progressSteps_1_ok yw y0 yc0 a1 (hag.bx (hL.bxB 0 rfl)) hyf⟩ hx17) ?_)
      rintro e18 wd19 ⟨rfl, hF20⟩
      refine ⟨_, rfl, ?_⟩
      have hL := hL.pushAll hF20
      simp only [lA, lB, lC, lD] at hL
      refine OW.nil ?_
      refine CW.condM (t := x16) rfl hm (fun hb21 hm => ?_) (fun hb21 hm => ?_)
      · refine CW.seq ?_
        refine CW.regionL ?_
        refine OW.cons (OP.val (v := (.slice none 0 0)) rfl (x_assign) ?_)
        refine OW.cons (OP.val (v := (.int .i64 1)) rfl (x_assign) ?_)
        refine OW.nil ?_
        refine CW.ret ?_
        have hL := hL.pushNil (List Rating) 30
        obtain rfl := Option.some.inj hm
        exact RR2 rfl rfl rfl ⟨(.slice none 0 0), None_, rfl, hL.fresh 3 rfl [0] (by decide) (by decide) rfl⟩
      · refine CW.skip ?_
        refine CW.seq ?_
        refine CW.seq ?_
        refine CW.regionL ?_
        refine OW.cons (OP.val (v := (.int .i64 a1)) rfl (x_load1 Try.underlying2 rfl rfl (hL.cellB 0 rfl rfl)) ?_)
        refine OW.cons (OP.val (v := v3) rfl (x_move) ?_)
        obtain ⟨x22, hx23, hm⟩ := bndE hm
        refine OW.cons (OP.call rfl (x_call (vs := [(.int .i64 a1), v3]) Try_C73 ⟨rfl, rfl, trivial⟩) (M.impl_IsRatings_ok _ a1 a3 (hL.rdS 2 rfl h4) hx23) ?_)
        rintro e24 wd25 ⟨rfl, hF26⟩
        refine ⟨_, rfl, ?_⟩
        have hL := hL.pushAll hF26
        simp only [lA, lB, lC, lD] at hL
        refine OW.cons (OP.val (v := (.bool (!x22))) rfl (x_not rfl) ?_)
        refine OW.nil ?_
        refine CW.condM (t := !x22) rfl hm (fun hb27 hm => ?_) (fun hb27 hm => ?_)
        · refine CW.seq ?_
          refine CW.regionL ?_
          refine OW.cons (OP.val (v := (.slice none 0 0)) rfl (x_assign) ?_)
          refine OW.cons (OP.val (v := (.int .i64 2)) rfl (x_assign) ?_)
          refine OW.nil ?_
          refine CW.ret ?_
          have hL := hL.pushNil (List Rating) 30
          obtain rfl := Option.some.inj hm
          exact RR2 rfl rfl rfl ⟨(.slice none 0 0), None_, rfl, hL.fresh 3 rfl [0] (by decide) (by decide) rfl⟩
        · refine CW.skip ?_
          refine CW.seq ?_
          refine CW.regionL ?_
          refine OW.cons (OP.val (v := v3) rfl (x_move) ?_)
          obtain ⟨x28, hx29, hm⟩ := bndE hm
          refine OW.cons (OP.call rfl (x_call (vs := [v3]) Try_C83 ⟨rfl, trivial⟩) (M.slices_Clone___impl_Rating_impl_Rating__ok _ a3 (hL.rdS 2 rfl h4) hx29) ?_)
          rintro e32 wd33 ⟨v31, S30, rfl, hF34⟩
          refine ⟨_, rfl, ?_⟩
          have hL := hL.pushAll hF34
          simp only [lA, lB, lC, lD] at hL
          refine OW.cons (S_lit1 x28 rfl hL Try.underlying101 Try_T30 ((congrArg Value.cells (show _ = v31 from rfl)).trans (rdL_cells (hL.rdO 0 rfl))) rfl ?_)
          intro wd35 v36 S37 hL
          refine OW.cons (OP.val (v := v36) rfl (x_assign) ?_)
          refine OW.nil ?_
          refine CW.seq ?_
          refine CW.seq ?_
          refine CW.regionL ?_
          refine OW.cons (OP.val (v := v1) rfl (x_move) ?_)
          refine OW.cons (OP.val (v := (.int .i64 (a2.length : Int))) rfl (x_lenR Try.underlying63 rfl (hL.rdS 3 rfl h2)) ?_)
          refine OW.cons (OP.val (v := (.int .i64 0)) rfl (x_move) ?_)
          refine OW.nil ?_
          obtain ⟨o172, ho173, hm⟩ := bndE hm
          refine CW.loopB (fun (s_l1 : (List (List Rating)) × Int) (F : Fr) (w : World) => ∃ (v168 : Value) (S169 : Nat → Prop), F 4 = (.pointer (some ⟨b6, 0, none⟩)) ∧ F 10 = v168 ∧ F 29 = v1 ∧ F 30 = (.int .i64 (a2.length : Int)) ∧ F 31 = (.int .i64 s_l1.2) ∧ Hp w0 [Ent.own 30 S169 v168 s_l1.1, Ent.blk b8 2 #[(.int .i64 a1)], Ent.blk b6 46 #[(.int .i64 a0.Gain), (.int .i64 a0.Step), (.int .i64 a0.Low), (.int .i64 a0.High)], Ent.snap w0 w0.heap.size] w) (fun o => outc o (fun x => some x) (fun s => M.impl_progressSteps_a1 s) = some r) ho173 hm ⟨v36, S37, rfl, rfl, rfl, rfl, rfl, hL⟩ ?_ ?_
          · intro s_l1 F174 wd175 hJ hm
            have hm := outcE hm
            have hm : M.impl_progressSteps_a1 s_l1 = some r := hm
            unfold M.impl_progressSteps_a1 at hm
            obtain ⟨v168, S169, f176, f177, f178, f179, f180, hL⟩ := hJ
            refine CW.seq ?_
            refine CW.regionL ?_
            refine OW.cons (OP.val (v := v168) rfl (x_mv f177) ?_)
            refine OW.cons (OP.val (v := v168) rfl (x_assign) ?_)
            refine OW.cons (OP.val (v := (.int .i64 0)) rfl (x_assign) ?_)
            refine OW.nil ?_
            refine CW.ret ?_
            obtain rfl := Option.some.inj hm
            exact RR2 rfl rfl rfl ⟨v168, S169, rfl, hL.fresh 3 rfl [0] (by decide) (by decide) rfl⟩
          · intro s_l1 F181 wd182 t170 hJ hm hr171
            unfold M.impl_progressSteps_l1 at hm
            obtain ⟨v168, S169, f183, f184, f185, f186, f187, hL⟩ := hJ
            refine CW.seq ?_
            refine CW.regionL ?_
            refine OW.cons (OP.val (v := (.bool (decide (s_l1.2 < (a2.length : Int))))) rfl (x_lss f187 f186) ?_)
            refine OW.nil ?_
            refine CW.seq ?_
            refine CW.condM (t := decide (s_l1.2 < (a2.length : Int))) rfl hm (fun hb188 hm => ?_) (fun hb188 hm => ?_)
            · refine CW.skip ?_
              refine CW.seq ?_
              refine CW.block ?_
              refine CW.seq ?_
              refine CW.regionL ?_
              refine OW.cons (OP.val (v := (.int .i64 s_l1.2)) rfl (x_mv f187) ?_)
              obtain ⟨x189, ha190, hm⟩ := bndE hm
              obtain ⟨hz191, ha199⟩ := idxE ha190
              obtain ⟨b192, q193, v194, hix195, hs196, hc197, hr198⟩ := rdN_at h2 hz191 ha199
              refine OW.cons (OP.val (v := (.pointer (some ⟨b192, q193, none⟩))) rfl (x_ix Try.underlying63 Try_T28 f185 f187 hix195) ?_)
              refine OW.cons (OP.val (v := v194) rfl (x_load1 Try.underlying28 rfl rfl (hL.cellS 3 rfl hs196 hc197)) ?_)
              refine OW.cons (OP.val (v := (.int .i64 s_l1.2)) rfl (x_assign) ?_)
              refine OW.cons (OP.val (v := v194) rfl (x_assign) ?_)
              refine OW.nil ?_
              obtain ⟨wz200, hL, ho201⟩ := hL.freeze 0 rfl
              simp only [lC, lD] at hL
              refine CW.drawH (fun w' => Hp w0 [Ent.blk b8 2 #[(.int .i64 a1)], Ent.blk b6 46 #[(.int .i64 a0.Gain), (.int .i64 a0.Step), (.int .i64 a0.Low), (.int .i64 a0.High)], Ent.snap w0 w0.heap.size] w') Try_mixed ?_
              have hL := hL.call (Mod.drew _)
              have hS := (hL.sel [1, 2, 3] (by decide) rfl)
              refine DH.take 0 rfl (by kernel_rfl) (by kernel_rfl) (by kernel_rfl) rfl rfl hS (YH.val (v := v168) (fun w' hS' => x_mv f184)) ?_
              have hS := (hL.sel [1, 2, 3] (by decide) rfl)
              refine DH.take 1 rfl (by kernel_rfl) (by kernel_rfl) (by kernel_rfl) rfl rfl hS (YH.val (v := (.agg #[(.int .i64 a0.Gain), (.int .i64 a0.Step), (.int .i64 a0.Low), (.int .i64 a0.High)])) (fun w' hS' => x_loadN (cs := [(.int .i64 a0.Gain), (.int .i64 a0.Step), (.int .i64 a0.Low), (.int .i64 a0.High)]) Try.underlying46 Try_T46 rfl f183 (hS'.cellsB 1 rfl (o := 0) (l := [(.int .i64 a0.Gain), (.int .i64 a0.Step), (.int .i64 a0.Low), (.int .i64 a0.High)]) (by intro j u hj; exact (by simpa using hj))))) ?_
              have hS := (hL.sel [1, 2, 3] (by decide) rfl)
              refine DH.take 2 rfl (by kernel_rfl) (by kernel_rfl) (by kernel_rfl) rfl rfl hS (YH.val (v := v194) (fun w' hS' => x_move)) ?_
              have hS := (hL.sel [1, 2, 3] (by decide) rfl)
              refine DH.take 3 rfl (by kernel_rfl) (by kernel_rfl) (by kernel_rfl) rfl rfl hS (YH.val (v := v168) (fun w' hS' => x_mv f184)) ?_
              have hS := (hL.sel [1, 2, 3] (by decide) rfl)
              refine DH.take 4 rfl (by kernel_rfl) (by kernel_rfl) (by kernel_rfl) rfl rfl hS (YH.val (v := (.int .i64 s_l1.2)) (fun w' hS' => x_move)) ?_
              have hS := (hL.sel [1, 2, 3] (by decide) rfl)
              obtain ⟨x227, ha228, hm⟩ := bndE hm
              obtain ⟨hz229, ha237⟩ := idxE ha228
              obtain ⟨b230, q231, v232, hix233, hs234, hc235, hr236⟩ := rdN_at ho201.1.rdL hz229 ha237
              refine DH.take 5 rfl (by kernel_rfl) (by kernel_rfl) (by kernel_rfl) rfl rfl hS (YH.val (v := (.pointer (some ⟨b230, q231, none⟩))) (fun w' hS' => x_ix Try.underlying101 Try_T30 rfl rfl hix233)) ?_
              refine DH.only 6 rfl (by kernel_rfl) (OP.val (v := v232) rfl (x_load1 Try.underlying30 rfl rfl (hL.cellF 0 rfl hs234 hc235)) ?_)
              refine ⟨(hL.sel [1, 2, 3] (by decide) rfl), ?_⟩
              obtain ⟨x238, hx239, hm⟩ := bndE hm
              refine DH.only 7 rfl (by kernel_rfl) (OP.call rfl (x_call (vs := [(.agg #[(.int .i64 a0.Gain), (.int .i64 a0.Step), (.int .i64 a0.Low), (.int .i64 a0.High)]), v194, v232]) Try_C60 ⟨rfl, rfl, rfl, trivial⟩) (M.impl_progressRace_ok _ a0 x189 (hL.rdS 3 rfl hr198) x227 (hL.rdF 0 rfl hr236) hx239) ?_)
              rintro e242 wd243 ⟨v241, S240, rfl, hF244⟩
              refine ⟨_, rfl, ?_⟩
              have hL := hL.pushAll hF244
              simp only [lA, lB, lC, lD] at hL
              refine ⟨(hL.sel [2, 3, 4] (by decide) rfl), ?_⟩
              refine DH.only 8 rfl (by kernel_rfl) (S_lit1 x238 rfl hL Try.underlying101 Try_T30 ((congrArg Value.cells (show _ = v241 from rfl)).trans (rdL_cells (hL.rdO 0 rfl))) rfl ?_)
              intro wd245 v246 S247 hL
              refine ⟨(hL.sel [2, 3, 4] (by decide) rfl), ?_⟩
              have hL := hL.thaw 1 rfl ho201
              obtain ⟨hc251, hm⟩ := chkE hm
              have hL := hL.sel [1, 0, 2, 3, 4] (by decide) rfl
              refine DH.only 9 rfl (by kernel_rfl) (S_appendN Rating hL Try.underlying101 Try_T30 rfl rfl rfl hc251 (by decide) rfl ?_)
              intro wd248 v249 S250 hL
              refine ⟨(hL.sel [1, 2, 3] (by decide) rfl), ?_⟩
              have hS := (hL.sel [1, 2, 3] (by decide) rfl)
              refine DH.take 10 rfl (by kernel_rfl) (by kernel_rfl) (by kernel_rfl) rfl rfl hS (YH.val (v := v249) (fun w' hS' => x_assign)) ?_
              refine DH.done (by kernel_rfl) ?_
              refine CW.regionL ?_
              refine OW.cons (OP.val (v := (.int .i64 (w64 (s_l1.2 + 1)))) rfl (x_add f187 rfl) ?_)
              refine OW.cons (OP.val (v := (.int .i64 (w64 (s_l1.2 + 1)))) rfl (x_move) ?_)
              refine OW.nil ?_
              obtain rfl := Option.some.inj hm
              exact ⟨_, rfl, ⟨v249, S250, f183, rfl, f185, f186, rfl, hL⟩⟩
            · refine CW.exit ?_
              refine XJ.hit ?_
              obtain rfl := Option.some.inj hm
              exact ⟨_, rfl, ⟨v168, S169, f183, f184, f185, f186, f187, hL⟩⟩

theorem M.spec_l25Code_ok (w0 : World) (a0 : ProgressRules) (a1 : Int) (a2 : List (List Finish)) {v1 : Value} (h2 : rdL (· < w0.heap.size) w0 v1 a2) (a3 : List Rating) {v3 : Value} (h4 : rdL (· < w0.heap.size) w0 v3 a3) {r : Int} (hm : M.spec_l25Code a0 a1 a2 a3 = some r) :
    Calls Try.prog 72 #[(.agg #[(.int .i64 a0.Gain), (.int .i64 a0.Step), (.int .i64 a0.Low), (.int .i64 a0.High)]), (.int .i64 a1), v1, v3] w0 fun e w' => e = .returned (.int .i64 r) ∧ Fresh w0 w' [] := by
  unfold M.spec_l25Code at hm
  refine calls_CW (args := [(.agg #[(.int .i64 a0.Gain), (.int .i64 a0.Step), (.int .i64 a0.Low), (.int .i64 a0.High)]), (.int .i64 a1), v1, v3]) Try.func72 rfl rfl rfl ?_
  have hL := Hp.start w0
  refine CW.seq ?_
  refine CW.regionL ?_
  refine OW.cons (S_box (cs := #[(.int .i64 a0.Gain), (.int .i64 a0.Step), (.int .i64 a0.Low), (.int .i64 a0.High)]) hL rfl rfl rfl ?_)
  intro wd5 b6 hL
  refine OW.cons (OP.val (v := (.int .i64 0)) rfl (x_assign) ?_)
  refine OW.nil ?_
  refine CW.seq ?_
  refine CW.seq ?_
  refine CW.regionL ?_
  refine OW.cons (OP.val (v := (.agg #[(.int .i64 a0.Gain), (.int .i64 a0.Step), (.int .i64 a0.Low), (.int .i64 a0.High)])) rfl (x_loadN (cs := [(.int .i64 a0.Gain), (.int .i64 a0.Step), (.int .i64 a0.Low), (.int .i64 a0.High)]) Try.underlying46 Try_T46 rfl rfl (hL.cellsB 0 rfl (o := 0) (l := [(.int .i64 a0.Gain), (.int .i64 a0.Step), (.int .i64 a0.Low), (.int .i64 a0.High)]) (by intro j u hj; exact (by simpa using hj)))) ?_)
  obtain ⟨x7, hx8, hm⟩ := bndE hm
  refine OW.cons (OP.call rfl (x_call (vs := [(.agg #[(.int .i64 a0.Gain), (.int .i64 a0.Step), (.int .i64 a0.Low), (.int .i64 a0.High)])]) Try_C57 ⟨rfl, trivial⟩) (M.spec_IsProgress_ok _ a0 hx8) ?_)
  rintro e9 wd10 ⟨rfl, hF11⟩
  refine ⟨_, rfl, ?_⟩
  have hL := hL.pushAll hF11
  simp only [lA, lB, lC, lD] at hL
  refine OW.cons (OP.val (v := (.bool (!x7))) rfl (x_not rfl) ?_)
  refine OW.nil ?_
  refine CW.condM (t := !x7) rfl hm (fun hb12 hm => ?_) (fun hb12 hm => ?_)
  · refine CW.seq ?_
    refine CW.regionL ?_
    refine OW.cons (OP.val (v := (.int .i64 1)) rfl (x_assign) ?_)
    refine OW.nil ?_
    refine CW.ret ?_
    obtain rfl := Option.some.inj hm
    exact RR1 rfl rfl ⟨rfl, hL.fresh 1 rfl [] (by decide) (by decide) rfl⟩
  · refine CW.skip ?_
    refine CW.seq ?_
    refine CW.seq ?_
    refine CW.regionL ?_
    refine OW.cons (OP.val (v := v1) rfl (x_move) ?_)
    refine OW.cons (OP.val (v := (.int .i64 (a2.length : Int))) rfl (x_lenR Try.underlying63 rfl (hL.rdS 1 rfl h2)) ?_)
    refine OW.cons (OP.val (v := (.bool (decide (20 < (a2.length : Int))))) rfl (x_gtr rfl rfl) ?_)
    refine OW.nil ?_
    refine CW.condM (t := decide (20 < (a2.length : Int))) rfl hm (fun hb13 hm => ?_) (fun hb13 hm => ?_)
    · refine CW.seq ?_
      refine CW.regionL ?_
      refine OW.cons (OP.val (v := (.int .i64 3)) rfl (x_assign) ?_)
      refine OW.nil ?_
      refine CW.ret ?_
      obtain rfl := Option.some.inj hm
      exact RR1 rfl rfl ⟨rfl, hL.fresh 1 rfl [] (by decide) (by decide) rfl⟩
    · refine CW.skip ?_
      refine CW.seq ?_
      refine CW.seq ?_
      refine CW.regionL ?_
      refine OW.cons (OP.val (v := (.int .i64 0)) rfl (x_assign) ?_)
      refine OW.nil ?_
      obtain ⟨o52, ho53, hm⟩ := bndE hm
      refine CW.loopB (fun (s_l1 : Int) (F : Fr) (w : World) => F 1 = (.int .i64 a1) ∧ F 2 = v1 ∧ F 3 = v3 ∧ F 9 = (.int .i64 s_l1) ∧ Hp w0 [Ent.blk b6 46 #[(.int .i64 a0.Gain), (.int .i64 a0.Step), (.int .i64 a0.Low), (.int .i64 a0.High)], Ent.snap w0 w0.heap.size] w) (fun o => outc o (fun x => some x) (fun s => M.spec_l25Code_a1 a1 a3 s) = some r) ho53 hm ⟨rfl, rfl, rfl, rfl, hL⟩ ?_ ?_
      · intro s_l1 F54 wd55 hJ hm
        have hm := outcE hm
        have hm : M.spec_l25Code_a1 a1 a3 s_l1 = some r := hm
        unfold M.spec_l25Code_a1 at hm
        obtain ⟨f56, f57, f58, f59, hL⟩ := hJ
        refine CW.seq ?_
        refine CW.seq ?_
        refine CW.regionL ?_
        refine OW.cons (OP.val (v := (.int .i64 a1)) rfl (x_mv f56) ?_)
        refine OW.cons (OP.val (v := v3) rfl (x_mv f58) ?_)
        obtain ⟨x60, hx61, hm⟩ := bndE hm
        refine OW.cons (OP.call rfl (x_call (vs := [(.int .i64 a1), v3]) Try_C77 ⟨rfl, rfl, trivial⟩) (M.spec_IsRatings_ok _ a1 a3 (hL.rdS 1 rfl h4) hx61) ?_)
        rintro e62 wd63 ⟨rfl, hF64⟩
        refine ⟨_, rfl, ?_⟩
        have hL := hL.pushAll hF64
        simp only [lA, lB, lC, lD] at hL
        refine OW.cons (OP.val (v := (.bool (!x60))) rfl (x_not rfl) ?_)
        refine OW.nil ?_
        refine CW.condM (t := !x60) rfl hm (fun hb65 hm => ?_) (fun hb65 hm => ?_)
        · refine CW.seq ?_
          refine CW.regionL ?_
          refine OW.cons (OP.val (v := (.int .i64 2)) rfl (x_assign) ?_)
          refine OW.nil ?_
          refine CW.ret ?_
          obtain rfl := Option.some.inj hm
          exact RR1 rfl rfl ⟨rfl, hL.fresh 1 rfl [] (by decide) (by decide) rfl⟩
        · refine CW.skip ?_
          refine CW.seq ?_
          refine CW.regionL ?_
          refine OW.cons (OP.val (v := (.int .i64 0)) rfl (x_assign) ?_)
          refine OW.nil ?_
          refine CW.ret ?_
          obtain rfl := Option.some.inj hm
          exact RR1 rfl rfl ⟨rfl, hL.fresh 1 rfl [] (by decide) (by decide) rfl⟩
      · intro s_l1 F66 wd67 t50 hJ hm hr51
        unfold M.spec_l25Code_l1 at hm
        obtain ⟨f68, f69, f70, f71, hL⟩ := hJ
        refine CW.seq ?_
        refine CW.seq ?_
        refine CW.regionL ?_
        refine OW.cons (OP.val (v := (.int .i64 s_l1)) rfl (x_mv f71) ?_)
        refine OW.cons (OP.val (v := v1) rfl (x_mv f69) ?_)
        refine OW.cons (OP.val (v := (.int .i64 (a2.length : Int))) rfl (x_lenR Try.underlying63 rfl (hL.rdS 1 rfl h2)) ?_)
        refine OW.cons (OP.val (v := (.bool (decide (s_l1 < (a2.length : Int))))) rfl (x_lss rfl rfl) ?_)
        refine OW.nil ?_
        refine CW.condM (t := decide (s_l1 < (a2.length : Int))) rfl hm (fun hb72 hm => ?_) (fun hb72 hm => ?_)
        · refine CW.skip ?_
          refine CW.seq ?_
          refine CW.block ?_
          refine CW.seq ?_
          refine CW.regionL ?_
          refine OW.cons (OP.val (v := (.int .i64 a1)) rfl (x_mv f68) ?_)
          refine OW.cons (OP.val (v := v1) rfl (x_mv f69) ?_)
          refine OW.cons (OP.val (v := (.int .i64 s_l1)) rfl (x_mv f71) ?_)
          obtain ⟨x73, ha74, hm⟩ := bndE hm
          obtain ⟨hz75, ha83⟩ := idxE ha74
          obtain ⟨b76, q77, v78, hix79, hs80, hc81, hr82⟩ := rdN_at h2 hz75 ha83
          refine OW.cons (OP.val (v := (.pointer (some ⟨b76, q77, none⟩))) rfl (x_ix Try.underlying63 Try_T28 rfl rfl hix79) ?_)
          refine OW.cons (OP.val (v := v78) rfl (x_load1 Try.underlying28 rfl rfl (hL.cellS 1 rfl hs80 hc81)) ?_)
          obtain ⟨x84, hx85, hm⟩ := bndE hm
          refine OW.cons (OP.call rfl (x_call (vs := [(.int .i64 a1), v78]) Try_C76 ⟨rfl, rfl, trivial⟩) (M.spec_l22Race_ok _ a1 x73 (hL.rdS 1 rfl hr82) hx85) ?_)
          rintro e86 wd87 ⟨rfl, hF88⟩
          refine ⟨_, rfl, ?_⟩
          have hL := hL.pushAll hF88
          simp only [lA, lB, lC, lD] at hL
          refine OW.cons (OP.val (v := (.bool (!x84))) rfl (x_not rfl) ?_)
          refine OW.nil ?_
          refine CW.condM (t := !x84) rfl hm (fun hb89 hm => ?_) (fun hb89 hm => ?_)
          · refine CW.seq ?_
            refine CW.regionL ?_
            refine OW.cons (OP.val (v := (.int .i64 1)) rfl (x_assign) ?_)
            refine OW.nil ?_
            refine CW.ret ?_
            obtain rfl := Option.some.inj hm
            have hm := hr51 _ rfl
            obtain rfl := Option.some.inj hm
            exact RR1 rfl rfl ⟨rfl, hL.fresh 1 rfl [] (by decide) (by decide) rfl⟩
          · refine CW.skip ?_
            refine CW.regionL ?_
            refine OW.cons (OP.val (v := (.int .i64 s_l1)) rfl (x_mv f71) ?_)
            refine OW.cons (OP.val (v := (.int .i64 (w64 (s_l1 + 1)))) rfl (x_add rfl rfl) ?_)
            refine OW.cons (OP.val (v := (.int .i64 (w64 (s_l1 + 1)))) rfl (x_assign) ?_)
            refine OW.nil ?_
            obtain rfl := Option.some.inj hm
            exact ⟨_, rfl, ⟨f68, f69, f70, rfl, hL⟩⟩
        · refine CW.exit ?_
          refine XJ.hit ?_
          obtain rfl := Option.some.inj hm
          exact ⟨_, rfl, ⟨f68, f69, f70, f71, hL⟩⟩

theorem M.impl_FactorHistory_ok (w0 : World) (a0 : ProgressRules) (a1 : Int) (a2 : List (List Finish)) {v1 : Value} (h2 : rdL (· < w0.heap.size) w0 v1 a2) (a3 : List Rating) {v3 : Value} (h4 : rdL (· < w0.heap.size) w0 v3 a3) (a4 : Int) {r : (List Int) × Int} (hm : M.impl_FactorHistory a0 a1 a2 a3 a4 = some r) :
    Calls Try.prog 40 #[(.agg #[(.int .i64 a0.Gain), (.int .i64 a0.Step), (.int .i64 a0.Low), (.int .i64 a0.High)]), (.int .i64 a1), v1, v3, (.int .i64 a4)] w0 fun e w' => ∃ (rv0 : Value) (rS0 : Nat → Prop), e = .returned (.tuple #[rv0, (.int .i64 r.2)]) ∧ Fresh w0 w' [Ent.own 2 rS0 rv0 r.1] := by
  unfold M.impl_FactorHistory at hm
  refine calls_CW (args := [(.agg #[(.int .i64 a0.Gain), (.int .i64 a0.Step), (.int .i64 a0.Low), (.int .i64 a0.High)]), (.int .i64 a1), v1, v3, (.int .i64 a4)]) Try.func40 rfl rfl rfl ?_
  have hL := Hp.start w0
  refine CW.seq ?_
  refine CW.regionL ?_
  refine OW.cons (S_box (cs := #[(.int .i64 a0.Gain), (.int .i64 a0.Step), (.int .i64 a0.Low), (.int .i64 a0.High)]) hL rfl rfl rfl ?_)
  intro wd5 b6 hL
  refine OW.cons (OP.val (v := (.slice none 0 0)) rfl (x_assign) ?_)
  refine OW.cons (OP.val (v := (.int .i64 0)) rfl (x_assign) ?_)
  refine OW.nil ?_
  refine CW.seq ?_
  refine CW.regionL ?_
  refine OW.cons (OP.val (v := (.agg #[(.int .i64 a0.Gain), (.int .i64 a0.Step), (.int .i64 a0.Low), (.int .i64 a0.High)])) rfl (x_loadN (cs := [(.int .i64 a0.Gain), (.int .i64 a0.Step), (.int .i64 a0.Low), (.int .i64 a0.High)]) Try.underlying46 Try_T46 rfl rfl (hL.cellsB 0 rfl (o := 0) (l := [(.int .i64 a0.Gain), (.int .i64 a0.Step), (.int .i64 a0.Low), (.int .i64 a0.High)]) (by intro j u hj; exact (by simpa using hj)))) ?_)
  refine OW.cons (OP.val (v := (.int .i64 a1)) rfl (x_move) ?_)
  refine OW.cons (OP.val (v := v1) rfl (x_move) ?_)
  refine OW.cons (OP.val (v := v3) rfl (x_move) ?_)
  obtain ⟨x7, hx8, hm⟩ := bndE hm
  refine OW.cons (OP.call rfl (x_call (vs := [(.agg #[(.int .i64 a0.Gain), (.int .i64 a0.Step), (.int .i64 a0.Low), (.int .i64 a0.High)]), (.int .i64 a1), v1, v3]) Try_C71 ⟨rfl, rfl, rfl, rfl, trivial⟩) (M.impl_progressSteps_ok _ a0 a1 a2 (hL.rdS 1 rfl h2) a3 (hL.rdS 1 rfl h4) hx8) ?_)
  rintro e11 wd12 ⟨v10, S9, rfl, hF13⟩
  refine ⟨_, rfl, ?_⟩
  have hL := hL.pushAll hF13
  simp only [lA, lB, lC, lD] at hL
  refine OW.cons (OP.val (v := (.tuple #[v10, (.int .i64 x7.2)])) rfl (x_move) ?_)
  refine OW.cons (OP.val (v := v10) rfl (x_extract rfl rfl) ?_)
  refine OW.cons (OP.val (v := (.int .i64 x7.2)) rfl (x_extract rfl rfl) ?_)
  refine OW.cons (OP.val (v := v10) rfl (x_assign) ?_)
  refine OW.cons (OP.val (v := (.int .i64 x7.2)) rfl (x_assign) ?_)
  refine OW.nil ?_
  refine CW.seq ?_
  refine CW.seq ?_
  refine CW.regionL ?_
  refine OW.cons (OP.val (v := (.int .i64 x7.2)) rfl (x_move) ?_)
  refine OW.cons (OP.val (v := (.bool (x7.2 != 0))) rfl (x_neq rfl rfl) ?_)
  refine OW.nil ?_
  refine CW.condM (t := x7.2 != 0) rfl hm (fun hb14 hm => ?_) (fun hb14 hm => ?_)
  · refine CW.seq ?_
    refine CW.regionL ?_
    refine OW.cons (OP.val (v := (.int .i64 x7.2)) rfl (x_move) ?_)
    refine OW.cons (OP.val (v := (.slice none 0 0)) rfl (x_assign) ?_)
    refine OW.cons (OP.val (v := (.int .i64 x7.2)) rfl (x_assign) ?_)
    refine OW.nil ?_
    refine CW.ret ?_
    have hL := hL.pushNil Int 2
    obtain rfl := Option.some.inj hm
    exact RR2 rfl rfl rfl ⟨(.slice none 0 0), None_, rfl, hL.fresh 3 rfl [0] (by decide) (by decide) rfl⟩
  · refine CW.skip ?_
    refine CW.seq ?_
    refine CW.seq ?_
    refine CW.regionL ?_
    refine OW.cons (OP.val (v := (.int .i64 a4)) rfl (x_move) ?_)
    refine OW.cons (OP.val (v := (.int .i64 a1)) rfl (x_move) ?_)
    refine OW.cons (OP.val (v := (.int .i64 (w64 (a1 - 1)))) rfl (x_sub rfl rfl) ?_)
    obtain ⟨x15, hx16, hm⟩ := bndE hm
    refine OW.cons (OP.call rfl (x_call (vs := [(.int .i64 a4), (.int .i64 0), (.int .i64 (w64 (a1 - 1)))]) Try_C74 ⟨rfl, rfl, rfl, trivial⟩) (M.impl_within_ok _ a4 0 (w64 (a1 - 1)) hx16) ?_)
    rintro e17 wd18 ⟨rfl, hF19⟩
    refine ⟨_, rfl, ?_⟩
    have hL := hL.pushAll hF19
    simp only [lA, lB, lC, lD] at hL
    refine OW.cons (OP.val (v := (.bool (!x15))) rfl (x_not rfl) ?_)
    refine OW.nil ?_
    refine CW.condM (t := !x15) rfl hm (fun hb20 hm => ?_) (fun hb20 hm => ?_)
    · refine CW.seq ?_
      refine CW.regionL ?_
      refine OW.cons (OP.val (v := (.slice none 0 0)) rfl (x_assign) ?_)
      refine OW.cons (OP.val (v := (.int .i64 4)) rfl (x_assign) ?_)
      refine OW.nil ?_
      refine CW.ret ?_
      have hL := hL.pushNil Int 2
      obtain rfl := Option.some.inj hm
      exact RR2 rfl rfl rfl ⟨(.slice none 0 0), None_, rfl, hL.fresh 3 rfl [0] (by decide) (by decide) rfl⟩
    · refine CW.skip ?_
      refine CW.seq ?_
      refine CW.regionL ?_
      refine OW.cons (S_lit ([] : List Int) hL Try.underlying35 Try_T2 rfl (by decide) (by first | (simp [Instr.fill, madeCells, Value.cells, ev, upd, Flat.enc, Flat.sz]; done) | rfl | kernel_rfl) rfl rfl ?_)
      intro wd21 v22 S23 hL
      refine OW.cons (OP.val (v := v22) rfl (x_assign) ?_)
      refine OW.nil ?_
      refine CW.seq ?_
      refine CW.seq ?_
      refine CW.regionL ?_
      refine OW.cons (OP.val (v := v10) rfl (x_move) ?_)
      refine OW.cons (OP.val (v := (.int .i64 (x7.1.length : Int))) rfl (x_lenR Try.underlying101 rfl (hL.rdO 1 rfl)) ?_)
      refine OW.cons (OP.val (v := (.int .i64 0)) rfl (x_move) ?_)
      refine OW.nil ?_
      obtain ⟨o86, ho87, hm⟩ := bndE hm
      refine CW.loopB (fun (s_l1 : (List Int) × Int) (F : Fr) (w : World) => ∃ (v82 : Value) (S83 : Nat → Prop), F 4 = (.int .i64 a4) ∧ F 14 = v82 ∧ F 34 = v10 ∧ F 35 = (.int .i64 (x7.1.length : Int)) ∧ F 36 = (.int .i64 s_l1.2) ∧ Hp w0 [Ent.own 2 S83 v82 s_l1.1, Ent.own 30 S9 v10 x7.1, Ent.blk b6 46 #[(.int .i64 a0.Gain), (.int .i64 a0.Step), (.int .i64 a0.Low), (.int .i64 a0.High)], Ent.snap w0 w0.heap.size] w) (fun o => outc o (fun x => some x) (fun s => M.impl_FactorHistory_a1 s) = some r) ho87 hm ⟨v22, S23, rfl, rfl, rfl, rfl, rfl, hL⟩ ?_ ?_
      · intro s_l1 F88 wd89 hJ hm
        have hm := outcE hm
        have hm : M.impl_FactorHistory_a1 s_l1 = some r := hm
        unfold M.impl_FactorHistory_a1 at hm
        obtain ⟨v82, S83, f90, f91, f92, f93, f94, hL⟩ := hJ
        refine CW.seq ?_
        refine CW.regionL ?_
        refine OW.cons (OP.val (v := v82) rfl (x_mv f91) ?_)
        refine OW.cons (OP.val (v := v82) rfl (x_assign) ?_)
        refine OW.cons (OP.val (v := (.int .i64 0)) rfl (x_assign) ?_)
        refine OW.nil ?_
        refine CW.ret ?_
        obtain rfl := Option.some.inj hm
        exact RR2 rfl rfl rfl ⟨v82, S83, rfl, hL.fresh 3 rfl [0] (by decide) (by decide) rfl⟩
      · intro s_l1 F95 wd96 t84 hJ hm hr85
        unfold M.impl_FactorHistory_l1 at hm
        obtain ⟨v82, S83, f97, f98, f99, f100, f101, hL⟩ := hJ
        refine CW.seq ?_
        refine CW.regionL ?_
        refine OW.cons (OP.val (v := (.bool (decide (s_l1.2 < (x7.1.length : Int))))) rfl (x_lss f101 f100) ?_)
        refine OW.nil ?_
        refine CW.seq ?_
        refine CW.condM (t := decide (s_l1.2 < (x7.1.length : Int))) rfl hm (fun hb102 hm => ?_) (fun hb102 hm => ?_)
        · refine CW.skip ?_
          refine CW.seq ?_
          refine CW.block ?_
          refine CW.seq ?_
          refine CW.regionL ?_
          obtain ⟨wz103, hL, ho104⟩ := hL.freeze 1 rfl
          simp only [lC, lD] at hL
          obtain ⟨x105, ha106, hm⟩ := bndE hm
          obtain ⟨hz107, ha115⟩ := idxE ha106
          obtain ⟨b108, q109, v110, hix111, hs112, hc113, hr114⟩ := rdN_at ho104.1.rdL hz107 ha115
          refine OW.cons (OP.val (v := (.pointer (some ⟨b108, q109, none⟩))) rfl (x_ix Try.underlying101 Try_T30 f99 f101 hix111) ?_)
          refine OW.cons (OP.val (v := v110) rfl (x_load1 Try.underlying30 rfl rfl (hL.cellF 1 rfl hs112 hc113)) ?_)
          refine OW.cons (OP.val (v := v110) rfl (x_assign) ?_)
          refine OW.nil ?_
          refine CW.regionL ?_
          refine OW.cons (OP.val (v := v82) rfl (x_mv f98) ?_)
          refine OW.cons (OP.val (v := v110) rfl (x_move) ?_)
          refine OW.cons (OP.val (v := (.int .i64 a4)) rfl (x_mv f97) ?_)
          obtain ⟨x116, ha117, hm⟩ := bndE hm
          obtain ⟨hz118, ha122⟩ := idxE ha117
          obtain ⟨b119, q120, hix121⟩ := rdL_ix (hL.rdF 1 rfl hr114) hz118 ha122
          refine OW.cons (OP.val (v := (.pointer (some ⟨b119, q120, none⟩))) rfl (x_ix Try.underlying30 Try_T61 rfl rfl hix121) ?_)
          refine OW.cons (OP.val (v := (.pointer (some ⟨b119, q120 + 1, none⟩))) rfl (x_fieldAddr (fsz := 1) q120 1 (q120 + 1) Try.underlying61 rfl Try_T2 rfl rfl rfl) ?_)
          refine OW.cons (OP.val (v := (.int .i64 x116.Value)) rfl (x_load1 Try.underlying2 rfl rfl (rdF_cells (hL.rdF 1 rfl hr114) hix121 ha122 1 _ rfl)) ?_)
          refine OW.cons (S_lit ([x116.Value] : List Int) hL Try.underlying35 Try_T2 rfl (by decide) (by first | (simp [Instr.fill, madeCells, Value.cells, ev, upd, Flat.enc, Flat.sz]; done) | rfl | kernel_rfl) rfl rfl ?_)
          intro wd123 v124 S125 hL
          obtain ⟨hc129, hm⟩ := chkE hm
          refine OW.cons (S_append (ys := ([x116.Value] : List Int)) hL 1 rfl Try.underlying35 Try_T2 rfl rfl rfl (hL.rdO 0 rfl) hc129 (by decide) rfl ?_)
          intro wd126 v127 S128 hL
          refine OW.cons (OP.val (v := v127) rfl (x_assign) ?_)
          refine OW.nil ?_
          refine CW.regionL ?_
          refine OW.cons (OP.val (v := (.int .i64 (w64 (s_l1.2 + 1)))) rfl (x_add f101 rfl) ?_)
          refine OW.cons (OP.val (v := (.int .i64 (w64 (s_l1.2 + 1)))) rfl (x_move) ?_)
          refine OW.nil ?_
          have hL := hL.thaw 2 rfl ho104
          have hL := hL.sel [1, 2, 3, 4] (by decide) rfl
          obtain rfl := Option.some.inj hm
          exact ⟨_, rfl, ⟨v127, S128, f97, rfl, f99, f100, rfl, hL⟩⟩
        · refine CW.exit ?_
          refine XJ.hit ?_
          obtain rfl := Option.some.inj hm
          exact ⟨_, rfl, ⟨v82, S83, f97, f98, f99, f100, f101, hL⟩⟩

theorem M.laws_szFinishSS_ok (w0 : World) (a0 : List (List Finish)) {v1 : Value} (h2 : rdL (· < w0.heap.size) w0 v1 a0) (a1 : Int) {r : Int} (hm : M.laws_szFinishSS a0 a1 = some r) :
    Calls Try.prog 42 #[v1, (.int .i64 a1)] w0 fun e w' => e = .returned (.int .i64 r) ∧ Fresh w0 w' [] := by
  unfold M.laws_szFinishSS at hm
  refine calls_CW (args := [v1, (.int .i64 a1)]) Try.func42 rfl rfl rfl ?_
  have hL := Hp.start w0
  refine CW.seq ?_
  refine CW.regionL ?_
  refine OW.cons (OP.val (v := (.int .i64 0)) rfl (x_assign) ?_)
  refine OW.nil ?_
  refine CW.seq ?_
  refine CW.regionL ?_
  refine OW.cons (OP.val (v := (.int .i64 a1)) rfl (x_move) ?_)
  refine OW.cons (OP.val (v := v1) rfl (x_move) ?_)
  refine OW.cons (OP.val (v := (.int .i64 (a0.length : Int))) rfl (x_lenR Try.underlying70 rfl (hL.rdS 0 rfl h2)) ?_)
  refine OW.cons (OP.val (v := (.int .i64 (w64 (a1 - (a0.length : Int))))) rfl (x_sub rfl rfl) ?_)
  refine OW.cons (OP.val (v := (.int .i64 (w64 (a1 - (a0.length : Int))))) rfl (x_assign) ?_)
  refine OW.nil ?_
  refine CW.seq ?_
  refine CW.seq ?_
  refine CW.regionL ?_
  refine OW.cons (OP.val (v := (.int .i64 (w64 (a1 - (a0.length : Int))))) rfl (x_move) ?_)
  refine OW.cons (OP.val (v := (.bool (decide ((w64 (a1 - (a0.length : Int))) < 0)))) rfl (x_lss rfl rfl) ?_)
  refine OW.nil ?_
  refine CW.condM (t := decide ((w64 (a1 - (a0.length : Int))) < 0)) rfl hm (fun hb3 hm => ?_) (fun hb3 hm => ?_)
  · refine CW.seq ?_
    refine CW.regionL ?_
    refine OW.cons (OP.val (v := (.int .i64 (-1))) rfl (x_assign) ?_)
    refine OW.nil ?_
    refine CW.ret ?_
    obtain rfl := Option.some.inj hm
    exact RR1 rfl rfl ⟨rfl, hL.fresh 0 rfl [] (by decide) (by decide) rfl⟩
  · refine CW.skip ?_
    refine CW.seq ?_
    refine CW.seq ?_
    refine CW.regionL ?_
    refine OW.cons (OP.val (v := (.int .i64 0)) rfl (x_assign) ?_)
    refine OW.nil ?_
    obtain ⟨o42, ho43, hm⟩ := bndE hm
    refine CW.loopB (fun (s_l1 : Int × Int) (F : Fr) (w : World) => F 0 = v1 ∧ F 1 = (.int .i64 s_l1.1) ∧ F 5 = (.int .i64 s_l1.2) ∧ Hp w0 [Ent.snap w0 w0.heap.size] w) (fun o => outc o (fun x => some x) (fun s => M.laws_szFinishSS_a1 s) = some r) ho43 hm ⟨rfl, rfl, rfl, hL⟩ ?_ ?_
    · intro s_l1 F44 wd45 hJ hm
      have hm := outcE hm
      have hm : M.laws_szFinishSS_a1 s_l1 = some r := hm
      unfold M.laws_szFinishSS_a1 at hm
      obtain ⟨f46, f47, f48, hL⟩ := hJ
      refine CW.seq ?_
      refine CW.regionL ?_
      refine OW.cons (OP.val (v := (.int .i64 s_l1.1)) rfl (x_mv f47) ?_)
      refine OW.cons (OP.val (v := (.int .i64 s_l1.1)) rfl (x_assign) ?_)
      refine OW.nil ?_
      refine CW.ret ?_
      obtain rfl := Option.some.inj hm
      exact RR1 rfl rfl ⟨rfl, hL.fresh 0 rfl [] (by decide) (by decide) rfl⟩
    · intro s_l1 F49 wd50 t40 hJ hm hr41
      unfold M.laws_szFinishSS_l1 at hm
      obtain ⟨f51, f52, f53, hL⟩ := hJ
      refine CW.seq ?_
      refine CW.seq ?_
      refine CW.regionL ?_
      refine OW.cons (OP.val (v := (.int .i64 s_l1.2)) rfl (x_mv f53) ?_)
      refine OW.cons (OP.val (v := v1) rfl (x_mv f51) ?_)
      refine OW.cons (OP.val (v := (.int .i64 (a0.length : Int))) rfl (x_lenR Try.underlying70 rfl (hL.rdS 0 rfl h2)) ?_)
      refine OW.cons (OP.val (v := (.bool (decide (s_l1.2 < (a0.length : Int))))) rfl (x_lss rfl rfl) ?_)
      refine OW.nil ?_
      refine CW.condM (t := decide (s_l1.2 < (a0.length : Int))) rfl hm (fun hb54 hm => ?_) (fun hb54 hm => ?_)
      · refine CW.skip ?_
        refine CW.seq ?_
        refine CW.block ?_
        refine CW.seq ?_
        refine CW.regionL ?_
        refine OW.cons (OP.val (v := v1) rfl (x_mv f51) ?_)
        refine OW.cons (OP.val (v := (.int .i64 s_l1.2)) rfl (x_mv f53) ?_)
        obtain ⟨x55, ha56, hm⟩ := bndE hm
        obtain ⟨hz57, ha65⟩ := idxE ha56
        obtain ⟨b58, q59, v60, hix61, hs62, hc63, hr64⟩ := rdN_at h2 hz57 ha65
        refine OW.cons (OP.val (v := (.pointer (some ⟨b58, q59, none⟩))) rfl (x_ix Try.underlying70 Try_T22 rfl rfl hix61) ?_)
        refine OW.cons (OP.val (v := v60) rfl (x_load1 Try.underlying22 rfl rfl (hL.cellS 0 rfl hs62 hc63)) ?_)
        refine OW.cons (OP.val (v := (.int .i64 s_l1.1)) rfl (x_mv f52) ?_)
        obtain ⟨x66, hx67, hm⟩ := bndE hm
        refine OW.cons (OP.call rfl (x_call (vs := [v60, (.int .i64 s_l1.1)]) Try_C11 ⟨rfl, rfl, trivial⟩) (M.laws_szFinishS_ok _ x55 (hL.rdS 0 rfl hr64) s_l1.1 hx67) ?_)
        rintro e68 wd69 ⟨rfl, hF70⟩
        refine ⟨_, rfl, ?_⟩
        have hL := hL.pushAll hF70
        simp only [lA, lB, lC, lD] at hL
        refine OW.cons (OP.val (v := (.int .i64 x66)) rfl (x_assign) ?_)
        refine OW.nil ?_
        refine CW.seq ?_
        refine CW.regionL ?_
        refine OW.cons (OP.val (v := (.int .i64 x66)) rfl (x_move) ?_)
        refine OW.cons (OP.val (v := (.bool (decide (x66 < 0)))) rfl (x_lss rfl rfl) ?_)
        refine OW.nil ?_
        refine CW.condM (t := decide (x66 < 0)) rfl hm (fun hb71 hm => ?_) (fun hb71 hm => ?_)
        · refine CW.seq ?_
          refine CW.regionL ?_
          refine OW.cons (OP.val (v := (.int .i64 (-1))) rfl (x_assign) ?_)
          refine OW.nil ?_
          refine CW.ret ?_
          obtain rfl := Option.some.inj hm
          have hm := hr41 _ rfl
          obtain rfl := Option.some.inj hm
          exact RR1 rfl rfl ⟨rfl, hL.fresh 0 rfl [] (by decide) (by decide) rfl⟩
        · refine CW.skip ?_
          refine CW.regionL ?_
          refine OW.cons (OP.val (v := (.int .i64 s_l1.2)) rfl (x_mv f53) ?_)
          refine OW.cons (OP.val (v := (.int .i64 (w64 (s_l1.2 + 1)))) rfl (x_add rfl rfl) ?_)
          refine OW.cons (OP.val (v := (.int .i64 (w64 (s_l1.2 + 1)))) rfl (x_assign) ?_)
          refine OW.nil ?_
          obtain rfl := Option.some.inj hm
          exact ⟨_, rfl, ⟨f51, rfl, rfl, hL⟩⟩
      · refine CW.exit ?_
        refine XJ.hit ?_
        obtain rfl := Option.some.inj hm
        exact ⟨_, rfl, ⟨f51, f52, f53, hL⟩⟩

theorem M.laws_toFinishSS_ok (w0 : World) (a0 : List (List Finish)) {v1 : Value} (h2 : rdL (· < w0.heap.size) w0 v1 a0) {r : (List (List Finish))} (hm : M.laws_toFinishSS a0 = some r) :
    Calls Try.prog 43 #[v1] w0 fun e w' => ∃ (rv0 : Value) (rS0 : Nat → Prop), e = .returned rv0 ∧ Fresh w0 w' [Ent.own 28 rS0 rv0 r] := by
  unfold M.laws_toFinishSS at hm
  refine calls_CW (args := [v1]) Try.func43 rfl rfl rfl ?_
  have hL := Hp.start w0
  refine CW.seq ?_
  refine CW.regionL ?_
  refine OW.cons (OP.val (v := (.slice none 0 0)) rfl (x_assign) ?_)
  refine OW.nil ?_
  refine CW.seq ?_
  refine CW.regionL ?_
  refine OW.cons (OP.val (v := v1) rfl (x_move) ?_)
  refine OW.cons (OP.val (v := (.int .i64 (a0.length : Int))) rfl (x_lenR Try.underlying70 rfl (hL.rdS 0 rfl h2)) ?_)
  obtain ⟨hc6, hm⟩ := chkE hm
  refine OW.cons (S_makeN (α := Finish) (β := List Finish) ([] : List Finish) rfl hL Try.underlying63 Try_T28 rfl rfl rfl hc6 (by decide) rfl ?_)
  intro wd3 v4 S5 hL
  refine OW.cons (OP.val (v := v4) rfl (x_assign) ?_)
  refine OW.nil ?_
  refine CW.seq ?_
  refine CW.seq ?_
  refine CW.regionL ?_
  refine OW.cons (OP.val (v := (.int .i64 0)) rfl (x_assign) ?_)
  refine OW.nil ?_
  obtain ⟨o79, ho80, hm⟩ := bndE hm
  refine CW.loopB (fun (s_l1 : (List (List Finish)) × Int) (F : Fr) (w : World) => ∃ (S76 : Nat → Prop), F 0 = v1 ∧ F 3 = v4 ∧ F 4 = (.int .i64 s_l1.2) ∧ Hp w0 [Ent.own 28 S76 v4 s_l1.1, Ent.snap w0 w0.heap.size] w) (fun o => outc o (fun x => some x) (fun s => M.laws_toFinishSS_a1 s) = some r) ho80 hm ⟨S5, rfl, rfl, rfl, hL⟩ ?_ ?_
  · intro s_l1 F81 wd82 hJ hm
    have hm := outcE hm
    have hm : M.laws_toFinishSS_a1 s_l1 = some r := hm
    unfold M.laws_toFinishSS_a1 at hm
    obtain ⟨S76, f83, f84, f85, hL⟩ := hJ
    refine CW.seq ?_
    refine CW.regionL ?_
    refine OW.cons (OP.val (v := v4) rfl (x_mv f84) ?_)
    refine OW.cons (OP.val (v := v4) rfl (x_assign) ?_)
    refine OW.nil ?_
    refine CW.ret ?_
    obtain rfl := Option.some.inj hm
    exact RR1 rfl rfl ⟨v4, S76, rfl, hL.fresh 1 rfl [0] (by decide) (by decide) rfl⟩
  · intro s_l1 F86 wd87 t77 hJ hm hr78
    unfold M.laws_toFinishSS_l1 at hm
    obtain ⟨S76, f88, f89, f90, hL⟩ := hJ
    refine CW.seq ?_
    refine CW.seq ?_
    refine CW.regionL ?_
    refine OW.cons (OP.val (v := (.int .i64 s_l1.2)) rfl (x_mv f90) ?_)
    refine OW.cons (OP.val (v := v1) rfl (x_mv f88) ?_)
    refine OW.cons (OP.val (v := (.int .i64 (a0.length : Int))) rfl (x_lenR Try.underlying70 rfl (hL.rdS 1 rfl h2)) ?_)
    refine OW.cons (OP.val (v := (.bool (decide (s_l1.2 < (a0.length : Int))))) rfl (x_lss rfl rfl) ?_)
    refine OW.nil ?_
    refine CW.condM (t := decide (s_l1.2 < (a0.length : Int))) rfl hm (fun hb91 hm => ?_) (fun hb91 hm => ?_)
    · refine CW.skip ?_
      refine CW.seq ?_
      refine CW.block ?_
      refine CW.regionL ?_
      refine OW.cons (OP.val (v := v4) rfl (x_mv f89) ?_)
      refine OW.cons (OP.val (v := (.int .i64 s_l1.2)) rfl (x_mv f90) ?_)
      refine OW.cons (OP.val (v := v1) rfl (x_mv f88) ?_)
      refine OW.cons (OP.val (v := (.int .i64 s_l1.2)) rfl (x_mv f90) ?_)
      obtain ⟨x92, ha93, hm⟩ := bndE hm
      obtain ⟨hz94, ha102⟩ := idxE ha93
      obtain ⟨b95, q96, v97, hix98, hs99, hc100, hr101⟩ := rdN_at h2 hz94 ha102
      refine OW.cons (OP.val (v := (.pointer (some ⟨b95, q96, none⟩))) rfl (x_ix Try.underlying70 Try_T22 rfl rfl hix98) ?_)
      refine OW.cons (OP.val (v := v97) rfl (x_load1 Try.underlying22 rfl rfl (hL.cellS 1 rfl hs99 hc100)) ?_)
      obtain ⟨x103, hx104, hm⟩ := bndE hm
      refine OW.cons (OP.call rfl (x_call (vs := [v97]) Try_C14 ⟨rfl, trivial⟩) (M.laws_toFinishS_ok _ x92 (hL.rdS 1 rfl hr101) hx104) ?_)
      rintro e107 wd108 ⟨v106, S105, rfl, hF109⟩
      refine ⟨_, rfl, ?_⟩
      have hL := hL.pushAll hF109
      simp only [lA, lB, lC, lD] at hL
      obtain ⟨wz110, hL, ho111⟩ := hL.freeze 1 rfl
      simp only [lC, lD] at hL
      obtain ⟨x112, ha113, hm⟩ := bndE hm
      obtain ⟨hz114, ha122⟩ := idxE ha113
      obtain ⟨b115, q116, v117, hix118, hs119, hc120, hr121⟩ := rdN_at ho111.1.rdL hz114 ha122
      refine OW.cons (OP.val (v := (.pointer (some ⟨b115, q116, none⟩))) rfl (x_ix Try.underlying63 Try_T28 rfl rfl hix118) ?_)
      have hL := hL.thaw 1 rfl ho111
      have hL := hL.sel [1, 0, 2] (by decide) rfl
      refine OW.cons (S_storeR x103 rfl hL Try_T28 hix118 ha122 rfl rfl ?_)
      intro wd123 S124 hL
      refine OW.nil ?_
      refine CW.regionL ?_
      refine OW.cons (OP.val (v := (.int .i64 s_l1.2)) rfl (x_mv f90) ?_)
      refine OW.cons (OP.val (v := (.int .i64 (w64 (s_l1.2 + 1)))) rfl (x_add rfl rfl) ?_)
      refine OW.cons (OP.val (v := (.int .i64 (w64 (s_l1.2 + 1)))) rfl (x_assign) ?_)
      refine OW.nil ?_
      obtain rfl := Option.some.inj hm
      exact ⟨_, rfl, ⟨S124, f88, f89, rfl, hL⟩⟩
    · refine CW.exit ?_
      refine XJ.hit ?_
      obtain rfl := Option.some.inj hm
      exact ⟨_, rfl, ⟨S76, f88, f89, f90, hL⟩⟩

theorem M.laws_eqFinishSS_ok (w0 : World) (a0 : List (List Finish)) {v1 : Value} (h2 : rdL (· < w0.heap.size) w0 v1 a0) (a1 : List (List Finish)) {v3 : Value} (h4 : rdL (· < w0.heap.size) w0 v3 a1) {r : Bool} (hm : M.laws_eqFinishSS a0 a1 = some r) :
    Calls Try.prog 44 #[v1, v3] w0 fun e w' => e = .returned (.bool r) ∧ Fresh w0 w' [] := by
  unfold M.laws_eqFinishSS at hm
  refine calls_CW (args := [v1, v3]) Try.func44 rfl rfl rfl ?_
  have hL := Hp.start w0
  refine CW.seq ?_
  refine CW.regionL ?_
  refine OW.cons (OP.val (v := (.bool false)) rfl (x_assign) ?_)
  refine OW.nil ?_
  refine CW.seq ?_
  refine CW.seq ?_
  refine CW.regionL ?_
  refine OW.cons (OP.val (v := v1) rfl (x_move) ?_)
  refine OW.cons (OP.val (v := (.int .i64 (a0.length : Int))) rfl (x_lenR Try.underlying63 rfl (hL.rdS 0 rfl h2)) ?_)
  refine OW.cons (OP.val (v := v3) rfl (x_move) ?_)
  refine OW.cons (OP.val (v := (.int .i64 (a1.length : Int))) rfl (x_lenR Try.underlying63 rfl (hL.rdS 0 rfl h4)) ?_)
  refine OW.cons (OP.val (v := (.bool ((a0.length : Int) != (a1.length : Int)))) rfl (x_neq rfl rfl) ?_)
  refine OW.nil ?_
  refine CW.condM (t := (a0.length : Int) != (a1.length : Int)) rfl hm (fun hb5 hm => ?_) (fun hb5 hm => ?_)
  · refine CW.seq ?_
    refine CW.regionL ?_
    refine OW.cons (OP.val (v := (.bool false)) rfl (x_assign) ?_)
    refine OW.nil ?_
    refine CW.ret ?_
    obtain rfl := Option.some.inj hm
    exact RR1 rfl rfl ⟨rfl, hL.fresh 0 rfl [] (by decide) (by decide) rfl⟩
  · refine CW.skip ?_
    refine CW.seq ?_
    refine CW.seq ?_
    refine CW.regionL ?_
    refine OW.cons (OP.val (v := (.int .i64 0)) rfl (x_assign) ?_)
    refine OW.nil ?_
    obtain ⟨o62, ho63, hm⟩ := bndE hm
    refine CW.loopB (fun (s_l1 : Int) (F : Fr) (w : World) => F 0 = v1 ∧ F 1 = v3 ∧ F 5 = (.int .i64 s_l1) ∧ Hp w0 [Ent.snap w0 w0.heap.size] w) (fun o => outc o (fun x => some x) (fun s => M.laws_eqFinishSS_a1 s) = some r) ho63 hm ⟨rfl, rfl, rfl, hL⟩ ?_ ?_
    · intro s_l1 F64 wd65 hJ hm
      have hm := outcE hm
      have hm : M.laws_eqFinishSS_a1 s_l1 = some r := hm
      unfold M.laws_eqFinishSS_a1 at hm
      obtain ⟨f66, f67, f68, hL⟩ := hJ
      refine CW.seq ?_
      refine CW.regionL ?_
      refine OW.cons (OP.val (v := (.bool true)) rfl (x_assign) ?_)
      refine OW.nil ?_
      refine CW.ret ?_
      obtain rfl := Option.some.inj hm
      exact RR1 rfl rfl ⟨rfl, hL.fresh 0 rfl [] (by decide) (by decide) rfl⟩
    · intro s_l1 F69 wd70 t60 hJ hm hr61
      unfold M.laws_eqFinishSS_l1 at hm
      obtain ⟨f71, f72, f73, hL⟩ := hJ
      refine CW.seq ?_
      refine CW.seq ?_
      refine CW.regionL ?_
      refine OW.cons (OP.val (v := (.int .i64 s_l1)) rfl (x_mv f73) ?_)
      refine OW.cons (OP.val (v := v1) rfl (x_mv f71) ?_)
      refine OW.cons (OP.val (v := (.int .i64 (a0.length : Int))) rfl (x_lenR Try.underlying63 rfl (hL.rdS 0 rfl h2)) ?_)
      refine OW.cons (OP.val (v := (.bool (decide (s_l1 < (a0.length : Int))))) rfl (x_lss rfl rfl) ?_)
      refine OW.nil ?_
      refine CW.condM (t := decide (s_l1 < (a0.length : Int))) rfl hm (fun hb74 hm => ?_) (fun hb74 hm => ?_)
      · refine CW.skip ?_
        refine CW.seq ?_
        refine CW.block ?_
        refine CW.seq ?_
        refine CW.draw Try_mixed ?_
        have hL := hL.call (Mod.drew _)
        refine DW.pre (fuel := 0) (fin := (((((((((((Array.replicate 10 false).setIfInBounds 0 true).setIfInBounds 1 true).setIfInBounds 2 true).setIfInBounds 3 true).setIfInBounds 4 true).setIfInBounds 5 true).setIfInBounds 6 true).setIfInBounds 7 true).setIfInBounds 8 true).setIfInBounds 9 true)) (C := fun w' => Mod None_ _ w') [0, 1, 2, 3, 4, 5, 6, 7, 8, 9] (Mod.refl _ _) (by kernel_rfl) (by kernel_rfl) ?_
        refine QW.cons rfl (QP.val (v := v1) rfl (fun w' hm' => x_mv f71) ?_)
        refine QW.cons rfl (QP.val (v := (.int .i64 s_l1)) rfl (fun w' hm' => x_mv f73) ?_)
        obtain ⟨x75, ha76, hm⟩ := bndE hm
        obtain ⟨hz77, ha85⟩ := idxE ha76
        obtain ⟨b78, q79, v80, hix81, hs82, hc83, hr84⟩ := rdN_at h2 hz77 ha85
        refine QW.cons rfl (QP.val (v := (.pointer (some ⟨b78, q79, none⟩))) rfl (fun w' hm' => x_ix Try.underlying63 Try_T28 rfl rfl hix81) ?_)
        refine QW.cons rfl (QP.val (v := v80) rfl (fun w' hm' => x_load1 Try.underlying28 rfl rfl ((hL.call hm').cellS 0 rfl hs82 hc83)) ?_)
        refine QW.cons rfl (QP.val (v := v3) rfl (fun w' hm' => x_mv f72) ?_)
        refine QW.cons rfl (QP.val (v := (.int .i64 s_l1)) rfl (fun w' hm' => x_mv f73) ?_)
        obtain ⟨x86, ha87, hm⟩ := bndE hm
        obtain ⟨hz88, ha96⟩ := idxE ha87
        obtain ⟨b89, q90, v91, hix92, hs93, hc94, hr95⟩ := rdN_at h4 hz88 ha96
        refine QW.cons rfl (QP.val (v := (.pointer (some ⟨b89, q90, none⟩))) rfl (fun w' hm' => x_ix Try.underlying63 Try_T28 rfl rfl hix92) ?_)
        refine QW.cons rfl (QP.val (v := v91) rfl (fun w' hm' => x_load1 Try.underlying28 rfl rfl ((hL.call hm').cellS 0 rfl hs93 hc94)) ?_)
        obtain ⟨x97, hx98, hm⟩ := bndE hm
        refine QW.cons rfl (QP.call (v := (.bool x97)) rfl (fun w' hm' => x_call (vs := [v80, v91]) Try_C17 ⟨rfl, rfl, trivial⟩) (fun w' hm' => (M.laws_eqFinishS_ok w' x75 ((hL.call hm').rdS 0 rfl hr84) x86 ((hL.call hm').rdS 0 rfl hr95) hx98).mono (fun e w'' h => ⟨h.1, hm'.trans h.2.mod⟩)) ?_)
        refine QW.cons rfl (QP.val (v := (.bool (!x97))) rfl (fun w' hm' => x_not rfl) ?_)
        refine QW.nil ?_
        intro wd99 hmod
        have hL := hL.call hmod
        refine DW.done (by kernel_rfl) ?_
        refine CW.condM (t := !x97) rfl hm (fun hb100 hm => ?_) (fun hb100 hm => ?_)
        · refine CW.seq ?_
          refine CW.regionL ?_
          refine OW.cons (OP.val (v := (.bool false)) rfl (x_assign) ?_)
          refine OW.nil ?_
          refine CW.ret ?_
          obtain rfl := Option.some.inj hm
          have hm := hr61 _ rfl
          obtain rfl := Option.some.inj hm
          exact RR1 rfl rfl ⟨rfl, hL.fresh 0 rfl [] (by decide) (by decide) rfl⟩
        · refine CW.skip ?_
          refine CW.regionL ?_
          refine OW.cons (OP.val (v := (.int .i64 s_l1)) rfl (x_mv f73) ?_)
          refine OW.cons (OP.val (v := (.int .i64 (w64 (s_l1 + 1)))) rfl (x_add rfl rfl) ?_)
          refine OW.cons (OP.val (v := (.int .i64 (w64 (s_l1 + 1)))) rfl (x_assign) ?_)
          refine OW.nil ?_
          obtain rfl := Option.some.inj hm
          exact ⟨_, rfl, ⟨f71, f72, rfl, hL⟩⟩
      · refine CW.exit ?_
        refine XJ.hit ?_
        obtain rfl := Option.some.inj hm
        exact ⟨_, rfl, ⟨f71, f72, f73, hL⟩⟩

theorem M.laws_markFinishSS_ok (w0 : World) {E4 : TypeId} {S2 : Nat → Prop} {v1 : Value} (a0 : List (List Finish)) (he3 : (Ent.own E4 S2 v1 a0).H w0) (a1 : Int) {r : (Int) × (List (List Finish))} (hm : M.laws_markFinishSS a0 a1 = some r) :
    Calls Try.prog 45 #[v1, (.int .i64 a1)] w0 fun e w' => ∃ (ioS : Nat → Prop), e = .returned (.int .i64 r.1) ∧ Mut w0 w' (Ent.own E4 S2 v1 a0).S [Ent.own E4 ioS v1 r.2] := by
  unfold M.laws_markFinishSS at hm
  refine calls_CW (args := [v1, (.int .i64 a1)]) Try.func45 rfl rfl rfl ?_
  have hL := Hp.startIO he3
  refine CW.seq ?_
  refine CW.regionL ?_
  refine OW.cons (OP.val (v := (.int .i64 0)) rfl (x_assign) ?_)
  refine OW.nil ?_
  refine CW.seq ?_
  refine CW.seq ?_
  refine CW.regionL ?_
  refine OW.cons (OP.val (v := (.int .i64 0)) rfl (x_assign) ?_)
  refine OW.nil ?_
  obtain ⟨o61, ho62, hm⟩ := bndE hm
  refine CW.loopB (fun (s_l1 : (List (List Finish)) × Int × Int) (F : Fr) (w : World) => ∃ (S58 : Nat → Prop), F 0 = v1 ∧ F 1 = (.int .i64 s_l1.2.1) ∧ F 5 = (.int .i64 s_l1.2.2) ∧ Hp w0 [Ent.own E4 S58 v1 s_l1.1, Ent.frz w0 (Ent.own E4 S2 v1 a0).S] w) (fun o => outc o (fun x => some x) (fun s => M.laws_markFinishSS_a1 s) = some r) ho62 hm ⟨S2, rfl, rfl, rfl, hL⟩ ?_ ?_
  · intro s_l1 F63 wd64 hJ hm
    have hm := outcE hm
    have hm : M.laws_markFinishSS_a1 s_l1 = some r := hm
    unfold M.laws_markFinishSS_a1 at hm
    obtain ⟨S58, f65, f66, f67, hL⟩ := hJ
    refine CW.seq ?_
    refine CW.regionL ?_
    refine OW.cons (OP.val (v := (.int .i64 s_l1.2.1)) rfl (x_mv f66) ?_)
    refine OW.cons (OP.val (v := (.int .i64 s_l1.2.1)) rfl (x_assign) ?_)
    refine OW.nil ?_
    refine CW.ret ?_
    obtain rfl := Option.some.inj hm
    exact RR1 rfl rfl ⟨S58, rfl, hL.mutOut 1 rfl [0] (by decide) (by decide) rfl⟩
  · intro s_l1 F68 wd69 t59 hJ hm hr60
    unfold M.laws_markFinishSS_l1 at hm
    obtain ⟨S58, f70, f71, f72, hL⟩ := hJ
    refine CW.seq ?_
    refine CW.seq ?_
    refine CW.regionL ?_
    refine OW.cons (OP.val (v := (.int .i64 s_l1.2.2)) rfl (x_mv f72) ?_)
    refine OW.cons (OP.val (v := v1) rfl (x_mv f70) ?_)
    refine OW.cons (OP.val (v := (.int .i64 (s_l1.1.length : Int))) rfl (x_lenR Try.underlying63 rfl (hL.rdO 0 rfl)) ?_)
    refine OW.cons (OP.val (v := (.bool (decide (s_l1.2.2 < (s_l1.1.length : Int))))) rfl (x_lss rfl rfl) ?_)
    refine OW.nil ?_
    refine CW.condM (t := decide (s_l1.2.2 < (s_l1.1.length : Int))) rfl hm (fun hb73 hm => ?_) (fun hb73 hm => ?_)
    · refine CW.skip ?_
      refine CW.seq ?_
      refine CW.block ?_
      refine CW.regionL ?_
      refine OW.cons (OP.val (v := v1) rfl (x_mv f70) ?_)
      refine OW.cons (OP.val (v := (.int .i64 s_l1.2.2)) rfl (x_mv f72) ?_)
      obtain ⟨wz74, hL, ho75⟩ := hL.freeze 0 rfl
      simp only [lC, lD] at hL
      obtain ⟨x76, ha77, hm⟩ := bndE hm
      obtain ⟨hz78, ha86⟩ := idxE ha77
      obtain ⟨b79, q80, v81, hix82, hs83, hc84, hr85⟩ := rdN_at ho75.1.rdL hz78 ha86
      refine OW.cons (OP.val (v := (.pointer (some ⟨b79, q80, none⟩))) rfl (x_ix Try.underlying63 Try_T28 rfl rfl hix82) ?_)
      refine OW.cons (OP.val (v := v81) rfl (x_load1 Try.underlying28 rfl rfl (hL.cellF 0 rfl hs83 hc84)) ?_)
      refine OW.cons (OP.val (v := (.int .i64 s_l1.2.1)) rfl (x_mv f71) ?_)
      have hc87 := hL.cellF 0 rfl hs83 hc84
      have hL := hL.thaw 0 rfl ho75
      simp only [lC, lD] at hL
      obtain ⟨E88, S89, hp90, hb91⟩ := hL.partR (α := Finish) 0 rfl hix82 ha86 hc87
      obtain ⟨x92, hx93, hm⟩ := bndE hm
      refine OW.cons (OP.call rfl (x_call (vs := [v81, (.int .i64 s_l1.2.1)]) Try_C22 ⟨rfl, rfl, trivial⟩) (M.laws_markFinishS_ok _ x76 hp90 s_l1.2.1 hx93) ?_)
      rintro e94 wd95 ⟨S97, rfl, hF96⟩
      refine ⟨_, rfl, ?_⟩
      obtain ⟨S98, hL⟩ := hb91 _ _ _ _ x92.2 hF96 rfl
      simp only [lB, lC, lD] at hL
      refine OW.cons (OP.val (v := (.int .i64 x92.1)) rfl (x_assign) ?_)
      refine OW.nil ?_
      refine CW.regionL ?_
      refine OW.cons (OP.val (v := (.int .i64 s_l1.2.2)) rfl (x_mv f72) ?_)
      refine OW.cons (OP.val (v := (.int .i64 (w64 (s_l1.2.2 + 1)))) rfl (x_add rfl rfl) ?_)
      refine OW.cons (OP.val (v := (.int .i64 (w64 (s_l1.2.2 + 1)))) rfl (x_assign) ?_)
      refine OW.nil ?_
      obtain rfl := Option.some.inj hm
      exact ⟨_, rfl, ⟨S98, f70, rfl, rfl, hL⟩⟩
    · refine CW.exit ?_
      refine XJ.hit ?_
      obtain rfl := Option.some.inj hm
      exact ⟨_, rfl, ⟨S58, f70, f71, f72, hL⟩⟩

theorem M.spec_FactorHistory_ok (w0 : World) (a0 : ProgressRules) (a1 : Int) (a2 : List (List Finish)) {v1 : Value} (h2 : rdL (· < w0.heap.size) w0 v1 a2) (a3 : List Rating) {v3 : Value} (h4 : rdL (· < w0.heap.size) w0 v3 a3) (a4 : Int) {r : (List Int) × Int} (hm : M.spec_FactorHistory a0 a1 a2 a3 a4 = some r) :
    Calls Try.prog 46 #[(.agg #[(.int .i64 a0.Gain), (.int .i64 a0.Step), (.int .i64 a0.Low), (.int .i64 a0.High)]), (.int .i64 a1), v1, v3, (.int .i64 a4)] w0 fun e w' => ∃ (rv0 : Value) (rS0 : Nat → Prop), e = .returned (.tuple #[rv0, (.int .i64 r.2)]) ∧ Fresh w0 w' [Ent.own 2 rS0 rv0 r.1] := by
  unfold M.spec_FactorHistory at hm
  refine calls_CW (args := [(.agg #[(.int .i64 a0.Gain), (.int .i64 a0.Step), (.int .i64 a0.Low), (.int .i64 a0.High)]), (.int .i64 a1), v1, v3, (.int .i64 a4)]) Try.func46 rfl rfl rfl ?_
  have hL := Hp.start w0
  refine CW.seq ?_
  refine CW.regionL ?_
  refine OW.cons (S_box (cs := #[(.int .i64 a0.Gain), (.int .i64 a0.Step), (.int .i64 a0.Low), (.int .i64 a0.High)]) hL rfl rfl rfl ?_)
  intro wd5 b6 hL
  refine OW.cons (OP.val (v := (.slice none 0 0)) rfl (x_assign) ?_)
  refine OW.cons (OP.val (v := (.int .i64 0)) rfl (x_assign) ?_)
  refine OW.nil ?_
  refine CW.seq ?_
  refine CW.regionL ?_
  refine OW.cons (OP.val (v := (.agg #[(.int .i64 a0.Gain), (.int .i64 a0.Step), (.int .i64 a0.Low), (.int .i64 a0.High)])) rfl (x_loadN (cs := [(.int .i64 a0.Gain), (.int .i64 a0.Step), (.int .i64 a0.Low), (.int .i64 a0.High)]) Try.underlying46 Try_T46 rfl rfl (hL.cellsB 0 rfl (o := 0) (l := [(.int .i64 a0.Gain), (.int .i64 a0.Step), (.int .i64 a0.Low), (.int .i64 a0.High)]) (by intro j u hj; exact (by simpa using hj)))) ?_)
  refine OW.cons (OP.val (v := (.int .i64 a1)) rfl (x_move) ?_)
  refine OW.cons (OP.val (v := v1) rfl (x_move) ?_)
  refine OW.cons (OP.val (v := v3) rfl (x_move) ?_)
  obtain ⟨x7, hx8, hm⟩ := bndE hm
  refine OW.cons (OP.call rfl (x_call (vs := [(.agg #[(.int .i64 a0.Gain), (.int .i64 a0.Step), (.int .i64 a0.Low), (.int .i64 a0.High)]), (.int .i64 a1), v1, v3]) Try_C72 ⟨rfl, rfl, rfl, rfl, trivial⟩) (M.spec_l25Code_ok _ a0 a1 a2 (hL.rdS 1 rfl h2) a3 (hL.rdS 1 rfl h4) hx8) ?_)
  rintro e9 wd10 ⟨rfl, hF11⟩
  refine ⟨_, rfl, ?_⟩
  have hL := hL.pushAll hF11
  simp only [lA, lB, lC, lD] at hL
  refine OW.cons (OP.val (v := (.int .i64 x7)) rfl (x_assign) ?_)
  refine OW.nil ?_
  refine CW.seq ?_
  refine CW.seq ?_
  refine CW.regionL ?_
  refine OW.cons (OP.val (v := (.int .i64 x7)) rfl (x_move) ?_)
  refine OW.cons (OP.val (v := (.bool (x7 != 0))) rfl (x_neq rfl rfl) ?_)
  refine OW.nil ?_
  refine CW.condM (t := x7 != 0) rfl hm (fun hb12 hm => ?_) (fun hb12 hm => ?_)
  · refine CW.seq ?_
    refine CW.regionL ?_
    refine OW.cons (OP.val (v := (.int .i64 x7)) rfl (x_move) ?_)
    refine OW.cons (OP.val (v := (.slice none 0 0)) rfl (x_assign) ?_)
    refine OW.cons (OP.val (v := (.int .i64 x7)) rfl (x_assign) ?_)
    refine OW.nil ?_
    refine CW.ret ?_
    have hL := hL.pushNil Int 2
    obtain rfl := Option.some.inj hm
    exact RR2 rfl rfl rfl ⟨(.slice none 0 0), None_, rfl, hL.fresh 2 rfl [0] (by decide) (by decide) rfl⟩
  · refine CW.skip ?_
    refine CW.seq ?_
    refine CW.seq ?_
    refine CW.regionL ?_
    refine OW.cons (OP.val (v := (.int .i64 a4)) rfl (x_move) ?_)
    refine OW.cons (OP.val (v := (.int .i64 a1)) rfl (x_move) ?_)
    refine OW.cons (OP.val (v := (.int .i64 (w64 (a1 - 1)))) rfl (x_sub rfl rfl) ?_)
    obtain ⟨x13, hx14, hm⟩ := bndE hm
    refine OW.cons (OP.call rfl (x_call (vs := [(.int .i64 a4), (.int .i64 0), (.int .i64 (w64 (a1 - 1)))]) Try_C75 ⟨rfl, rfl, rfl, trivial⟩) (M.spec_l01In_ok _ a4 0 (w64 (a1 - 1)) hx14) ?_)
    rintro e15 wd16 ⟨rfl, hF17⟩
    refine ⟨_, rfl, ?_⟩
    have hL := hL.pushAll hF17
    simp only [lA, lB, lC, lD] at hL
    refine OW.cons (OP.val (v := (.bool (!x13))) rfl (x_not rfl) ?_)
    refine OW.nil ?_
    refine CW.condM (t := !x13) rfl hm (fun hb18 hm => ?_) (fun hb18 hm => ?_)
    · refine CW.seq ?_
      refine CW.regionL ?_
      refine OW.cons (OP.val (v := (.slice none 0 0)) rfl (x_assign) ?_)
      refine OW.cons (OP.val (v := (.int .i64 4)) rfl (x_assign) ?_)
      refine OW.nil ?_
      refine CW.ret ?_
      have hL := hL.pushNil Int 2
      obtain rfl := Option.some.inj hm
      exact RR2 rfl rfl rfl ⟨(.slice none 0 0), None_, rfl, hL.fresh 2 rfl [0] (by decide) (by decide) rfl⟩
    · refine CW.skip ?_
      refine CW.seq ?_
      refine CW.regionL ?_
      refine OW.cons (OP.val (v := v3) rfl (x_move) ?_)
      refine OW.cons (OP.val (v := v3) rfl (x_assign) ?_)
      refine OW.nil ?_
      refine CW.seq ?_
      refine CW.regionL ?_
      refine OW.cons (OP.val (v := v3) rfl (x_move) ?_)
      refine OW.cons (OP.val (v := (.int .i64 a4)) rfl (x_move) ?_)
      obtain ⟨x19, ha20, hm⟩ := bndE hm
      obtain ⟨hz21, ha25⟩ := idxE ha20
      obtain ⟨b22, q23, hix24⟩ := rdL_ix (hL.rdS 1 rfl h4) hz21 ha25
      refine OW.cons (OP.val (v := (.pointer (some ⟨b22, q23, none⟩))) rfl (x_ix Try.underlying30 Try_T61 rfl rfl hix24) ?_)
      refine OW.cons (OP.val (v := (.pointer (some ⟨b22, q23 + 1, none⟩))) rfl (x_fieldAddr (fsz := 1) q23 1 (q23 + 1) Try.underlying61 rfl Try_T2 rfl rfl rfl) ?_)
      refine OW.cons (OP.val (v := (.int .i64 x19.Value)) rfl (x_load1 Try.underlying2 rfl rfl (rdF_cells (hL.rdS 1 rfl h4) hix24 ha25 1 _ rfl)) ?_)
      refine OW.cons (S_lit ([x19.Value] : List Int) hL Try.underlying35 Try_T2 rfl (by decide) (by first | (simp [Instr.fill, madeCells, Value.cells, ev, upd, Flat.enc, Flat.sz]; done) | rfl | kernel_rfl) rfl rfl ?_)
      intro wd26 v27 S28 hL
      refine OW.cons (OP.val (v := v27) rfl (x_assign) ?_)
      refine OW.nil ?_
      refine CW.seq ?_
      refine CW.seq ?_
      refine CW.regionL ?_
      refine OW.cons (OP.val (v := (.int .i64 0)) rfl (x_assign) ?_)
      refine OW.nil ?_
      obtain ⟨o141, ho142, hm⟩ := bndE hm
      have hL := hL.ronIn1 v3 a3 61
      refine CW.loopB (fun (s_l1 : (List Rating) × (List Int) × Int) (F : Fr) (w : World) => ∃ (v135 : Value) (S136 : Nat → Prop) (v137 : Value) (S138 : Nat → Prop), F 2 = v1 ∧ F 4 = (.int .i64 a4) ∧ F 5 = (.pointer (some ⟨b6, 0, none⟩)) ∧ F 13 = v135 ∧ F 14 = v137 ∧ F 15 = (.int .i64 s_l1.2.2) ∧ Hp w0 [Ent.ron v3 a3 61 S136 v135 s_l1.1, Ent.own 2 S138 v137 s_l1.2.1, Ent.blk b6 46 #[(.int .i64 a0.Gain), (.int .i64 a0.Step), (.int .i64 a0.Low), (.int .i64 a0.High)], Ent.snap w0 w0.heap.size] w) (fun o => outc o (fun x => some x) (fun s => M.spec_FactorHistory_a1 s) = some r) ho142 hm ⟨v3, None_, v27, S28, rfl, rfl, rfl, rfl, rfl, rfl, hL⟩ ?_ ?_
      · intro s_l1 F143 wd144 hJ hm
        have hm := outcE hm
        have hm : M.spec_FactorHistory_a1 s_l1 = some r := hm
        unfold M.spec_FactorHistory_a1 at hm
        obtain ⟨v135, S136, v137, S138, f145, f146, f147, f148, f149, f150, hL⟩ := hJ
        refine CW.seq ?_
        refine CW.regionL ?_
        refine OW.cons (OP.val (v := v137) rfl (x_mv f149) ?_)
        refine OW.cons (OP.val (v := v137) rfl (x_assign) ?_)
        refine OW.cons (OP.val (v := (.int .i64 0)) rfl (x_assign) ?_)
        refine OW.nil ?_
        refine CW.ret ?_
        obtain rfl := Option.some.inj hm
        exact RR2 rfl rfl rfl ⟨v137, S138, rfl, hL.fresh 3 rfl [1] (by decide) (by decide) rfl⟩
      · intro s_l1 F151 wd152 t139 hJ hm hr140
        unfold M.spec_FactorHistory_l1 at hm
        obtain ⟨v135, S136, v137, S138, f153, f154, f155, f156, f157, f158, hL⟩ := hJ
        refine CW.seq ?_
        refine CW.seq ?_
        refine CW.regionL ?_
        refine OW.cons (OP.val (v := (.int .i64 s_l1.2.2)) rfl (x_mv f158) ?_)
        refine OW.cons (OP.val (v := v1) rfl (x_mv f153) ?_)
        refine OW.cons (OP.val (v := (.int .i64 (a2.length : Int))) rfl (x_lenR Try.underlying63 rfl (hL.rdS 3 rfl h2)) ?_)
        refine OW.cons (OP.val (v := (.bool (decide (s_l1.2.2 < (a2.length : Int))))) rfl (x_lss rfl rfl) ?_)
        refine OW.nil ?_
        refine CW.condM (t := decide (s_l1.2.2 < (a2.length : Int))) rfl hm (fun hb159 hm => ?_) (fun hb159 hm => ?_)
        · refine CW.skip ?_
          refine CW.seq ?_
          refine CW.block ?_
          refine CW.seq ?_
          refine CW.drawH (fun w' => Hp w0 [Ent.ron v3 a3 61 S136 v135 s_l1.1, Ent.own 2 S138 v137 s_l1.2.1, Ent.blk b6 46 #[(.int .i64 a0.Gain), (.int .i64 a0.Step), (.int .i64 a0.Low), (.int .i64 a0.High)], Ent.snap w0 w0.heap.size] w') Try_mixed ?_
          have hL := hL.call (Mod.drew _)
          have hS := (hL.sel [0, 1, 2, 3] (by decide) rfl)
          refine DH.take 0 rfl (by kernel_rfl) (by kernel_rfl) (by kernel_rfl) rfl rfl hS (YH.val (v := (.agg #[(.int .i64 a0.Gain), (.int .i64 a0.Step), (.int .i64 a0.Low), (.int .i64 a0.High)])) (fun w' hS' => x_loadN (cs := [(.int .i64 a0.Gain), (.int .i64 a0.Step), (.int .i64 a0.Low), (.int .i64 a0.High)]) Try.underlying46 Try_T46 rfl f155 (hS'.cellsB 2 rfl (o := 0) (l := [(.int .i64 a0.Gain), (.int .i64 a0.Step), (.int .i64 a0.Low), (.int .i64 a0.High)]) (by intro j u hj; exact (by simpa using hj))))) ?_
          have hS := (hL.sel [0, 1, 2, 3] (by decide) rfl)
          refine DH.take 1 rfl (by kernel_rfl) (by kernel_rfl) (by kernel_rfl) rfl rfl hS (YH.val (v := v1) (fun w' hS' => x_mv f153)) ?_
          have hS := (hL.sel [0, 1, 2, 3] (by decide) rfl)
          refine DH.take 2 rfl (by kernel_rfl) (by kernel_rfl) (by kernel_rfl) rfl rfl hS (YH.val (v := (.int .i64 s_l1.2.2)) (fun w' hS' => x_mv f158)) ?_
          have hS := (hL.sel [0, 1, 2, 3] (by decide) rfl)
          obtain ⟨x178, ha179, hm⟩ := bndE hm
          obtain ⟨hz180, ha188⟩ := idxE ha179
          obtain ⟨b181, q182, v183, hix184, hs185, hc186, hr187⟩ := rdN_at h2 hz180 ha188
          refine DH.take 3 rfl (by kernel_rfl) (by kernel_rfl) (by kernel_rfl) rfl rfl hS (YH.val (v := (.pointer (some ⟨b181, q182, none⟩))) (fun w' hS' => x_ix Try.underlying63 Try_T28 rfl rfl hix184)) ?_
          have hS := (hL.sel [0, 1, 2, 3] (by decide) rfl)
          refine DH.take 4 rfl (by kernel_rfl) (by kernel_rfl) (by kernel_rfl) rfl rfl hS (YH.val (v := v183) (fun w' hS' => x_load1 Try.underlying28 rfl rfl (hS'.cellS 3 rfl hs185 hc186))) ?_
          have hS := (hL.sel [0, 1, 2, 3] (by decide) rfl)
          refine DH.take 5 rfl (by kernel_rfl) (by kernel_rfl) (by kernel_rfl) rfl rfl hS (YH.val (v := v135) (fun w' hS' => x_mv f156)) ?_
          obtain ⟨x189, hx190, hm⟩ := bndE hm
          refine DH.only 6 rfl (by kernel_rfl) (OP.call rfl (x_call (vs := [(.agg #[(.int .i64 a0.Gain), (.int .i64 a0.Step), (.int .i64 a0.Low), (.int .i64 a0.High)]), v183, v135]) Try_C58 ⟨rfl, rfl, rfl, trivial⟩) (M.spec_l25Race_ok _ a0 x178 (hL.rdS 3 rfl hr187) s_l1.1 (hL.rdR 0 rfl 3 rfl h4) hx190) ?_)
          rintro e193 wd194 ⟨v192, S191, rfl, hF195⟩
          refine ⟨_, rfl, ?_⟩
          have hL := hL.pushAll hF195
          simp only [lA, lB, lC, lD] at hL
          refine ⟨(hL.sel [1, 2, 3, 4] (by decide) rfl), ?_⟩
          have hS := (hL.sel [1, 2, 3, 4] (by decide) rfl)
          refine DH.take 7 rfl (by kernel_rfl) (by kernel_rfl) (by kernel_rfl) rfl rfl hS (YH.val (v := v192) (fun w' hS' => x_assign)) ?_
          refine DH.done (by kernel_rfl) ?_
          refine CW.regionL ?_
          refine OW.cons (OP.val (v := v137) rfl (x_mv f157) ?_)
          refine OW.cons (OP.val (v := v192) rfl (x_move) ?_)
          refine OW.cons (OP.val (v := (.int .i64 a4)) rfl (x_mv f154) ?_)
          obtain ⟨x196, ha197, hm⟩ := bndE hm
          obtain ⟨hz198, ha202⟩ := idxE ha197
          obtain ⟨b199, q200, hix201⟩ := rdL_ix (hL.rdO 0 rfl) hz198 ha202
          refine OW.cons (OP.val (v := (.pointer (some ⟨b199, q200, none⟩))) rfl (x_ix Try.underlying30 Try_T61 rfl rfl hix201) ?_)
          refine OW.cons (OP.val (v := (.pointer (some ⟨b199, q200 + 1, none⟩))) rfl (x_fieldAddr (fsz := 1) q200 1 (q200 + 1) Try.underlying61 rfl Try_T2 rfl rfl rfl) ?_)
          refine OW.cons (OP.val (v := (.int .i64 x196.Value)) rfl (x_load1 Try.underlying2 rfl rfl (rdF_cells (hL.rdO 0 rfl) hix201 ha202 1 _ rfl)) ?_)
          refine OW.cons (S_lit ([x196.Value] : List Int) hL Try.underlying35 Try_T2 rfl (by decide) (by first | (simp [Instr.fill, madeCells, Value.cells, ev, upd, Flat.enc, Flat.sz]; done) | rfl | kernel_rfl) rfl rfl ?_)
          intro wd203 v204 S205 hL
          obtain ⟨hc209, hm⟩ := chkE hm
          refine OW.cons (S_append (ys := ([x196.Value] : List Int)) hL 3 rfl Try.underlying35 Try_T2 rfl rfl rfl (hL.rdO 0 rfl) hc209 (by decide) rfl ?_)
          intro wd206 v207 S208 hL
          refine OW.cons (OP.val (v := v207) rfl (x_assign) ?_)
          refine OW.nil ?_
          refine CW.regionL ?_
          refine OW.cons (OP.val (v := (.int .i64 s_l1.2.2)) rfl (x_mv f158) ?_)
          refine OW.cons (OP.val (v := (.int .i64 (w64 (s_l1.2.2 + 1)))) rfl (x_add rfl rfl) ?_)
          refine OW.cons (OP.val (v := (.int .i64 (w64 (s_l1.2.2 + 1)))) rfl (x_assign) ?_)
          refine OW.nil ?_
          have hL := hL.ronIn2 1 rfl v3 a3
          simp only [lC, lD] at hL
          have hL := hL.sel [1, 3, 4, 5] (by decide) rfl
          obtain rfl := Option.some.inj hm
          exact ⟨_, rfl, ⟨v192, S191, v207, S208, f153, f154, f155, rfl, rfl, rfl, hL⟩⟩
        · refine CW.exit ?_
          refine XJ.hit ?_
          obtain rfl := Option.some.inj hm
          exact ⟨_, rfl, ⟨v135, S136, v137, S138, f153, f154, f155, f156, f157, f158, hL⟩⟩

theorem M.laws_FnExactFactorHistory_ok (w0 : World) (a0 : ProgressRules) (a1 : Int) (a2 : List (List Finish)) {v1 : Value} (h2 : rdL (· < w0.heap.size) w0 v1 a2) (a3 : List Rating) {v3 : Value} (h4 : rdL (· < w0.heap.size) w0 v3 a3) (a4 : Int) {r : Bool} (hm : M.laws_FnExactFactorHistory a0 a1 a2 a3 a4 = some r) :
    Calls Try.prog 10 #[(.agg #[(.int .i64 a0.Gain), (.int .i64 a0.Step), (.int .i64 a0.Low), (.int .i64 a0.High)]), (.int .i64 a1), v1, v3, (.int .i64 a4)] w0 fun e w' => e = .returned (.bool r) ∧ Fresh w0 w' [] := by
  unfold M.laws_FnExactFactorHistory at hm
  refine calls_CW (args := [(.agg #[(.int .i64 a0.Gain), (.int .i64 a0.Step), (.int .i64 a0.Low), (.int .i64 a0.High)]), (.int .i64 a1), v1, v3, (.int .i64 a4)]) Try.func10 rfl rfl rfl ?_
  have hL := Hp.start w0
  refine CW.seq ?_
  refine CW.regionL ?_
  refine OW.cons (S_box (cs := #[(.int .i64 a0.Gain), (.int .i64 a0.Step), (.int .i64 a0.Low), (.int .i64 a0.High)]) hL rfl rfl rfl ?_)
  intro wd5 b6 hL
  refine OW.cons (OP.val (v := (.bool false)) rfl (x_assign) ?_)
  refine OW.nil ?_
  refine CW.seq ?_
  refine CW.regionL ?_
  refine OW.cons (OP.val (v := (.int .i64 1048576)) rfl (x_assign) ?_)
  refine OW.nil ?_
  refine CW.seq ?_
  refine CW.regionL ?_
  refine OW.cons (OP.val (v := v1) rfl (x_move) ?_)
  refine OW.cons (OP.val (v := (.int .i64 1048576)) rfl (x_move) ?_)
  obtain ⟨x7, hx8, hm⟩ := bndE hm
  refine OW.cons (OP.call rfl (x_call (vs := [v1, (.int .i64 1048576)]) Try_C42 ⟨rfl, rfl, trivial⟩) (M.laws_szFinishSS_ok _ a2 (hL.rdS 1 rfl h2) 1048576 hx8) ?_)
  rintro e9 wd10 ⟨rfl, hF11⟩
  refine ⟨_, rfl, ?_⟩
  have hL := hL.pushAll hF11
  simp only [lA, lB, lC, lD] at hL
  refine OW.cons (OP.val (v := (.int .i64 x7)) rfl (x_assign) ?_)
  refine OW.nil ?_
  refine CW.seq ?_
  refine CW.seq ?_
  refine CW.regionL ?_
  refine OW.cons (OP.val (v := (.int .i64 x7)) rfl (x_move) ?_)
  refine OW.cons (OP.val (v := (.bool (decide (x7 < 0)))) rfl (x_lss rfl rfl) ?_)
  refine OW.nil ?_
  refine CW.condM (t := decide (x7 < 0)) rfl hm (fun hb12 hm => ?_) (fun hb12 hm => ?_)
  · refine CW.seq ?_
    refine CW.regionL ?_
    refine OW.cons (OP.val (v := (.bool true)) rfl (x_assign) ?_)
    refine OW.nil ?_
    refine CW.ret ?_
    obtain rfl := Option.some.inj hm
    exact RR1 rfl rfl ⟨rfl, hL.fresh 1 rfl [] (by decide) (by decide) rfl⟩
  · refine CW.skip ?_
    refine CW.seq ?_
    refine CW.regionL ?_
    refine OW.cons (OP.val (v := v3) rfl (x_move) ?_)
    refine OW.cons (OP.val (v := (.int .i64 x7)) rfl (x_move) ?_)
    obtain ⟨x13, hx14, hm⟩ := bndE hm
    refine OW.cons (OP.call rfl (x_call (vs := [v3, (.int .i64 x7)]) Try_C12 ⟨rfl, rfl, trivial⟩) (M.laws_szRatingS_ok _ a3 (hL.rdS 1 rfl h4) x7 hx14) ?_)
    rintro e15 wd16 ⟨rfl, hF17⟩
    refine ⟨_, rfl, ?_⟩
    have hL := hL.pushAll hF17
    simp only [lA, lB, lC, lD] at hL
    refine OW.cons (OP.val (v := (.int .i64 x13)) rfl (x_assign) ?_)
    refine OW.nil ?_
    refine CW.seq ?_
    refine CW.seq ?_
    refine CW.regionL ?_
    refine OW.cons (OP.val (v := (.int .i64 x13)) rfl (x_move) ?_)
    refine OW.cons (OP.val (v := (.bool (decide (x13 < 0)))) rfl (x_lss rfl rfl) ?_)
    refine OW.nil ?_
    refine CW.condM (t := decide (x13 < 0)) rfl hm (fun hb18 hm => ?_) (fun hb18 hm => ?_)
    · refine CW.seq ?_
      refine CW.regionL ?_
      refine OW.cons (OP.val (v := (.bool true)) rfl (x_assign) ?_)
      refine OW.nil ?_
      refine CW.ret ?_
      obtain rfl := Option.some.inj hm
      exact RR1 rfl rfl ⟨rfl, hL.fresh 1 rfl [] (by decide) (by decide) rfl⟩
    · refine CW.skip ?_
      refine CW.seq ?_
      refine CW.regionL ?_
      refine OW.cons (OP.val (v := (.agg #[(.int .i64 a0.Gain), (.int .i64 a0.Step), (.int .i64 a0.Low), (.int .i64 a0.High)])) rfl (x_loadN (cs := [(.int .i64 a0.Gain), (.int .i64 a0.Step), (.int .i64 a0.Low), (.int .i64 a0.High)]) Try.underlying43 Try_T43 rfl rfl (hL.cellsB 0 rfl (o := 0) (l := [(.int .i64 a0.Gain), (.int .i64 a0.Step), (.int .i64 a0.Low), (.int .i64 a0.High)]) (by intro j u hj; exact (by simpa using hj)))) ?_)
      obtain ⟨x19, hx20, hm⟩ := bndE hm
      refine OW.cons (OP.call rfl (x_call (vs := [(.agg #[(.int .i64 a0.Gain), (.int .i64 a0.Step), (.int .i64 a0.Low), (.int .i64 a0.High)])]) Try_C27 ⟨rfl, trivial⟩) (M.laws_toProgressRules_ok _ a0 hx20) ?_)
      rintro e21 wd22 ⟨rfl, hF23⟩
      refine ⟨_, rfl, ?_⟩
      have hL := hL.pushAll hF23
      simp only [lA, lB, lC, lD] at hL
      refine OW.cons (OP.val (v := (.int .i64 a1)) rfl (x_move) ?_)
      refine OW.cons (OP.val (v := v1) rfl (x_move) ?_)
      obtain ⟨x24, hx25, hm⟩ := bndE hm
      refine OW.cons (OP.call rfl (x_call (vs := [v1]) Try_C43 ⟨rfl, trivial⟩) (M.laws_toFinishSS_ok _ a2 (hL.rdS 1 rfl h2) hx25) ?_)
      rintro e28 wd29 ⟨v27, S26, rfl, hF30⟩
      refine ⟨_, rfl, ?_⟩
      have hL := hL.pushAll hF30
      simp only [lA, lB, lC, lD] at hL
      refine OW.cons (OP.val (v := v3) rfl (x_move) ?_)
      obtain ⟨x31, hx32, hm⟩ := bndE hm
      refine OW.cons (OP.call rfl (x_call (vs := [v3]) Try_C15 ⟨rfl, trivial⟩) (M.laws_toRatingS_ok _ a3 (hL.rdS 2 rfl h4) hx32) ?_)
      rintro e35 wd36 ⟨v34, S33, rfl, hF37⟩
      refine ⟨_, rfl, ?_⟩
      have hL := hL.pushAll hF37
      simp only [lA, lB, lC, lD] at hL
      refine OW.cons (OP.val (v := (.int .i64 a4)) rfl (x_move) ?_)
      obtain ⟨x38, hx39, hm⟩ := bndE hm
      refine OW.cons (OP.call rfl (x_call (vs := [(.agg #[(.int .i64 x19.Gain), (.int .i64 x19.Step), (.int .i64 x19.Low), (.int .i64 x19.High)]), (.int .i64 a1), v27, v34, (.int .i64 a4)]) Try_C46 ⟨rfl, rfl, rfl, rfl, rfl, trivial⟩) (M.spec_FactorHistory_ok _ x19 a1 x24 (hL.rdO 1 rfl) x31 (hL.rdO 0 rfl) a4 hx39) ?_)
      rintro e42 wd43 ⟨v41, S40, rfl, hF44⟩
      refine ⟨_, rfl, ?_⟩
      have hL := hL.pushAll hF44
      simp only [lA, lB, lC, lD] at hL
      refine OW.cons (OP.val (v := (.tuple #[v41, (.int .i64 x38.2)])) rfl (x_move) ?_)
      refine OW.cons (OP.val (v := v41) rfl (x_extract rfl rfl) ?_)
      refine OW.cons (OP.val (v := (.int .i64 x38.2)) rfl (x_extract rfl rfl) ?_)
      refine OW.cons (OP.val (v := v41) rfl (x_assign) ?_)
      refine OW.cons (OP.val (v := (.int .i64 x38.2)) rfl (x_assign) ?_)
      refine OW.nil ?_
      refine CW.seq ?_
      refine CW.regionL ?_
      refine OW.cons (OP.val (v := v1) rfl (x_move) ?_)
      obtain ⟨x45, hx46, hm⟩ := bndE hm
      refine OW.cons (OP.call rfl (x_call (vs := [v1]) Try_C43 ⟨rfl, trivial⟩) (M.laws_toFinishSS_ok _ a2 (hL.rdS 4 rfl h2) hx46) ?_)
      rintro e49 wd50 ⟨v48, S47, rfl, hF51⟩
      refine ⟨_, rfl, ?_⟩
      have hL := hL.pushAll hF51
      simp only [lA, lB, lC, lD] at hL
      refine OW.cons (OP.val (v := v48) rfl (x_assign) ?_)
      refine OW.nil ?_
      refine CW.seq ?_
      refine CW.regionL ?_
      refine OW.cons (OP.val (v := v3) rfl (x_move) ?_)
      obtain ⟨x52, hx53, hm⟩ := bndE hm
      refine OW.cons (OP.call rfl (x_call (vs := [v3]) Try_C15 ⟨rfl, trivial⟩) (M.laws_toRatingS_ok _ a3 (hL.rdS 5 rfl h4) hx53) ?_)
      rintro e56 wd57 ⟨v55, S54, rfl, hF58⟩
      refine ⟨_, rfl, ?_⟩
      have hL := hL.pushAll hF58
      simp only [lA, lB, lC, lD] at hL
      refine OW.cons (OP.val (v := v55) rfl (x_assign) ?_)
      refine OW.nil ?_
      refine CW.seq ?_
      refine CW.regionL ?_
      refine OW.cons (OP.val (v := (.agg #[(.int .i64 a0.Gain), (.int .i64 a0.Step), (.int .i64 a0.Low), (.int .i64 a0.High)])) rfl (x_loadN (cs := [(.int .i64 a0.Gain), (.int .i64 a0.Step), (.int .i64 a0.Low), (.int .i64 a0.High)]) Try.underlying43 Try_T43 rfl rfl (hL.cellsB 5 rfl (o := 0) (l := [(.int .i64 a0.Gain), (.int .i64 a0.Step), (.int .i64 a0.Low), (.int .i64 a0.High)]) (by intro j u hj; exact (by simpa using hj)))) ?_)
      obtain ⟨x59, hx60, hm⟩ := bndE hm
      refine OW.cons (OP.call rfl (x_call (vs := [(.agg #[(.int .i64 a0.Gain), (.int .i64 a0.Step), (.int .i64 a0.Low), (.int .i64 a0.High)])]) Try_C27 ⟨rfl, trivial⟩) (M.laws_toProgressRules_ok _ a0 hx60) ?_)
      rintro e61 wd62 ⟨rfl, hF63⟩
      refine ⟨_, rfl, ?_⟩
      have hL := hL.pushAll hF63
      simp only [lA, lB, lC, lD] at hL
      refine OW.cons (OP.val (v := (.int .i64 a1)) rfl (x_move) ?_)
      refine OW.cons (OP.val (v := v48) rfl (x_move) ?_)
      refine OW.cons (OP.val (v := v55) rfl (x_move) ?_)
      refine OW.cons (OP.val (v := (.int .i64 a4)) rfl (x_move) ?_)
      obtain ⟨x64, hx65, hm⟩ := bndE hm
      refine OW.cons (OP.call rfl (x_call (vs := [(.agg #[(.int .i64 x59.Gain), (.int .i64 x59.Step), (.int .i64 x59.Low), (.int .i64 x59.High)]), (.int .i64 a1), v48, v55, (.int .i64 a4)]) Try_C40 ⟨rfl, rfl, rfl, rfl, rfl, trivial⟩) (M.impl_FactorHistory_ok _ x59 a1 x45 (hL.rdO 1 rfl) x52 (hL.rdO 0 rfl) a4 hx65) ?_)
      rintro e68 wd69 ⟨v67, S66, rfl, hF70⟩
      refine ⟨_, rfl, ?_⟩
      have hL := hL.pushAll hF70
      simp only [lA, lB, lC, lD] at hL
      refine OW.cons (OP.val (v := (.tuple #[v67, (.int .i64 x64.2)])) rfl (x_move) ?_)
      refine OW.cons (OP.val (v := v67) rfl (x_extract rfl rfl) ?_)
      refine OW.cons (OP.val (v := (.int .i64 x64.2)) rfl (x_extract rfl rfl) ?_)
      refine OW.cons (OP.val (v := v67) rfl (x_assign) ?_)
      refine OW.cons (OP.val (v := (.int .i64 x64.2)) rfl (x_assign) ?_)
      refine OW.nil ?_
      refine CW.seq ?_
      refine CW.seqJ (fun (s_j1 : Bool) (F : Fr) (w : World) => F 1 = (.int .i64 a1) ∧ F 2 = v1 ∧ F 3 = v3 ∧ F 4 = (.int .i64 a4) ∧ F 5 = (.pointer (some ⟨b6, 0, none⟩)) ∧ F 12 = v41 ∧ F 13 = (.int .i64 x38.2) ∧ F 14 = v48 ∧ F 15 = v55 ∧ F 16 = v67 ∧ F 17 = (.int .i64 x64.2) ∧ F 67 = (.bool s_j1) ∧ Hp w0 [Ent.own 2 S66 v67 x64.1, Ent.own 61 S54 v55 x52, Ent.own 28 S47 v48 x45, Ent.own 2 S40 v41 x38.1, Ent.blk b6 43 #[(.int .i64 a0.Gain), (.int .i64 a0.Step), (.int .i64 a0.Low), (.int .i64 a0.High)], Ent.snap w0 w0.heap.size] w) (fun s_j1 => M.laws_FnExactFactorHistory_j1 a0 a1 a2 a3 a4 x38 x45 x52 x64 s_j1 = some r) ?_ ?_
      · refine CW.regionL ?_
        refine OW.cons (OP.val (v := v67) rfl (x_move) ?_)
        refine OW.cons (OP.val (v := v41) rfl (x_move) ?_)
        obtain ⟨x220, hx221, hm⟩ := bndE hm
        refine OW.cons (OP.call rfl (x_call (vs := [v67, v41]) Try_C21 ⟨rfl, rfl, trivial⟩) (M.laws_eqInt64S_ok _ x64.1 (hL.rdO 0 rfl) x38.1 (hL.rdO 3 rfl) hx221) ?_)
        rintro e222 wd223 ⟨rfl, hF224⟩
        refine ⟨_, rfl, ?_⟩
        have hL := hL.pushAll hF224
        simp only [lA, lB, lC, lD] at hL
        refine OW.cons (OP.val (v := (.bool (!x220))) rfl (x_not rfl) ?_)
        refine OW.cons (OP.val (v := (.bool (!x220))) rfl (x_move) ?_)
        refine ifB_elim hm (fun hb225 hm => ?_) (fun hb225 hm => ?_)
        · refine OW.cons (OP.no' rfl rfl hb225 rfl ?_)
          refine OW.cons (OP.no' rfl rfl hb225 rfl ?_)
          refine OW.cons (OP.no' rfl rfl hb225 rfl ?_)
          refine OW.cons (OP.val (v := (.bool true)) rfl (x_pickT' rfl hb225 rfl) ?_)
          refine OW.nil ?_
          have hL := hL.sel [0, 1, 2, 3, 6, 7] (by decide) rfl
          exact ⟨true, hm, ⟨rfl, rfl, rfl, rfl, rfl, rfl, rfl, rfl, rfl, rfl, rfl, rfl, hL⟩⟩
        · refine OW.cons (OP.yes' rfl rfl hb225 (OP.val (v := (.int .i64 x64.2)) rfl (x_move) ?_))
          refine OW.cons (OP.yes' rfl rfl hb225 (OP.val (v := (.int .i64 x38.2)) rfl (x_move) ?_))
          refine OW.cons (OP.yes' rfl rfl hb225 (OP.val (v := (.bool (x64.2 != x38.2))) rfl (x_neq rfl rfl) ?_))
          refine OW.cons (OP.val (v := (.bool (x64.2 != x38.2))) rfl (x_pickF' rfl hb225 rfl) ?_)
          refine OW.nil ?_
          have hL := hL.sel [0, 1, 2, 3, 6, 7] (by decide) rfl
          exact ⟨x64.2 != x38.2, hm, ⟨rfl, rfl, rfl, rfl, rfl, rfl, rfl, rfl, rfl, rfl, rfl, rfl, hL⟩⟩
      · intro s_j1 F77 wd78 hJ hm
        unfold M.laws_FnExactFactorHistory_j1 at hm
        obtain ⟨f79, f80, f81, f82, f83, f84, f85, f86, f87, f88, f89, f90, hL⟩ := hJ
        refine CW.condM (t := s_j1) f90 hm (fun hb91 hm => ?_) (fun hb91 hm => ?_)
        · refine CW.seq ?_
          refine CW.regionL ?_
          refine OW.cons (OP.val (v := (.bool false)) rfl (x_assign) ?_)
          refine OW.nil ?_
          refine CW.ret ?_
          obtain rfl := Option.some.inj hm
          exact RR1 rfl rfl ⟨rfl, hL.fresh 5 rfl [] (by decide) (by decide) rfl⟩
        · refine CW.skip ?_
          refine CW.seq ?_
          refine CW.seq ?_
          refine CW.regionL ?_
          refine OW.cons (OP.val (v := v48) rfl (x_mv f86) ?_)
          refine OW.cons (OP.val (v := v1) rfl (x_mv f80) ?_)
          obtain ⟨x92, hx93, hm⟩ := bndE hm
          refine OW.cons (OP.call rfl (x_call (vs := [v1]) Try_C43 ⟨rfl, trivial⟩) (M.laws_toFinishSS_ok _ a2 (hL.rdS 5 rfl h2) hx93) ?_)
          rintro e96 wd97 ⟨v95, S94, rfl, hF98⟩
          refine ⟨_, rfl, ?_⟩
          have hL := hL.pushAll hF98
          simp only [lA, lB, lC, lD] at hL
          obtain ⟨x99, hx100, hm⟩ := bndE hm
          refine OW.cons (OP.call rfl (x_call (vs := [v48, v95]) Try_C44 ⟨rfl, rfl, trivial⟩) (M.laws_eqFinishSS_ok _ x45 (hL.rdO 3 rfl) x92 (hL.rdO 0 rfl) hx100) ?_)
          rintro e101 wd102 ⟨rfl, hF103⟩
          refine ⟨_, rfl, ?_⟩
          have hL := hL.pushAll hF103
          simp only [lA, lB, lC, lD] at hL
          refine OW.cons (OP.val (v := (.bool (!x99))) rfl (x_not rfl) ?_)
          refine OW.nil ?_
          refine CW.condM (t := !x99) rfl hm (fun hb104 hm => ?_) (fun hb104 hm => ?_)
          · refine CW.seq ?_
            refine CW.regionL ?_
            refine OW.cons (OP.val (v := (.bool false)) rfl (x_assign) ?_)
            refine OW.nil ?_
            refine CW.ret ?_
            obtain rfl := Option.some.inj hm
            exact RR1 rfl rfl ⟨rfl, hL.fresh 6 rfl [] (by decide) (by decide) rfl⟩
          · refine CW.skip ?_
            refine CW.seq ?_
            refine CW.seq ?_
            refine CW.regionL ?_
            refine OW.cons (OP.val (v := v55) rfl (x_mv f87) ?_)
            refine OW.cons (OP.val (v := v3) rfl (x_mv f81) ?_)
            obtain ⟨x105, hx106, hm⟩ := bndE hm
            refine OW.cons (OP.call rfl (x_call (vs := [v3]) Try_C15 ⟨rfl, trivial⟩) (M.laws_toRatingS_ok _ a3 (hL.rdS 6 rfl h4) hx106) ?_)
            rintro e109 wd110 ⟨v108, S107, rfl, hF111⟩
            refine ⟨_, rfl, ?_⟩
            have hL := hL.pushAll hF111
            simp only [lA, lB, lC, lD] at hL
            obtain ⟨x112, hx113, hm⟩ := bndE hm
            refine OW.cons (OP.call rfl (x_call (vs := [v55, v108]) Try_C18 ⟨rfl, rfl, trivial⟩) (M.laws_eqRatingS_ok _ x52 (hL.rdO 3 rfl) x105 (hL.rdO 0 rfl) hx113) ?_)
            rintro e114 wd115 ⟨rfl, hF116⟩
            refine ⟨_, rfl, ?_⟩
            have hL := hL.pushAll hF116
            simp only [lA, lB, lC, lD] at hL
            refine OW.cons (OP.val (v := (.bool (!x112))) rfl (x_not rfl) ?_)
            refine OW.nil ?_
            refine CW.condM (t := !x112) rfl hm (fun hb117 hm => ?_) (fun hb117 hm => ?_)
            · refine CW.seq ?_
              refine CW.regionL ?_
              refine OW.cons (OP.val (v := (.bool false)) rfl (x_assign) ?_)
              refine OW.nil ?_
              refine CW.ret ?_
              obtain rfl := Option.some.inj hm
              exact RR1 rfl rfl ⟨rfl, hL.fresh 7 rfl [] (by decide) (by decide) rfl⟩
            · refine CW.skip ?_
              refine CW.seq ?_
              refine CW.regionL ?_
              refine OW.cons (OP.val (v := (.int .i64 1)) rfl (x_assign) ?_)
              refine OW.nil ?_
              refine CW.seq ?_
              refine CW.regionL ?_
              refine OW.cons (OP.val (v := v48) rfl (x_mv f86) ?_)
              refine OW.cons (OP.val (v := (.int .i64 1)) rfl (x_move) ?_)
              obtain ⟨x118, hx119, hm⟩ := bndE hm
              refine OW.cons (OP.call rfl (x_call (vs := [v48, (.int .i64 1)]) Try_C45 ⟨rfl, rfl, trivial⟩) (M.laws_markFinishSS_ok _ x45 (hL.get 4 rfl) 1 hx119) ?_)
              rintro e120 wd121 ⟨S123, rfl, hF122⟩
              refine ⟨_, rfl, ?_⟩
              have hL := hL.mut 4 rfl hF122
              simp only [lA, lB, lC, lD] at hL
              refine OW.cons (OP.val (v := (.int .i64 x118.1)) rfl (x_assign) ?_)
              refine OW.nil ?_
              refine CW.seq ?_
              refine CW.regionL ?_
              refine OW.cons (OP.val (v := v55) rfl (x_mv f87) ?_)
              refine OW.cons (OP.val (v := (.int .i64 x118.1)) rfl (x_move) ?_)
              obtain ⟨x124, hx125, hm⟩ := bndE hm
              refine OW.cons (OP.call rfl (x_call (vs := [v55, (.int .i64 x118.1)]) Try_C23 ⟨rfl, rfl, trivial⟩) (M.laws_markRatingS_ok _ x52 (hL.get 3 rfl) x118.1 hx125) ?_)
              rintro e126 wd127 ⟨S129, rfl, hF128⟩
              refine ⟨_, rfl, ?_⟩
              have hL := hL.mut 3 rfl hF128
              simp only [lA, lB, lC, lD] at hL
              refine OW.cons (OP.val (v := (.int .i64 x124.1)) rfl (x_assign) ?_)
              refine OW.nil ?_
              refine CW.seq ?_
              refine CW.seqJ (fun (s_j2 : Bool) (F : Fr) (w : World) => F 1 = (.int .i64 a1) ∧ F 2 = v1 ∧ F 3 = v3 ∧ F 4 = (.int .i64 a4) ∧ F 5 = (.pointer (some ⟨b6, 0, none⟩)) ∧ F 12 = v41 ∧ F 13 = (.int .i64 x38.2) ∧ F 16 = v67 ∧ F 96 = (.bool s_j2) ∧ Hp w0 [Ent.own 2 S66 v67 x64.1, Ent.own 2 S40 v41 x38.1, Ent.blk b6 43 #[(.int .i64 a0.Gain), (.int .i64 a0.Step), (.int .i64 a0.Low), (.int .i64 a0.High)], Ent.snap w0 w0.heap.size] w) (fun s_j2 => M.laws_FnExactFactorHistory_j2 a0 a1 a2 a3 a4 x38 x64 s_j2 = some r) ?_ ?_
              · refine CW.regionL ?_
                refine OW.cons (OP.val (v := (.int .i64 x124.1)) rfl (x_move) ?_)
                refine OW.cons (OP.val (v := (.bool (decide (x124.1 < 0)))) rfl (x_lss rfl rfl) ?_)
                refine OW.cons (OP.val (v := (.bool (decide (x124.1 < 0)))) rfl (x_move) ?_)
                refine ifB_elim hm (fun hb213 hm => ?_) (fun hb213 hm => ?_)
                · refine OW.cons (OP.no' rfl rfl hb213 rfl ?_)
                  refine OW.cons (OP.no' rfl rfl hb213 rfl ?_)
                  refine OW.cons (OP.no' rfl rfl hb213 rfl ?_)
                  refine OW.cons (OP.no' rfl rfl hb213 rfl ?_)
                  refine OW.cons (OP.val (v := (.bool true)) rfl (x_pickT' rfl hb213 rfl) ?_)
                  refine OW.cons (OP.val (v := (.bool true)) rfl (x_move) ?_)
                  refine OW.cons (OP.no' rfl rfl rfl rfl ?_)
                  refine OW.cons (OP.no' rfl rfl rfl rfl ?_)
                  refine OW.cons (OP.no' rfl rfl rfl rfl ?_)
                  refine OW.cons (OP.val (v := (.bool true)) rfl (x_pickT' rfl rfl rfl) ?_)
                  refine OW.nil ?_
                  have hL := hL.sel [2, 5, 6, 7] (by decide) rfl
                  exact ⟨true, hm, ⟨f79, f80, f81, f82, f83, f84, f85, f88, rfl, hL⟩⟩
                · refine OW.cons (OP.yes' rfl rfl hb213 (OP.val (v := v67) rfl (x_mv f88) ?_))
                  refine OW.cons (OP.yes' rfl rfl hb213 (OP.val (v := v41) rfl (x_mv f84) ?_))
                  obtain ⟨x214, hx215, hm⟩ := bndE hm
                  refine OW.cons (OP.yes' rfl rfl hb213 (OP.call rfl (x_call (vs := [v67, v41]) Try_C21 ⟨rfl, rfl, trivial⟩) (M.laws_eqInt64S_ok _ x64.1 (hL.rdO 2 rfl) x38.1 (hL.rdO 5 rfl) hx215) ?_))
                  rintro e216 wd217 ⟨rfl, hF218⟩
                  refine ⟨_, rfl, ?_⟩
                  have hL := hL.pushAll hF218
                  simp only [lA, lB, lC, lD] at hL
                  refine OW.cons (OP.yes' rfl rfl hb213 (OP.val (v := (.bool (!x214))) rfl (x_not rfl) ?_))
                  refine OW.cons (OP.val (v := (.bool (!x214))) rfl (x_pickF' rfl hb213 rfl) ?_)
                  refine OW.cons (OP.val (v := (.bool (!x214))) rfl (x_move) ?_)
                  refine ifB_elim hm (fun hb219 hm => ?_) (fun hb219 hm => ?_)
                  · refine OW.cons (OP.no' rfl rfl hb219 rfl ?_)
                    refine OW.cons (OP.no' rfl rfl hb219 rfl ?_)
                    refine OW.cons (OP.no' rfl rfl hb219 rfl ?_)
                    refine OW.cons (OP.val (v := (.bool true)) rfl (x_pickT' rfl hb219 rfl) ?_)
                    refine OW.nil ?_
                    have hL := hL.sel [2, 5, 6, 7] (by decide) rfl
                    exact ⟨true, hm, ⟨f79, f80, f81, f82, f83, f84, f85, f88, rfl, hL⟩⟩
                  · refine OW.cons (OP.yes' rfl rfl hb219 (OP.val (v := (.int .i64 x64.2)) rfl (x_mv f89) ?_))
                    refine OW.cons (OP.yes' rfl rfl hb219 (OP.val (v := (.int .i64 x38.2)) rfl (x_mv f85) ?_))
                    refine OW.cons (OP.yes' rfl rfl hb219 (OP.val (v := (.bool (x64.2 != x38.2))) rfl (x_neq rfl rfl) ?_))
                    refine OW.cons (OP.val (v := (.bool (x64.2 != x38.2))) rfl (x_pickF' rfl hb219 rfl) ?_)
                    refine OW.nil ?_
                    have hL := hL.sel [2, 5, 6, 7] (by decide) rfl
                    exact ⟨x64.2 != x38.2, hm, ⟨f79, f80, f81, f82, f83, f84, f85, f88, rfl, hL⟩⟩
              · intro s_j2 F137 wd138 hJ hm
                unfold M.laws_FnExactFactorHistory_j2 at hm
                obtain ⟨f139, f140, f141, f142, f143, f144, f145, f146, f147, hL⟩ := hJ
                refine CW.condM (t := s_j2) f147 hm (fun hb148 hm => ?_) (fun hb148 hm => ?_)
                · refine CW.seq ?_
                  refine CW.regionL ?_
                  refine OW.cons (OP.val (v := (.bool false)) rfl (x_assign) ?_)
                  refine OW.nil ?_
                  refine CW.ret ?_
                  obtain rfl := Option.some.inj hm
                  exact RR1 rfl rfl ⟨rfl, hL.fresh 3 rfl [] (by decide) (by decide) rfl⟩
                · refine CW.skip ?_
                  refine CW.seq ?_
                  refine CW.regionL ?_
                  refine OW.cons (OP.val (v := (.int .i64 1)) rfl (x_assign) ?_)
                  refine OW.nil ?_
                  refine CW.seq ?_
                  refine CW.regionL ?_
                  refine OW.cons (OP.val (v := v67) rfl (x_mv f146) ?_)
                  refine OW.cons (OP.val (v := (.int .i64 1)) rfl (x_move) ?_)
                  obtain ⟨x149, hx150, hm⟩ := bndE hm
                  refine OW.cons (OP.call rfl (x_call (vs := [v67, (.int .i64 1)]) Try_C24 ⟨rfl, rfl, trivial⟩) (M.laws_markInt64S_ok _ x64.1 (hL.get 0 rfl) 1 hx150) ?_)
                  rintro e151 wd152 ⟨S154, rfl, hF153⟩
                  refine ⟨_, rfl, ?_⟩
                  have hL := hL.mut 0 rfl hF153
                  simp only [lA, lB, lC, lD] at hL
                  refine OW.cons (OP.val (v := (.int .i64 x149.1)) rfl (x_assign) ?_)
                  refine OW.nil ?_
                  refine CW.seq ?_
                  refine CW.regionL ?_
                  refine OW.cons (OP.val (v := (.int .i64 1)) rfl (x_assign) ?_)
                  refine OW.nil ?_
                  refine CW.seq ?_
                  refine CW.regionL ?_
                  refine OW.cons (OP.val (v := v67) rfl (x_mv f146) ?_)
                  refine OW.cons (OP.val (v := (.int .i64 1)) rfl (x_move) ?_)
                  obtain ⟨x155, hx156, hm⟩ := bndE hm
                  refine OW.cons (OP.call rfl (x_call (vs := [v67, (.int .i64 1)]) Try_C25 ⟨rfl, rfl, trivial⟩) (M.laws_heldInt64S_ok _ x149.2 (hL.rdO 0 rfl) 1 hx156) ?_)
                  rintro e157 wd158 ⟨rfl, hF159⟩
                  refine ⟨_, rfl, ?_⟩
                  have hL := hL.pushAll hF159
                  simp only [lA, lB, lC, lD] at hL
                  refine OW.cons (OP.val (v := (.int .i64 x155)) rfl (x_assign) ?_)
                  refine OW.nil ?_
                  refine CW.seq ?_
                  refine CW.seq ?_
                  refine CW.regionL ?_
                  refine OW.cons (OP.val (v := (.int .i64 x155)) rfl (x_move) ?_)
                  refine OW.cons (OP.val (v := (.bool (decide (x155 < 0)))) rfl (x_lss rfl rfl) ?_)
                  refine OW.nil ?_
                  refine CW.condM (t := decide (x155 < 0)) rfl hm (fun hb160 hm => ?_) (fun hb160 hm => ?_)
                  · refine CW.seq ?_
                    refine CW.regionL ?_
                    refine OW.cons (OP.val (v := (.bool false)) rfl (x_assign) ?_)
                    refine OW.nil ?_
                    refine CW.ret ?_
                    obtain rfl := Option.some.inj hm
                    exact RR1 rfl rfl ⟨rfl, hL.fresh 3 rfl [] (by decide) (by decide) rfl⟩
                  · refine CW.skip ?_
                    refine CW.seq ?_
                    refine CW.seq ?_
                    refine CW.regionL ?_
                    refine OW.cons (OP.val (v := (.int .i64 x155)) rfl (x_move) ?_)
                    refine OW.cons (OP.val (v := (.int .i64 x149.1)) rfl (x_move) ?_)
                    refine OW.cons (OP.val (v := (.bool (x155 != x149.1))) rfl (x_neq rfl rfl) ?_)
                    refine OW.nil ?_
                    refine CW.condM (t := x155 != x149.1) rfl hm (fun hb161 hm => ?_) (fun hb161 hm => ?_)
                    · refine CW.seq ?_
                      refine CW.regionL ?_
                      refine OW.cons (OP.val (v := (.bool false)) rfl (x_assign) ?_)
                      refine OW.nil ?_
                      refine CW.ret ?_
                      obtain rfl := Option.some.inj hm
                      exact RR1 rfl rfl ⟨rfl, hL.fresh 3 rfl [] (by decide) (by decide) rfl⟩
                    · refine CW.skip ?_
                      refine CW.seq ?_
                      refine CW.regionL ?_
                      refine OW.cons (OP.val (v := (.agg #[(.int .i64 a0.Gain), (.int .i64 a0.Step), (.int .i64 a0.Low), (.int .i64 a0.High)])) rfl (x_loadN (cs := [(.int .i64 a0.Gain), (.int .i64 a0.Step), (.int .i64 a0.Low), (.int .i64 a0.High)]) Try.underlying43 Try_T43 rfl f143 (hL.cellsB 2 rfl (o := 0) (l := [(.int .i64 a0.Gain), (.int .i64 a0.Step), (.int .i64 a0.Low), (.int .i64 a0.High)]) (by intro j u hj; exact (by simpa using hj)))) ?_)
                      obtain ⟨x162, hx163, hm⟩ := bndE hm
                      refine OW.cons (OP.call rfl (x_call (vs := [(.agg #[(.int .i64 a0.Gain), (.int .i64 a0.Step), (.int .i64 a0.Low), (.int .i64 a0.High)])]) Try_C27 ⟨rfl, trivial⟩) (M.laws_toProgressRules_ok _ a0 hx163) ?_)
                      rintro e164 wd165 ⟨rfl, hF166⟩
                      refine ⟨_, rfl, ?_⟩
                      have hL := hL.pushAll hF166
                      simp only [lA, lB, lC, lD] at hL
                      refine OW.cons (OP.val (v := (.int .i64 a1)) rfl (x_mv f139) ?_)
                      refine OW.cons (OP.val (v := v1) rfl (x_mv f140) ?_)
                      obtain ⟨x167, hx168, hm⟩ := bndE hm
                      refine OW.cons (OP.call rfl (x_call (vs := [v1]) Try_C43 ⟨rfl, trivial⟩) (M.laws_toFinishSS_ok _ a2 (hL.rdS 3 rfl h2) hx168) ?_)
                      rintro e171 wd172 ⟨v170, S169, rfl, hF173⟩
                      refine ⟨_, rfl, ?_⟩
                      have hL := hL.pushAll hF173
                      simp only [lA, lB, lC, lD] at hL
                      refine OW.cons (OP.val (v := v3) rfl (x_mv f141) ?_)
                      obtain ⟨x174, hx175, hm⟩ := bndE hm
                      refine OW.cons (OP.call rfl (x_call (vs := [v3]) Try_C15 ⟨rfl, trivial⟩) (M.laws_toRatingS_ok _ a3 (hL.rdS 4 rfl h4) hx175) ?_)
                      rintro e178 wd179 ⟨v177, S176, rfl, hF180⟩
                      refine ⟨_, rfl, ?_⟩
                      have hL := hL.pushAll hF180
                      simp only [lA, lB, lC, lD] at hL
                      refine OW.cons (OP.val (v := (.int .i64 a4)) rfl (x_mv f142) ?_)
                      obtain ⟨x181, hx182, hm⟩ := bndE hm
                      refine OW.cons (OP.call rfl (x_call (vs := [(.agg #[(.int .i64 x162.Gain), (.int .i64 x162.Step), (.int .i64 x162.Low), (.int .i64 x162.High)]), (.int .i64 a1), v170, v177, (.int .i64 a4)]) Try_C40 ⟨rfl, rfl, rfl, rfl, rfl, trivial⟩) (M.impl_FactorHistory_ok _ x162 a1 x167 (hL.rdO 1 rfl) x174 (hL.rdO 0 rfl) a4 hx182) ?_)
                      rintro e185 wd186 ⟨v184, S183, rfl, hF187⟩
                      refine ⟨_, rfl, ?_⟩
                      have hL := hL.pushAll hF187
                      simp only [lA, lB, lC, lD] at hL
                      refine OW.cons (OP.val (v := (.tuple #[v184, (.int .i64 x181.2)])) rfl (x_move) ?_)
                      refine OW.cons (OP.val (v := v184) rfl (x_extract rfl rfl) ?_)
                      refine OW.cons (OP.val (v := (.int .i64 x181.2)) rfl (x_extract rfl rfl) ?_)
                      refine OW.cons (OP.val (v := v184) rfl (x_assign) ?_)
                      refine OW.cons (OP.val (v := (.int .i64 x181.2)) rfl (x_assign) ?_)
                      refine OW.nil ?_
                      refine CW.seq ?_
                      refine CW.seqJ (fun (s_j3 : Bool) (F : Fr) (w : World) => F 16 = v67 ∧ F 19 = (.int .i64 x149.1) ∧ F 128 = (.bool s_j3) ∧ Hp w0 [Ent.own 2 S154 v67 x149.2, Ent.blk b6 43 #[(.int .i64 a0.Gain), (.int .i64 a0.Step), (.int .i64 a0.Low), (.int .i64 a0.High)], Ent.snap w0 w0.heap.size] w) (fun s_j3 => M.laws_FnExactFactorHistory_j3 x149 s_j3 = some r) ?_ ?_
                      · refine CW.regionL ?_
                        refine OW.cons (OP.val (v := v184) rfl (x_move) ?_)
                        refine OW.cons (OP.val (v := v41) rfl (x_mv f144) ?_)
                        obtain ⟨x207, hx208, hm⟩ := bndE hm
                        refine OW.cons (OP.call rfl (x_call (vs := [v184, v41]) Try_C21 ⟨rfl, rfl, trivial⟩) (M.laws_eqInt64S_ok _ x181.1 (hL.rdO 0 rfl) x38.1 (hL.rdO 4 rfl) hx208) ?_)
                        rintro e209 wd210 ⟨rfl, hF211⟩
                        refine ⟨_, rfl, ?_⟩
                        have hL := hL.pushAll hF211
                        simp only [lA, lB, lC, lD] at hL
                        refine OW.cons (OP.val (v := (.bool (!x207))) rfl (x_not rfl) ?_)
                        refine OW.cons (OP.val (v := (.bool (!x207))) rfl (x_move) ?_)
                        refine ifB_elim hm (fun hb212 hm => ?_) (fun hb212 hm => ?_)
                        · refine OW.cons (OP.no' rfl rfl hb212 rfl ?_)
                          refine OW.cons (OP.no' rfl rfl hb212 rfl ?_)
                          refine OW.cons (OP.no' rfl rfl hb212 rfl ?_)
                          refine OW.cons (OP.val (v := (.bool true)) rfl (x_pickT' rfl hb212 rfl) ?_)
                          refine OW.nil ?_
                          have hL := hL.sel [3, 5, 6] (by decide) rfl
                          exact ⟨true, hm, ⟨f146, rfl, rfl, hL⟩⟩
                        · refine OW.cons (OP.yes' rfl rfl hb212 (OP.val (v := (.int .i64 x181.2)) rfl (x_move) ?_))
                          refine OW.cons (OP.yes' rfl rfl hb212 (OP.val (v := (.int .i64 x38.2)) rfl (x_mv f145) ?_))
                          refine OW.cons (OP.yes' rfl rfl hb212 (OP.val (v := (.bool (x181.2 != x38.2))) rfl (x_neq rfl rfl) ?_))
                          refine OW.cons (OP.val (v := (.bool (x181.2 != x38.2))) rfl (x_pickF' rfl hb212 rfl) ?_)
                          refine OW.nil ?_
                          have hL := hL.sel [3, 5, 6] (by decide) rfl
                          exact ⟨x181.2 != x38.2, hm, ⟨f146, rfl, rfl, hL⟩⟩
                      · intro s_j3 F194 wd195 hJ hm
                        unfold M.laws_FnExactFactorHistory_j3 at hm
                        obtain ⟨f196, f197, f198, hL⟩ := hJ
                        refine CW.condM (t := s_j3) f198 hm (fun hb199 hm => ?_) (fun hb199 hm => ?_)
                        · refine CW.seq ?_
                          refine CW.regionL ?_
                          refine OW.cons (OP.val (v := (.bool false)) rfl (x_assign) ?_)
                          refine OW.nil ?_
                          refine CW.ret ?_
                          obtain rfl := Option.some.inj hm
                          exact RR1 rfl rfl ⟨rfl, hL.fresh 2 rfl [] (by decide) (by decide) rfl⟩
                        · refine CW.skip ?_
                          refine CW.seq ?_
                          refine CW.regionL ?_
                          refine OW.cons (OP.val (v := (.int .i64 1)) rfl (x_assign) ?_)
                          refine OW.nil ?_
                          refine CW.seq ?_
                          refine CW.regionL ?_
                          refine OW.cons (OP.val (v := v67) rfl (x_mv f196) ?_)
                          refine OW.cons (OP.val (v := (.int .i64 1)) rfl (x_move) ?_)
                          obtain ⟨x200, hx201, hm⟩ := bndE hm
                          refine OW.cons (OP.call rfl (x_call (vs := [v67, (.int .i64 1)]) Try_C25 ⟨rfl, rfl, trivial⟩) (M.laws_heldInt64S_ok _ x149.2 (hL.rdO 0 rfl) 1 hx201) ?_)
                          rintro e202 wd203 ⟨rfl, hF204⟩
                          refine ⟨_, rfl, ?_⟩
                          have hL := hL.pushAll hF204
                          simp only [lA, lB, lC, lD] at hL
                          refine OW.cons (OP.val (v := (.int .i64 x200)) rfl (x_assign) ?_)
                          refine OW.nil ?_
                          refine CW.seq ?_
                          refine CW.seq ?_
                          refine CW.regionL ?_
                          refine OW.cons (OP.val (v := (.int .i64 x200)) rfl (x_move) ?_)
                          refine OW.cons (OP.val (v := (.bool (decide (x200 < 0)))) rfl (x_lss rfl rfl) ?_)
                          refine OW.nil ?_
                          refine CW.condM (t := decide (x200 < 0)) rfl hm (fun hb205 hm => ?_) (fun hb205 hm => ?_)
                          · refine CW.seq ?_
                            refine CW.regionL ?_
                            refine OW.cons (OP.val (v := (.bool false)) rfl (x_assign) ?_)
                            refine OW.nil ?_
                            refine CW.ret ?_
                            obtain rfl := Option.some.inj hm
                            exact RR1 rfl rfl ⟨rfl, hL.fresh 2 rfl [] (by decide) (by decide) rfl⟩
                          · refine CW.skip ?_
                            refine CW.seq ?_
                            refine CW.seq ?_
                            refine CW.regionL ?_
                            refine OW.cons (OP.val (v := (.int .i64 x200)) rfl (x_move) ?_)
                            refine OW.cons (OP.val (v := (.int .i64 x149.1)) rfl (x_mv f197) ?_)
                            refine OW.cons (OP.val (v := (.bool (x200 != x149.1))) rfl (x_neq rfl rfl) ?_)
                            refine OW.nil ?_
                            refine CW.condM (t := x200 != x149.1) rfl hm (fun hb206 hm => ?_) (fun hb206 hm => ?_)
                            · refine CW.seq ?_
                              refine CW.regionL ?_
                              refine OW.cons (OP.val (v := (.bool false)) rfl (x_assign) ?_)
                              refine OW.nil ?_
                              refine CW.ret ?_
                              obtain rfl := Option.some.inj hm
                              exact RR1 rfl rfl ⟨rfl, hL.fresh 2 rfl [] (by decide) (by decide) rfl⟩
                            · refine CW.skip ?_
                              refine CW.seq ?_
                              refine CW.regionL ?_
                              refine OW.cons (OP.val (v := (.bool true)) rfl (x_assign) ?_)
                              refine OW.nil ?_
                              refine CW.ret ?_
                              obtain rfl := Option.some.inj hm
                              exact RR1 rfl rfl ⟨rfl, hL.fresh 2 rfl [] (by decide) (by decide) rfl⟩

end Go.Proofs.Ytbkpfcpbpnmjaaa
