/- Links: each Go function returns what its model computes and leaves what was there. Printed by my generator. -/
import Derived.Test.YtbkpfcpbpnmjaaaLnkFnExactProgressRaceA
namespace Go.Proofs.Ytbkpfcpbpnmjaaa
set_option maxRecDepth 10000
open Go Go.RowKit Go.ChangeShapes Go.WideShapes
set_option linter.unusedVariables false
set_option linter.unusedSimpArgs false

theorem M.impl_progressRace_ok (w0 : World) (a0 : ProgressRules) (a1 : List Finish) {v1 : Value} (h2 : rdL (· < w0.heap.size) w0 v1 a1) (a2 : List Rating) {v3 : Value} (h4 : rdL (· < w0.heap.size) w0 v3 a2) {r : (List Rating)} (hm : M.impl_progressRace a0 a1 a2 = some r) :
    Calls Try.prog 60 #[(.agg #[(.int .i64 a0.Gain), (.int .i64 a0.Step), (.int .i64 a0.Low), (.int .i64 a0.High)]), v1, v3] w0 fun e w' => ∃ (rv0 : Value) (rS0 : Nat → Prop), e = .returned rv0 ∧ Fresh w0 w' [Ent.own 61 rS0 rv0 r] := by
  unfold M.impl_progressRace at hm
  refine calls_CW (args := [(.agg #[(.int .i64 a0.Gain), (.int .i64 a0.Step), (.int .i64 a0.Low), (.int .i64 a0.High)]), v1, v3]) Try.func60 rfl rfl rfl ?_
  have hL := Hp.start w0
  refine CW.seq ?_
  refine CW.regionL ?_
  refine OW.cons (S_box (cs := #[(.int .i64 a0.Gain), (.int .i64 a0.Step), (.int .i64 a0.Low), (.int .i64 a0.High)]) hL rfl rfl rfl ?_)
  intro wd5 b6 hL
  refine OW.cons (OP.val (v := (.slice none 0 0)) rfl (x_assign) ?_)
  refine OW.nil ?_
  refine CW.seq ?_
  refine CW.regionL ?_
  refine OW.cons (OP.val (v := v3) rfl (x_move) ?_)
  obtain ⟨x7, hx8, hm⟩ := bndE hm
  refine OW.cons (OP.call rfl (x_call (vs := [v3]) Try_C83 ⟨rfl, trivial⟩) (M.slices_Clone___impl_Rating_impl_Rating__ok _ a2 (hL.rdS 1 rfl h4) hx8) ?_)
  rintro e11 wd12 ⟨v10, S9, rfl, hF13⟩
  refine ⟨_, rfl, ?_⟩
  have hL := hL.pushAll hF13
  simp only [lA, lB, lC, lD] at hL
  refine OW.cons (OP.val (v := v1) rfl (x_move) ?_)
  refine OW.cons (OP.val (v := v3) rfl (x_move) ?_)
  obtain ⟨x14, hx15, hm⟩ := bndE hm
  refine OW.cons (OP.call rfl (x_call (vs := [v1, v3]) Try_C52 ⟨rfl, rfl, trivial⟩) (M.impl_parTime_ok _ a1 (hL.rdS 2 rfl h2) a2 (hL.rdS 2 rfl h4) hx15) ?_)
  rintro e16 wd17 ⟨rfl, hF18⟩
  refine ⟨_, rfl, ?_⟩
  have hL := hL.pushAll hF18
  simp only [lA, lB, lC, lD] at hL
  refine OW.cons (OP.val (v := v10) rfl (x_assign) ?_)
  refine OW.cons (OP.val (v := (.int .i64 x14)) rfl (x_assign) ?_)
  refine OW.cons (OP.val (v := (.int .i64 0)) rfl (x_assign) ?_)
  refine OW.nil ?_
  refine CW.seq ?_
  refine CW.seq ?_
  refine CW.regionL ?_
  refine OW.cons (OP.val (v := v1) rfl (x_move) ?_)
  refine OW.cons (OP.val (v := (.int .i64 (a1.length : Int))) rfl (x_lenR Try.underlying28 rfl (hL.rdS 2 rfl h2)) ?_)
  refine OW.cons (OP.val (v := (.int .i64 0)) rfl (x_move) ?_)
  refine OW.nil ?_
  obtain ⟨o171, ho172, hm⟩ := bndE hm
  refine CW.loopB (fun (s_l1 : Int × Int) (F : Fr) (w : World) => F 1 = v1 ∧ F 3 = (.pointer (some ⟨b6, 0, none⟩)) ∧ F 7 = v10 ∧ F 8 = (.int .i64 x14) ∧ F 9 = (.int .i64 s_l1.1) ∧ F 19 = v1 ∧ F 20 = (.int .i64 (a1.length : Int)) ∧ F 21 = (.int .i64 s_l1.2) ∧ Hp w0 [Ent.own 61 S9 v10 x7, Ent.blk b6 46 #[(.int .i64 a0.Gain), (.int .i64 a0.Step), (.int .i64 a0.Low), (.int .i64 a0.High)], Ent.snap w0 w0.heap.size] w) (fun o => outc o (fun x => some x) (fun s => M.impl_progressRace_a1 a0 a1 x7 x14 s) = some r) ho172 hm ⟨rfl, rfl, rfl, rfl, rfl, rfl, rfl, rfl, hL⟩ ?_ ?_
  · intro s_l1 F173 wd174 hJ hm
    have hm := outcE hm
    have hm : M.impl_progressRace_a1 a0 a1 x7 x14 s_l1 = some r := hm
    unfold M.impl_progressRace_a1 at hm
    obtain ⟨f175, f176, f177, f178, f179, f180, f181, f182, hL⟩ := hJ
    refine CW.seq ?_
    refine CW.seq ?_
    refine CW.regionL ?_
    refine OW.cons (OP.val (v := v1) rfl (x_mv f175) ?_)
    refine OW.cons (OP.val (v := (.int .i64 (a1.length : Int))) rfl (x_lenR Try.underlying28 rfl (hL.rdS 2 rfl h2)) ?_)
    refine OW.cons (OP.val (v := (.int .i64 0)) rfl (x_move) ?_)
    refine OW.nil ?_
    obtain ⟨o1009, ho1010, hm⟩ := bndE hm
    refine CW.loopB (fun (s_l2 : (List Rating) × Int) (F : Fr) (w : World) => ∃ (S1006 : Nat → Prop), F 3 = (.pointer (some ⟨b6, 0, none⟩)) ∧ F 7 = v10 ∧ F 8 = (.int .i64 x14) ∧ F 9 = (.int .i64 s_l1.1) ∧ F 31 = v1 ∧ F 32 = (.int .i64 (a1.length : Int)) ∧ F 33 = (.int .i64 s_l2.2) ∧ Hp w0 [Ent.own 61 S1006 v10 s_l2.1, Ent.blk b6 46 #[(.int .i64 a0.Gain), (.int .i64 a0.Step), (.int .i64 a0.Low), (.int .i64 a0.High)], Ent.snap w0 w0.heap.size] w) (fun o => outc o (fun x => some x) (fun s => M.impl_progressRace_a2 s) = some r) ho1010 hm ⟨S9, f176, f177, f178, f179, rfl, rfl, rfl, hL⟩ ?_ ?_
    · intro s_l2 F1011 wd1012 hJ hm
      have hm := outcE hm
      have hm : M.impl_progressRace_a2 s_l2 = some r := hm
      unfold M.impl_progressRace_a2 at hm
      obtain ⟨S1006, f1013, f1014, f1015, f1016, f1017, f1018, f1019, hL⟩ := hJ
      refine CW.seq ?_
      refine CW.regionL ?_
      refine OW.cons (OP.val (v := v10) rfl (x_mv f1014) ?_)
      refine OW.cons (OP.val (v := v10) rfl (x_assign) ?_)
      refine OW.nil ?_
      refine CW.ret ?_
      obtain rfl := Option.some.inj hm
      exact RR1 rfl rfl ⟨v10, S1006, rfl, hL.fresh 2 rfl [0] (by decide) (by decide) rfl⟩
    · intro s_l2 F1020 wd1021 t1007 hJ hm hr1008
      unfold M.impl_progressRace_l2 at hm
      obtain ⟨S1006, f1022, f1023, f1024, f1025, f1026, f1027, f1028, hL⟩ := hJ
      refine CW.seq ?_
      refine CW.regionL ?_
      refine OW.cons (OP.val (v := (.bool (decide (s_l2.2 < (a1.length : Int))))) rfl (x_lss f1028 f1027) ?_)
      refine OW.nil ?_
      refine CW.seq ?_
      refine CW.condM (t := decide (s_l2.2 < (a1.length : Int))) rfl hm (fun hb1029 hm => ?_) (fun hb1029 hm => ?_)
      · refine CW.skip ?_
        refine CW.seqJ (fun (s_j1 : (List Rating)) (F : Fr) (w : World) => ∃ (S1230 : Nat → Prop), F 3 = (.pointer (some ⟨b6, 0, none⟩)) ∧ F 7 = v10 ∧ F 8 = (.int .i64 x14) ∧ F 9 = (.int .i64 s_l1.1) ∧ F 31 = v1 ∧ F 32 = (.int .i64 (a1.length : Int)) ∧ F 33 = (.int .i64 s_l2.2) ∧ Hp w0 [Ent.own 61 S1230 v10 s_j1, Ent.blk b6 46 #[(.int .i64 a0.Gain), (.int .i64 a0.Step), (.int .i64 a0.Low), (.int .i64 a0.High)], Ent.snap w0 w0.heap.size] w) (fun s_j1 => M.impl_progressRace_j1 s_l2 s_j1 = some t1007) ?_ ?_
        · refine CW.blockJ (fun (s_j2 : (List Rating)) (F : Fr) (w : World) => ∃ (S1335 : Nat → Prop), F 3 = (.pointer (some ⟨b6, 0, none⟩)) ∧ F 7 = v10 ∧ F 8 = (.int .i64 x14) ∧ F 9 = (.int .i64 s_l1.1) ∧ F 31 = v1 ∧ F 32 = (.int .i64 (a1.length : Int)) ∧ F 33 = (.int .i64 s_l2.2) ∧ Hp w0 [Ent.own 61 S1335 v10 s_j2, Ent.blk b6 46 #[(.int .i64 a0.Gain), (.int .i64 a0.Step), (.int .i64 a0.Low), (.int .i64 a0.High)], Ent.snap w0 w0.heap.size] w) (fun s_j2 => M.impl_progressRace_j2 s_l2 s_j2 = some t1007) ?_ ?_
          · refine CW.seq ?_
            refine CW.regionL ?_
            refine OW.cons (OP.val (v := (.int .i64 s_l2.2)) rfl (x_mv f1028) ?_)
            obtain ⟨x1345, ha1346, hm⟩ := bndE hm
            obtain ⟨hz1347, ha1351⟩ := idxE ha1346
            obtain ⟨b1348, q1349, hix1350⟩ := rdL_ix (hL.rdS 2 rfl h2) hz1347 ha1351
            refine OW.cons (OP.val (v := (.pointer (some ⟨b1348, q1349, none⟩))) rfl (x_ix Try.underlying28 Try_T56 f1026 f1028 hix1350) ?_)
            refine OW.cons (OP.val (v := (.agg #[(.int .i64 x1345.Boat), (.int .i64 x1345.Code), (.int .i64 x1345.Time)])) rfl (x_loadN (cs := [(.int .i64 x1345.Boat), (.int .i64 x1345.Code), (.int .i64 x1345.Time)]) Try.underlying56 Try_T56 rfl rfl (rdF_cells (hL.rdS 2 rfl h2) hix1350 ha1351)) ?_)
            refine OW.cons (S_alloc (cs := #[(.int .i64 0), (.int .i64 0), (.int .i64 0)]) hL Try_T56 rfl rfl ?_)
            intro wd1352 b1353 hL
            refine OW.cons (OP.val (v := (.int .i64 s_l2.2)) rfl (x_assign) ?_)
            refine OW.cons (S_storeN (l := [(.int .i64 x1345.Boat), (.int .i64 x1345.Code), (.int .i64 x1345.Time)]) (cs' := #[(.int .i64 x1345.Boat), (.int .i64 x1345.Code), (.int .i64 x1345.Time)]) hL 0 rfl Try_T56 rfl rfl (List.forall_mem_cons.2 ⟨rfl, (List.forall_mem_cons.2 ⟨rfl, (List.forall_mem_cons.2 ⟨rfl, (fun _ h => by cases h)⟩)⟩)⟩) rfl (Nat.le_of_ble_eq_true rfl) rfl ?_)
            intro wd1354 hL
            refine OW.nil ?_
            refine CW.seqJ (fun (s_j3 : Bool) (F : Fr) (w : World) => F 3 = (.pointer (some ⟨b6, 0, none⟩)) ∧ F 7 = v10 ∧ F 8 = (.int .i64 x14) ∧ F 9 = (.int .i64 s_l1.1) ∧ F 12 = (.int .i64 s_l2.2) ∧ F 13 = (.pointer (some ⟨b1353, 0, none⟩)) ∧ F 31 = v1 ∧ F 32 = (.int .i64 (a1.length : Int)) ∧ F 33 = (.int .i64 s_l2.2) ∧ F 44 = (.bool s_j3) ∧ Hp w0 [Ent.blk b1353 56 #[(.int .i64 x1345.Boat), (.int .i64 x1345.Code), (.int .i64 x1345.Time)], Ent.own 61 S1006 v10 s_l2.1, Ent.blk b6 46 #[(.int .i64 a0.Gain), (.int .i64 a0.Step), (.int .i64 a0.Low), (.int .i64 a0.High)], Ent.snap w0 w0.heap.size] w) (fun s_j3 => M.impl_progressRace_j3 a0 x14 s_l2 x1345 s_j3 = some t1007) ?_ ?_
            · refine CW.regionL ?_
              refine OW.cons (OP.val (v := (.int .i64 s_l1.1)) rfl (x_mv f1025) ?_)
              refine OW.cons (OP.val (v := (.bool (decide (1 < s_l1.1)))) rfl (x_gtr rfl rfl) ?_)
              refine OW.cons (OP.val (v := (.bool (decide (1 < s_l1.1)))) rfl (x_move) ?_)
              refine ifB_elim hm (fun hb1439 hm => ?_) (fun hb1439 hm => ?_)
              · refine OW.cons (OP.yes' rfl rfl hb1439 (OP.val (v := (.pointer (some ⟨b1353, 1, none⟩))) rfl (x_fieldAddr (fsz := 1) 0 1 1 Try.underlying56 rfl Try_T2 rfl rfl rfl) ?_))
                refine OW.cons (OP.yes' rfl rfl hb1439 (OP.val (v := (.int .i64 x1345.Code)) rfl (x_load1 Try.underlying2 rfl rfl (hL.cellB 0 rfl rfl)) ?_))
                refine OW.cons (OP.yes' rfl rfl hb1439 (OP.val (v := (.bool (x1345.Code == 0))) rfl (x_eql rfl rfl) ?_))
                refine OW.cons (OP.val (v := (.bool (x1345.Code == 0))) rfl (x_pickT' rfl hb1439 rfl) ?_)
                refine OW.nil ?_
                exact ⟨x1345.Code == 0, hm, ⟨f1022, f1023, f1024, f1025, rfl, rfl, f1026, f1027, f1028, rfl, hL⟩⟩
              · refine OW.cons (OP.no' rfl rfl hb1439 rfl ?_)
                refine OW.cons (OP.no' rfl rfl hb1439 rfl ?_)
                refine OW.cons (OP.no' rfl rfl hb1439 rfl ?_)
                refine OW.cons (OP.val (v := (.bool false)) rfl (x_pickF' rfl hb1439 rfl) ?_)
                refine OW.nil ?_
                exact ⟨false, hm, ⟨f1022, f1023, f1024, f1025, rfl, rfl, f1026, f1027, f1028, rfl, hL⟩⟩
            · intro s_j3 F1356 wd1357 hJ hm
              unfold M.impl_progressRace_j3 at hm
              obtain ⟨f1358, f1359, f1360, f1361, f1362, f1363, f1364, f1365, f1366, f1367, hL⟩ := hJ
              refine CW.condM (t := s_j3) f1367 hm (fun hb1368 hm => ?_) (fun hb1368 hm => ?_)
              · refine CW.drawH (fun w' => Hp w0 [Ent.blk b1353 56 #[(.int .i64 x1345.Boat), (.int .i64 x1345.Code), (.int .i64 x1345.Time)], Ent.blk b6 46 #[(.int .i64 a0.Gain), (.int .i64 a0.Step), (.int .i64 a0.Low), (.int .i64 a0.High)], Ent.snap w0 w0.heap.size] w') Try_mixed ?_
                have hL := hL.call (Mod.drew _)
                have hS := (hL.sel [0, 2, 3] (by decide) rfl)
                refine DH.take 0 rfl (by kernel_rfl) (by kernel_rfl) (by kernel_rfl) rfl rfl hS (YH.val (v := v10) (fun w' hS' => x_mv f1359)) ?_
                have hS := (hL.sel [0, 2, 3] (by decide) rfl)
                refine DH.take 1 rfl (by kernel_rfl) (by kernel_rfl) (by kernel_rfl) rfl rfl hS (YH.val (v := (.int .i64 s_l2.2)) (fun w' hS' => x_mv f1362)) ?_
                have hS := (hL.sel [0, 2, 3] (by decide) rfl)
                refine DH.take 2 rfl (by kernel_rfl) (by kernel_rfl) (by kernel_rfl) rfl rfl hS (YH.val (v := (.agg #[(.int .i64 a0.Gain), (.int .i64 a0.Step), (.int .i64 a0.Low), (.int .i64 a0.High)])) (fun w' hS' => x_loadN (cs := [(.int .i64 a0.Gain), (.int .i64 a0.Step), (.int .i64 a0.Low), (.int .i64 a0.High)]) Try.underlying46 Try_T46 rfl f1358 (hS'.cellsB 1 rfl (o := 0) (l := [(.int .i64 a0.Gain), (.int .i64 a0.Step), (.int .i64 a0.Low), (.int .i64 a0.High)]) (by intro j u hj; exact (by simpa using hj))))) ?_
                have hS := (hL.sel [0, 2, 3] (by decide) rfl)
                refine DH.take 3 rfl (by kernel_rfl) (by kernel_rfl) (by kernel_rfl) rfl rfl hS (YH.val (v := v10) (fun w' hS' => x_mv f1359)) ?_
                have hS := (hL.sel [0, 2, 3] (by decide) rfl)
                refine DH.take 4 rfl (by kernel_rfl) (by kernel_rfl) (by kernel_rfl) rfl rfl hS (YH.val (v := (.int .i64 s_l2.2)) (fun w' hS' => x_mv f1362)) ?_
                have hS := (hL.sel [0, 2, 3] (by decide) rfl)
                obtain ⟨x1394, ha1395, hm⟩ := bndE hm
                obtain ⟨hz1396, ha1400⟩ := idxE ha1395
                obtain ⟨b1397, q1398, hix1399⟩ := rdL_ix (hL.rdO 1 rfl) hz1396 ha1400
                refine DH.take 5 rfl (by kernel_rfl) (by kernel_rfl) (by kernel_rfl) rfl rfl hS (YH.val (v := (.pointer (some ⟨b1397, q1398, none⟩))) (fun w' hS' => x_ix Try.underlying30 Try_T61 rfl rfl hix1399)) ?_
                have hS := (hL.sel [0, 2, 3] (by decide) rfl)
                refine DH.take 6 rfl (by kernel_rfl) (by kernel_rfl) (by kernel_rfl) rfl rfl hS (YH.val (v := (.pointer (some ⟨b1397, q1398 + 1, none⟩))) (fun w' hS' => x_fieldAddr (fsz := 1) q1398 1 (q1398 + 1) Try.underlying61 rfl Try_T2 rfl rfl rfl)) ?_
                have hS := (hL.sel [0, 2, 3] (by decide) rfl)
                refine DH.take 8 rfl (by kernel_rfl) (by kernel_rfl) (by kernel_rfl) rfl rfl hS (YH.val (v := (.int .i64 x14)) (fun w' hS' => x_mv f1360)) ?_
                have hS := (hL.sel [0, 2, 3] (by decide) rfl)
                refine DH.take 9 rfl (by kernel_rfl) (by kernel_rfl) (by kernel_rfl) rfl rfl hS (YH.val (v := (.pointer (some ⟨b1353, 2, none⟩))) (fun w' hS' => x_fieldAddr (fsz := 1) 0 2 2 Try.underlying56 rfl Try_T2 rfl f1363 rfl)) ?_
                have hS := (hL.sel [0, 2, 3] (by decide) rfl)
                refine DH.take 10 rfl (by kernel_rfl) (by kernel_rfl) (by kernel_rfl) rfl rfl hS (YH.val (v := (.int .i64 x1345.Time)) (fun w' hS' => x_load1 Try.underlying2 rfl rfl (hS'.cellB 0 rfl rfl))) ?_
                refine DH.all (rs := [7, 11]) (by kernel_rfl) (by simp) ?_
                intro i1401 hi1402
                simp only [List.mem_cons, List.not_mem_nil, or_false] at hi1402
                rcases hi1402 with rfl | rfl
                · refine ⟨_, rfl, ?_⟩
                  refine OP.val (v := (.int .i64 x1394.Value)) rfl (x_load1 Try.underlying2 rfl rfl (rdF_cells (hL.rdO 1 rfl) hix1399 ha1400 1 _ rfl)) ?_
                  refine ⟨(hL.sel [0, 2, 3] (by decide) rfl), ?_⟩
                  obtain ⟨x1403, hx1404, hm⟩ := bndE hm
                  refine DH.only 11 rfl (by kernel_rfl) (OP.call rfl (x_call (vs := [(.int .i64 x14), (.int .i64 x1345.Time)]) Try_C56 ⟨rfl, rfl, trivial⟩) (M.impl_parFactor_ok _ x14 x1345.Time hx1404) ?_)
                  rintro e1405 wd1406 ⟨rfl, hF1407⟩
                  refine ⟨_, rfl, ?_⟩
                  have hL := hL.pushAll hF1407
                  simp only [lA, lB, lC, lD] at hL
                  refine ⟨(hL.sel [0, 2, 3] (by decide) rfl), ?_⟩
                  obtain ⟨x1408, hx1409, hm⟩ := bndE hm
                  refine DH.only 12 rfl (by kernel_rfl) (OP.call rfl (x_call (vs := [(.agg #[(.int .i64 a0.Gain), (.int .i64 a0.Step), (.int .i64 a0.Low), (.int .i64 a0.High)]), (.int .i64 x1394.Value), (.int .i64 x1403)]) Try_C69 ⟨rfl, rfl, rfl, trivial⟩) (M.impl_progress_ok _ a0 x1394.Value x1403 hx1409) ?_)
                  rintro e1410 wd1411 ⟨rfl, hF1412⟩
                  refine ⟨_, rfl, ?_⟩
                  have hL := hL.pushAll hF1412
                  simp only [lA, lB, lC, lD] at hL
                  refine ⟨(hL.sel [0, 2, 3] (by decide) rfl), ?_⟩
                  have hS := (hL.sel [0, 2, 3] (by decide) rfl)
                  obtain ⟨x1413, ha1414, hm⟩ := bndE hm
                  obtain ⟨hz1415, ha1419⟩ := idxE ha1414
                  obtain ⟨b1416, q1417, hix1418⟩ := rdL_ix (hL.rdO 1 rfl) hz1415 ha1419
                  refine DH.take 13 rfl (by kernel_rfl) (by kernel_rfl) (by kernel_rfl) rfl rfl hS (YH.val (v := (.pointer (some ⟨b1416, q1417, none⟩))) (fun w' hS' => x_ix Try.underlying30 Try_T61 rfl rfl hix1418)) ?_
                  have hS := (hL.sel [0, 2, 3] (by decide) rfl)
                  refine DH.take 14 rfl (by kernel_rfl) (by kernel_rfl) (by kernel_rfl) rfl rfl hS (YH.val (v := (.pointer (some ⟨b1416, q1417 + 1, none⟩))) (fun w' hS' => x_fieldAddr (fsz := 1) q1417 1 (q1417 + 1) Try.underlying61 rfl Try_T2 rfl rfl rfl)) ?_
                  refine DH.only 15 rfl (by kernel_rfl) (S_storeX (j := 1) (Rating.mk x1413.Boat x1408) hL 1 rfl Try_T2 hix1418 ha1419 rfl rfl rfl rfl rfl rfl ?_)
                  intro wd1420 hL
                  refine ⟨(hL.sel [0, 2, 3] (by decide) rfl), ?_⟩
                  refine DH.done (by kernel_rfl) ?_
                  have hL := hL.sel [1, 2, 3] (by decide) rfl
                  exact ⟨s_l2.1.set (s_l2.2 : Int).toNat (Rating.mk x1413.Boat x1408), hm, ⟨S1006, f1358, f1359, f1360, f1361, f1364, f1365, f1366, hL⟩⟩
                · refine ⟨_, rfl, ?_⟩
                  obtain ⟨x1421, hx1422, hm⟩ := bndE hm
                  refine OP.call rfl (x_call (vs := [(.int .i64 x14), (.int .i64 x1345.Time)]) Try_C56 ⟨rfl, rfl, trivial⟩) (M.impl_parFactor_ok _ x14 x1345.Time hx1422) ?_
                  rintro e1423 wd1424 ⟨rfl, hF1425⟩
                  refine ⟨_, rfl, ?_⟩
                  have hL := hL.pushAll hF1425
                  simp only [lA, lB, lC, lD] at hL
                  refine ⟨(hL.sel [0, 2, 3] (by decide) rfl), ?_⟩
                  refine DH.only 7 rfl (by kernel_rfl) (OP.val (v := (.int .i64 x1394.Value)) rfl (x_load1 Try.underlying2 rfl rfl (rdF_cells (hL.rdO 1 rfl) hix1399 ha1400 1 _ rfl)) ?_)
                  refine ⟨(hL.sel [0, 2, 3] (by decide) rfl), ?_⟩
                  obtain ⟨x1426, hx1427, hm⟩ := bndE hm
                  refine DH.only 12 rfl (by kernel_rfl) (OP.call rfl (x_call (vs := [(.agg #[(.int .i64 a0.Gain), (.int .i64 a0.Step), (.int .i64 a0.Low), (.int .i64 a0.High)]), (.int .i64 x1394.Value), (.int .i64 x1421)]) Try_C69 ⟨rfl, rfl, rfl, trivial⟩) (M.impl_progress_ok _ a0 x1394.Value x1421 hx1427) ?_)
                  rintro e1428 wd1429 ⟨rfl, hF1430⟩
                  refine ⟨_, rfl, ?_⟩
                  have hL := hL.pushAll hF1430
                  simp only [lA, lB, lC, lD] at hL
                  refine ⟨(hL.sel [0, 2, 3] (by decide) rfl), ?_⟩
                  have hS := (hL.sel [0, 2, 3] (by decide) rfl)
                  obtain ⟨x1431, ha1432, hm⟩ := bndE hm
                  obtain ⟨hz1433, ha1437⟩ := idxE ha1432
                  obtain ⟨b1434, q1435, hix1436⟩ := rdL_ix (hL.rdO 1 rfl) hz1433 ha1437
                  refine DH.take 13 rfl (by kernel_rfl) (by kernel_rfl) (by kernel_rfl) rfl rfl hS (YH.val (v := (.pointer (some ⟨b1434, q1435, none⟩))) (fun w' hS' => x_ix Try.underlying30 Try_T61 rfl rfl hix1436)) ?_
                  have hS := (hL.sel [0, 2, 3] (by decide) rfl)
                  refine DH.take 14 rfl (by kernel_rfl) (by kernel_rfl) (by kernel_rfl) rfl rfl hS (YH.val (v := (.pointer (some ⟨b1434, q1435 + 1, none⟩))) (fun w' hS' => x_fieldAddr (fsz := 1) q1435 1 (q1435 + 1) Try.underlying61 rfl Try_T2 rfl rfl rfl)) ?_
                  refine DH.only 15 rfl (by kernel_rfl) (S_storeX (j := 1) (Rating.mk x1431.Boat x1426) hL 1 rfl Try_T2 hix1436 ha1437 rfl rfl rfl rfl rfl rfl ?_)
                  intro wd1438 hL
                  refine ⟨(hL.sel [0, 2, 3] (by decide) rfl), ?_⟩
                  refine DH.done (by kernel_rfl) ?_
                  have hL := hL.sel [1, 2, 3] (by decide) rfl
                  exact ⟨s_l2.1.set (s_l2.2 : Int).toNat (Rating.mk x1431.Boat x1426), hm, ⟨S1006, f1358, f1359, f1360, f1361, f1364, f1365, f1366, hL⟩⟩
              · refine CW.skip ?_
                have hL := hL.sel [1, 2, 3] (by decide) rfl
                exact ⟨s_l2.1, hm, ⟨S1006, f1358, f1359, f1360, f1361, f1364, f1365, f1366, hL⟩⟩
          · intro s_j2 F1336 wd1337 hJ hm
            unfold M.impl_progressRace_j2 at hm
            obtain ⟨S1335, f1338, f1339, f1340, f1341, f1342, f1343, f1344, hL⟩ := hJ
            exact ⟨s_j2, hm, ⟨S1335, f1338, f1339, f1340, f1341, f1342, f1343, f1344, hL⟩⟩
        · intro s_j1 F1231 wd1232 hJ hm
          unfold M.impl_progressRace_j1 at hm
          obtain ⟨S1230, f1233, f1234, f1235, f1236, f1237, f1238, f1239, hL⟩ := hJ
          refine CW.regionL ?_
          refine OW.cons (OP.val (v := (.int .i64 (w64 (s_l2.2 + 1)))) rfl (x_add f1239 rfl) ?_)
          refine OW.cons (OP.val (v := (.int .i64 (w64 (s_l2.2 + 1)))) rfl (x_move) ?_)
          refine OW.nil ?_
          obtain rfl := Option.some.inj hm
          exact ⟨_, rfl, ⟨S1230, f1233, f1234, f1235, f1236, f1237, f1238, rfl, hL⟩⟩
      · refine CW.exit ?_
        refine XJ.hit ?_
        obtain rfl := Option.some.inj hm
        exact ⟨_, rfl, ⟨S1006, f1022, f1023, f1024, f1025, f1026, f1027, f1028, hL⟩⟩
  · intro s_l1 F1440 wd1441 t169 hJ hm hr170
    unfold M.impl_progressRace_l1 at hm
    obtain ⟨f1442, f1443, f1444, f1445, f1446, f1447, f1448, f1449, hL⟩ := hJ
    refine CW.seq ?_
    refine CW.regionL ?_
    refine OW.cons (OP.val (v := (.bool (decide (s_l1.2 < (a1.length : Int))))) rfl (x_lss f1449 f1448) ?_)
    refine OW.nil ?_
    refine CW.seq ?_
    refine CW.condM (t := decide (s_l1.2 < (a1.length : Int))) rfl hm (fun hb1450 hm => ?_) (fun hb1450 hm => ?_)
    · refine CW.skip ?_
      refine CW.seqJ (fun (s_j4 : Int) (F : Fr) (w : World) => F 1 = v1 ∧ F 3 = (.pointer (some ⟨b6, 0, none⟩)) ∧ F 7 = v10 ∧ F 8 = (.int .i64 x14) ∧ F 9 = (.int .i64 s_j4) ∧ F 19 = v1 ∧ F 20 = (.int .i64 (a1.length : Int)) ∧ F 21 = (.int .i64 s_l1.2) ∧ Hp w0 [Ent.own 61 S9 v10 x7, Ent.blk b6 46 #[(.int .i64 a0.Gain), (.int .i64 a0.Step), (.int .i64 a0.Low), (.int .i64 a0.High)], Ent.snap w0 w0.heap.size] w) (fun s_j4 => M.impl_progressRace_j4 s_l1 s_j4 = some t169) ?_ ?_
      · refine CW.blockJ (fun (s_j5 : Int) (F : Fr) (w : World) => F 1 = v1 ∧ F 3 = (.pointer (some ⟨b6, 0, none⟩)) ∧ F 7 = v10 ∧ F 8 = (.int .i64 x14) ∧ F 9 = (.int .i64 s_j5) ∧ F 19 = v1 ∧ F 20 = (.int .i64 (a1.length : Int)) ∧ F 21 = (.int .i64 s_l1.2) ∧ Hp w0 [Ent.own 61 S9 v10 x7, Ent.blk b6 46 #[(.int .i64 a0.Gain), (.int .i64 a0.Step), (.int .i64 a0.Low), (.int .i64 a0.High)], Ent.snap w0 w0.heap.size] w) (fun s_j5 => M.impl_progressRace_j5 s_l1 s_j5 = some t169) ?_ ?_
        · refine CW.seq ?_
          refine CW.regionL ?_
          obtain ⟨x1514, ha1515, hm⟩ := bndE hm
          obtain ⟨hz1516, ha1520⟩ := idxE ha1515
          obtain ⟨b1517, q1518, hix1519⟩ := rdL_ix (hL.rdS 2 rfl h2) hz1516 ha1520
          refine OW.cons (OP.val (v := (.pointer (some ⟨b1517, q1518, none⟩))) rfl (x_ix Try.underlying28 Try_T56 f1447 f1449 hix1519) ?_)
          refine OW.cons (OP.val (v := (.agg #[(.int .i64 x1514.Boat), (.int .i64 x1514.Code), (.int .i64 x1514.Time)])) rfl (x_loadN (cs := [(.int .i64 x1514.Boat), (.int .i64 x1514.Code), (.int .i64 x1514.Time)]) Try.underlying56 Try_T56 rfl rfl (rdF_cells (hL.rdS 2 rfl h2) hix1519 ha1520)) ?_)
          refine OW.cons (S_alloc (cs := #[(.int .i64 0), (.int .i64 0), (.int .i64 0)]) hL Try_T56 rfl rfl ?_)
          intro wd1521 b1522 hL
          refine OW.cons (S_storeN (l := [(.int .i64 x1514.Boat), (.int .i64 x1514.Code), (.int .i64 x1514.Time)]) (cs' := #[(.int .i64 x1514.Boat), (.int .i64 x1514.Code), (.int .i64 x1514.Time)]) hL 0 rfl Try_T56 rfl rfl (List.forall_mem_cons.2 ⟨rfl, (List.forall_mem_cons.2 ⟨rfl, (List.forall_mem_cons.2 ⟨rfl, (fun _ h => by cases h)⟩)⟩)⟩) rfl (Nat.le_of_ble_eq_true rfl) rfl ?_)
          intro wd1523 hL
          refine OW.nil ?_
          refine CW.seq ?_
          refine CW.regionL ?_
          refine OW.cons (OP.val (v := (.pointer (some ⟨b1522, 1, none⟩))) rfl (x_fieldAddr (fsz := 1) 0 1 1 Try.underlying56 rfl Try_T2 rfl rfl rfl) ?_)
          refine OW.cons (OP.val (v := (.int .i64 x1514.Code)) rfl (x_load1 Try.underlying2 rfl rfl (hL.cellB 0 rfl rfl)) ?_)
          refine OW.cons (OP.val (v := (.bool (x1514.Code == 0))) rfl (x_eql rfl rfl) ?_)
          refine OW.nil ?_
          refine CW.condM (t := x1514.Code == 0) rfl hm (fun hb1524 hm => ?_) (fun hb1524 hm => ?_)
          · refine CW.regionL ?_
            refine OW.cons (OP.val (v := (.int .i64 s_l1.1)) rfl (x_mv f1446) ?_)
            refine OW.cons (OP.val (v := (.int .i64 (w64 (s_l1.1 + 1)))) rfl (x_add rfl rfl) ?_)
            refine OW.cons (OP.val (v := (.int .i64 (w64 (s_l1.1 + 1)))) rfl (x_assign) ?_)
            refine OW.nil ?_
            have hL := hL.sel [1, 2, 3] (by decide) rfl
            exact ⟨w64 (s_l1.1 + 1), hm, ⟨f1442, f1443, f1444, f1445, rfl, f1447, f1448, f1449, hL⟩⟩
          · refine CW.skip ?_
            have hL := hL.sel [1, 2, 3] (by decide) rfl
            exact ⟨s_l1.1, hm, ⟨f1442, f1443, f1444, f1445, f1446, f1447, f1448, f1449, hL⟩⟩
        · intro s_j5 F1504 wd1505 hJ hm
          unfold M.impl_progressRace_j5 at hm
          obtain ⟨f1506, f1507, f1508, f1509, f1510, f1511, f1512, f1513, hL⟩ := hJ
          exact ⟨s_j5, hm, ⟨f1506, f1507, f1508, f1509, f1510, f1511, f1512, f1513, hL⟩⟩
      · intro s_j4 F1483 wd1484 hJ hm
        unfold M.impl_progressRace_j4 at hm
        obtain ⟨f1485, f1486, f1487, f1488, f1489, f1490, f1491, f1492, hL⟩ := hJ
        refine CW.regionL ?_
        refine OW.cons (OP.val (v := (.int .i64 (w64 (s_l1.2 + 1)))) rfl (x_add f1492 rfl) ?_)
        refine OW.cons (OP.val (v := (.int .i64 (w64 (s_l1.2 + 1)))) rfl (x_move) ?_)
        refine OW.nil ?_
        obtain rfl := Option.some.inj hm
        exact ⟨_, rfl, ⟨f1485, f1486, f1487, f1488, f1489, f1490, f1491, rfl, hL⟩⟩
    · refine CW.exit ?_
      refine XJ.hit ?_
      obtain rfl := Option.some.inj hm
      exact ⟨_, rfl, ⟨f1442, f1443, f1444, f1445, f1446, f1447, f1448, f1449, hL⟩⟩

theorem M.impl_ProgressRace_ok (w0 : World) (a0 : ProgressRules) (a1 : Int) (a2 : List Finish) {v1 : Value} (h2 : rdL (· < w0.heap.size) w0 v1 a2) (a3 : List Rating) {v3 : Value} (h4 : rdL (· < w0.heap.size) w0 v3 a3) {r : (List Rating) × Int} (hm : M.impl_ProgressRace a0 a1 a2 a3 = some r) :
    Calls Try.prog 28 #[(.agg #[(.int .i64 a0.Gain), (.int .i64 a0.Step), (.int .i64 a0.Low), (.int .i64 a0.High)]), (.int .i64 a1), v1, v3] w0 fun e w' => ∃ (rv0 : Value) (rS0 : Nat → Prop), e = .returned (.tuple #[rv0, (.int .i64 r.2)]) ∧ Fresh w0 w' [Ent.own 61 rS0 rv0 r.1] := by
  unfold M.impl_ProgressRace at hm
  refine calls_CW (args := [(.agg #[(.int .i64 a0.Gain), (.int .i64 a0.Step), (.int .i64 a0.Low), (.int .i64 a0.High)]), (.int .i64 a1), v1, v3]) Try.func28 rfl rfl rfl ?_
  have hL := Hp.start w0
  refine CW.seq ?_
  refine CW.regionL ?_
  refine OW.cons (S_box (cs := #[(.int .i64 a0.Gain), (.int .i64 a0.Step), (.int .i64 a0.Low), (.int .i64 a0.High)]) hL rfl rfl rfl ?_)
  intro wd5 b6 hL
  refine OW.cons (OP.val (v := (.slice none 0 0)) rfl (x_assign) ?_)
  refine OW.cons (OP.val (v := (.int .i64 0)) rfl (x_assign) ?_)
  refine OW.nil ?_
  refine CW.seq ?_
  refine CW.seq ?_
  refine CW.regionL ?_
  refine OW.cons (OP.val (v := (.agg #[(.int .i64 a0.Gain), (.int .i64 a0.Step), (.int .i64 a0.Low), (.int .i64 a0.High)])) rfl (x_loadN (cs := [(.int .i64 a0.Gain), (.int .i64 a0.Step), (.int .i64 a0.Low), (.int .i64 a0.High)]) Try.underlying46 Try_T46 rfl rfl (hL.cellsB 0 rfl (o := 0) (l := [(.int .i64 a0.Gain), (.int .i64 a0.Step), (.int .i64 a0.Low), (.int .i64 a0.High)]) (by intro j u hj; exact (by simpa using hj)))) ?_)
  obtain ⟨x7, hx8, hm⟩ := bndE hm
  refine OW.cons (OP.call rfl (x_call (vs := [(.agg #[(.int .i64 a0.Gain), (.int .i64 a0.Step), (.int .i64 a0.Low), (.int .i64 a0.High)])]) Try_C59 ⟨rfl, trivial⟩) (M.impl_IsProgress_ok _ a0 hx8) ?_)
  rintro e9 wd10 ⟨rfl, hF11⟩
  refine ⟨_, rfl, ?_⟩
  have hL := hL.pushAll hF11
  simp only [lA, lB, lC, lD] at hL
  refine OW.cons (OP.val (v := (.bool (!x7))) rfl (x_not rfl) ?_)
  refine OW.nil ?_
  refine CW.condM (t := !x7) rfl hm (fun hb12 hm => ?_) (fun hb12 hm => ?_)
  · refine CW.seq ?_
    refine CW.regionL ?_
    refine OW.cons (OP.val (v := (.slice none 0 0)) rfl (x_assign) ?_)
    refine OW.cons (OP.val (v := (.int .i64 1)) rfl (x_assign) ?_)
    refine OW.nil ?_
    refine CW.ret ?_
    have hL := hL.pushNil Rating 61
    obtain rfl := Option.some.inj hm
    exact RR2 rfl rfl rfl ⟨(.slice none 0 0), None_, rfl, hL.fresh 2 rfl [0] (by decide) (by decide) rfl⟩
  · refine CW.skip ?_
    refine CW.seq ?_
    refine CW.seq ?_
    refine CW.regionL ?_
    refine OW.cons (OP.val (v := (.int .i64 a1)) rfl (x_move) ?_)
    refine OW.cons (OP.val (v := v1) rfl (x_move) ?_)
    refine OW.cons (OP.val (v := v3) rfl (x_move) ?_)
    obtain ⟨x13, hx14, hm⟩ := bndE hm
    refine OW.cons (OP.call rfl (x_call (vs := [(.int .i64 a1), v1, v3]) Try_C51 ⟨rfl, rfl, rfl, trivial⟩) (M.impl_ratingsCode_ok _ a1 a2 (hL.rdS 1 rfl h2) a3 (hL.rdS 1 rfl h4) hx14) ?_)
    rintro e15 wd16 ⟨rfl, hF17⟩
    refine ⟨_, rfl, ?_⟩
    have hL := hL.pushAll hF17
    simp only [lA, lB, lC, lD] at hL
    refine OW.cons (OP.val (v := (.int .i64 x13)) rfl (x_assign) ?_)
    refine OW.nil ?_
    refine CW.seq ?_
    refine CW.regionL ?_
    refine OW.cons (OP.val (v := (.int .i64 x13)) rfl (x_move) ?_)
    refine OW.cons (OP.val (v := (.bool (x13 != 0))) rfl (x_neq rfl rfl) ?_)
    refine OW.nil ?_
    refine CW.condM (t := x13 != 0) rfl hm (fun hb18 hm => ?_) (fun hb18 hm => ?_)
    · refine CW.seq ?_
      refine CW.regionL ?_
      refine OW.cons (OP.val (v := (.int .i64 x13)) rfl (x_move) ?_)
      refine OW.cons (OP.val (v := (.slice none 0 0)) rfl (x_assign) ?_)
      refine OW.cons (OP.val (v := (.int .i64 x13)) rfl (x_assign) ?_)
      refine OW.nil ?_
      refine CW.ret ?_
      have hL := hL.pushNil Rating 61
      obtain rfl := Option.some.inj hm
      exact RR2 rfl rfl rfl ⟨(.slice none 0 0), None_, rfl, hL.fresh 2 rfl [0] (by decide) (by decide) rfl⟩
    · refine CW.skip ?_
      refine CW.seq ?_
      refine CW.regionL ?_
      refine OW.cons (OP.val (v := (.agg #[(.int .i64 a0.Gain), (.int .i64 a0.Step), (.int .i64 a0.Low), (.int .i64 a0.High)])) rfl (x_loadN (cs := [(.int .i64 a0.Gain), (.int .i64 a0.Step), (.int .i64 a0.Low), (.int .i64 a0.High)]) Try.underlying46 Try_T46 rfl rfl (hL.cellsB 0 rfl (o := 0) (l := [(.int .i64 a0.Gain), (.int .i64 a0.Step), (.int .i64 a0.Low), (.int .i64 a0.High)]) (by intro j u hj; exact (by simpa using hj)))) ?_)
      refine OW.cons (OP.val (v := v1) rfl (x_move) ?_)
      refine OW.cons (OP.val (v := v3) rfl (x_move) ?_)
      obtain ⟨x19, hx20, hm⟩ := bndE hm
      refine OW.cons (OP.call rfl (x_call (vs := [(.agg #[(.int .i64 a0.Gain), (.int .i64 a0.Step), (.int .i64 a0.Low), (.int .i64 a0.High)]), v1, v3]) Try_C60 ⟨rfl, rfl, rfl, trivial⟩) (M.impl_progressRace_ok _ a0 a2 (hL.rdS 1 rfl h2) a3 (hL.rdS 1 rfl h4) hx20) ?_)
      rintro e23 wd24 ⟨v22, S21, rfl, hF25⟩
      refine ⟨_, rfl, ?_⟩
      have hL := hL.pushAll hF25
      simp only [lA, lB, lC, lD] at hL
      refine OW.cons (OP.val (v := v22) rfl (x_assign) ?_)
      refine OW.cons (OP.val (v := (.int .i64 0)) rfl (x_assign) ?_)
      refine OW.nil ?_
      refine CW.ret ?_
      obtain rfl := Option.some.inj hm
      exact RR2 rfl rfl rfl ⟨v22, S21, rfl, hL.fresh 2 rfl [0] (by decide) (by decide) rfl⟩

theorem M.laws_heldRatingS_ok (w0 : World) (a0 : List Rating) {v1 : Value} (h2 : rdL (· < w0.heap.size) w0 v1 a0) (a1 : Int) {r : Int} (hm : M.laws_heldRatingS a0 a1 = some r) :
    Calls Try.prog 29 #[v1, (.int .i64 a1)] w0 fun e w' => e = .returned (.int .i64 r) ∧ Fresh w0 w' [] := by
  unfold M.laws_heldRatingS at hm
  refine calls_CW (args := [v1, (.int .i64 a1)]) Try.func29 rfl rfl rfl ?_
  have hL := Hp.start w0
  refine CW.seq ?_
  refine CW.regionL ?_
  refine OW.cons (OP.val (v := (.int .i64 0)) rfl (x_assign) ?_)
  refine OW.nil ?_
  refine CW.seq ?_
  refine CW.seq ?_
  refine CW.regionL ?_
  refine OW.cons (OP.val (v := (.int .i64 0)) rfl (x_assign) ?_)
  refine OW.nil ?_
  obtain ⟨o39, ho40, hm⟩ := bndE hm
  refine CW.loopB (fun (s_l1 : Int × Int) (F : Fr) (w : World) => F 0 = v1 ∧ F 1 = (.int .i64 s_l1.1) ∧ F 5 = (.int .i64 s_l1.2) ∧ Hp w0 [Ent.snap w0 w0.heap.size] w) (fun o => outc o (fun x => some x) (fun s => M.laws_heldRatingS_a1 s) = some r) ho40 hm ⟨rfl, rfl, rfl, hL⟩ ?_ ?_
  · intro s_l1 F41 wd42 hJ hm
    have hm := outcE hm
    have hm : M.laws_heldRatingS_a1 s_l1 = some r := hm
    unfold M.laws_heldRatingS_a1 at hm
    obtain ⟨f43, f44, f45, hL⟩ := hJ
    refine CW.seq ?_
    refine CW.regionL ?_
    refine OW.cons (OP.val (v := (.int .i64 s_l1.1)) rfl (x_mv f44) ?_)
    refine OW.cons (OP.val (v := (.int .i64 s_l1.1)) rfl (x_assign) ?_)
    refine OW.nil ?_
    refine CW.ret ?_
    obtain rfl := Option.some.inj hm
    exact RR1 rfl rfl ⟨rfl, hL.fresh 0 rfl [] (by decide) (by decide) rfl⟩
  · intro s_l1 F46 wd47 t37 hJ hm hr38
    unfold M.laws_heldRatingS_l1 at hm
    obtain ⟨f48, f49, f50, hL⟩ := hJ
    refine CW.seq ?_
    refine CW.seq ?_
    refine CW.regionL ?_
    refine OW.cons (OP.val (v := (.int .i64 s_l1.2)) rfl (x_mv f50) ?_)
    refine OW.cons (OP.val (v := v1) rfl (x_mv f48) ?_)
    refine OW.cons (OP.val (v := (.int .i64 (a0.length : Int))) rfl (x_lenR Try.underlying30 rfl (hL.rdS 0 rfl h2)) ?_)
    refine OW.cons (OP.val (v := (.bool (decide (s_l1.2 < (a0.length : Int))))) rfl (x_lss rfl rfl) ?_)
    refine OW.nil ?_
    refine CW.condM (t := decide (s_l1.2 < (a0.length : Int))) rfl hm (fun hb51 hm => ?_) (fun hb51 hm => ?_)
    · refine CW.skip ?_
      refine CW.seq ?_
      refine CW.block ?_
      refine CW.seq ?_
      refine CW.seq ?_
      refine CW.regionL ?_
      refine OW.cons (OP.val (v := v1) rfl (x_mv f48) ?_)
      refine OW.cons (OP.val (v := (.int .i64 s_l1.2)) rfl (x_mv f50) ?_)
      obtain ⟨x52, ha53, hm⟩ := bndE hm
      obtain ⟨hz54, ha58⟩ := idxE ha53
      obtain ⟨b55, q56, hix57⟩ := rdL_ix (hL.rdS 0 rfl h2) hz54 ha58
      refine OW.cons (OP.val (v := (.pointer (some ⟨b55, q56, none⟩))) rfl (x_ix Try.underlying30 Try_T61 rfl rfl hix57) ?_)
      refine OW.cons (OP.val (v := (.pointer (some ⟨b55, q56, none⟩))) rfl (x_fieldAddr (fsz := 1) q56 0 q56 Try.underlying61 rfl Try_T2 rfl rfl rfl) ?_)
      refine OW.cons (OP.val (v := (.int .i64 x52.Boat)) rfl (x_load1 Try.underlying2 rfl rfl (rdF_cells (hL.rdS 0 rfl h2) hix57 ha58 0 _ rfl)) ?_)
      refine OW.cons (OP.val (v := (.int .i64 s_l1.1)) rfl (x_mv f49) ?_)
      refine OW.cons (OP.val (v := (.bool (x52.Boat != s_l1.1))) rfl (x_neq rfl rfl) ?_)
      refine OW.nil ?_
      refine CW.condM (t := x52.Boat != s_l1.1) rfl hm (fun hb59 hm => ?_) (fun hb59 hm => ?_)
      · refine CW.seq ?_
        refine CW.regionL ?_
        refine OW.cons (OP.val (v := (.int .i64 (-1))) rfl (x_assign) ?_)
        refine OW.nil ?_
        refine CW.ret ?_
        obtain rfl := Option.some.inj hm
        have hm := hr38 _ rfl
        obtain rfl := Option.some.inj hm
        exact RR1 rfl rfl ⟨rfl, hL.fresh 0 rfl [] (by decide) (by decide) rfl⟩
      · refine CW.skip ?_
        refine CW.seq ?_
        refine CW.regionL ?_
        refine OW.cons (OP.val (v := (.int .i64 s_l1.1)) rfl (x_mv f49) ?_)
        refine OW.cons (OP.val (v := (.int .i64 (w64 (s_l1.1 + 1)))) rfl (x_add rfl rfl) ?_)
        refine OW.cons (OP.val (v := (.int .i64 (w64 (s_l1.1 + 1)))) rfl (x_assign) ?_)
        refine OW.nil ?_
        refine CW.seq ?_
        refine CW.seq ?_
        refine CW.regionL ?_
        refine OW.cons (OP.val (v := v1) rfl (x_mv f48) ?_)
        refine OW.cons (OP.val (v := (.int .i64 s_l1.2)) rfl (x_mv f50) ?_)
        obtain ⟨x60, ha61, hm⟩ := bndE hm
        obtain ⟨hz62, ha66⟩ := idxE ha61
        obtain ⟨b63, q64, hix65⟩ := rdL_ix (hL.rdS 0 rfl h2) hz62 ha66
        refine OW.cons (OP.val (v := (.pointer (some ⟨b63, q64, none⟩))) rfl (x_ix Try.underlying30 Try_T61 rfl rfl hix65) ?_)
        refine OW.cons (OP.val (v := (.pointer (some ⟨b63, q64 + 1, none⟩))) rfl (x_fieldAddr (fsz := 1) q64 1 (q64 + 1) Try.underlying61 rfl Try_T2 rfl rfl rfl) ?_)
        refine OW.cons (OP.val (v := (.int .i64 x60.Value)) rfl (x_load1 Try.underlying2 rfl rfl (rdF_cells (hL.rdS 0 rfl h2) hix65 ha66 1 _ rfl)) ?_)
        refine OW.cons (OP.val (v := (.int .i64 (w64 (s_l1.1 + 1)))) rfl (x_move) ?_)
        refine OW.cons (OP.val (v := (.bool (x60.Value != (w64 (s_l1.1 + 1))))) rfl (x_neq rfl rfl) ?_)
        refine OW.nil ?_
        refine CW.condM (t := x60.Value != (w64 (s_l1.1 + 1))) rfl hm (fun hb67 hm => ?_) (fun hb67 hm => ?_)
        · refine CW.seq ?_
          refine CW.regionL ?_
          refine OW.cons (OP.val (v := (.int .i64 (-1))) rfl (x_assign) ?_)
          refine OW.nil ?_
          refine CW.ret ?_
          obtain rfl := Option.some.inj hm
          have hm := hr38 _ rfl
          obtain rfl := Option.some.inj hm
          exact RR1 rfl rfl ⟨rfl, hL.fresh 0 rfl [] (by decide) (by decide) rfl⟩
        · refine CW.skip ?_
          refine CW.regionL ?_
          refine OW.cons (OP.val (v := (.int .i64 (w64 (s_l1.1 + 1)))) rfl (x_move) ?_)
          refine OW.cons (OP.val (v := (.int .i64 (w64 ((w64 (s_l1.1 + 1)) + 1)))) rfl (x_add rfl rfl) ?_)
          refine OW.cons (OP.val (v := (.int .i64 (w64 ((w64 (s_l1.1 + 1)) + 1)))) rfl (x_assign) ?_)
          refine OW.nil ?_
          refine CW.regionL ?_
          refine OW.cons (OP.val (v := (.int .i64 s_l1.2)) rfl (x_mv f50) ?_)
          refine OW.cons (OP.val (v := (.int .i64 (w64 (s_l1.2 + 1)))) rfl (x_add rfl rfl) ?_)
          refine OW.cons (OP.val (v := (.int .i64 (w64 (s_l1.2 + 1)))) rfl (x_assign) ?_)
          refine OW.nil ?_
          obtain rfl := Option.some.inj hm
          exact ⟨_, rfl, ⟨f48, rfl, rfl, hL⟩⟩
    · refine CW.exit ?_
      refine XJ.hit ?_
      obtain rfl := Option.some.inj hm
      exact ⟨_, rfl, ⟨f48, f49, f50, hL⟩⟩

theorem M.laws_FnExactProgressRace_ok (w0 : World) (a0 : ProgressRules) (a1 : Int) (a2 : List Finish) {v1 : Value} (h2 : rdL (· < w0.heap.size) w0 v1 a2) (a3 : List Rating) {v3 : Value} (h4 : rdL (· < w0.heap.size) w0 v3 a3) {r : Bool} (hm : M.laws_FnExactProgressRace a0 a1 a2 a3 = some r) :
    Calls Try.prog 5 #[(.agg #[(.int .i64 a0.Gain), (.int .i64 a0.Step), (.int .i64 a0.Low), (.int .i64 a0.High)]), (.int .i64 a1), v1, v3] w0 fun e w' => e = .returned (.bool r) ∧ Fresh w0 w' [] := by
  unfold M.laws_FnExactProgressRace at hm
  refine calls_CW (args := [(.agg #[(.int .i64 a0.Gain), (.int .i64 a0.Step), (.int .i64 a0.Low), (.int .i64 a0.High)]), (.int .i64 a1), v1, v3]) Try.func5 rfl rfl rfl ?_
  have hL := Hp.start w0
  refine CW.seq ?_
  refine CW.regionL ?_
  refine OW.cons (S_box (cs := #[(.int .i64 a0.Gain), (.int .i64 a0.Step), (.int .i64 a0.Low), (.int .i64 a0.High)]) hL rfl rfl rfl ?_)
  intro wd5 b6 hL
  refine OW.cons (OP.val (v := (.bool false)) rfl (x_assign) ?_)
  refine OW.nil ?_
  refine CW.seq ?_
  refine CW.regionL ?_
  refine OW.cons (OP.val (v := (.int .i64 1048576)) rfl (x_assign) ?_)
  refine OW.nil ?_
  refine CW.seq ?_
  refine CW.regionL ?_
  refine OW.cons (OP.val (v := v1) rfl (x_move) ?_)
  refine OW.cons (OP.val (v := (.int .i64 1048576)) rfl (x_move) ?_)
  obtain ⟨x7, hx8, hm⟩ := bndE hm
  refine OW.cons (OP.call rfl (x_call (vs := [v1, (.int .i64 1048576)]) Try_C11 ⟨rfl, rfl, trivial⟩) (M.laws_szFinishS_ok _ a2 (hL.rdS 1 rfl h2) 1048576 hx8) ?_)
  rintro e9 wd10 ⟨rfl, hF11⟩
  refine ⟨_, rfl, ?_⟩
  have hL := hL.pushAll hF11
  simp only [lA, lB, lC, lD] at hL
  refine OW.cons (OP.val (v := (.int .i64 x7)) rfl (x_assign) ?_)
  refine OW.nil ?_
  refine CW.seq ?_
  refine CW.seq ?_
  refine CW.regionL ?_
  refine OW.cons (OP.val (v := (.int .i64 x7)) rfl (x_move) ?_)
  refine OW.cons (OP.val (v := (.bool (decide (x7 < 0)))) rfl (x_lss rfl rfl) ?_)
  refine OW.nil ?_
  refine CW.condM (t := decide (x7 < 0)) rfl hm (fun hb12 hm => ?_) (fun hb12 hm => ?_)
  · refine CW.seq ?_
    refine CW.regionL ?_
    refine OW.cons (OP.val (v := (.bool true)) rfl (x_assign) ?_)
    refine OW.nil ?_
    refine CW.ret ?_
    obtain rfl := Option.some.inj hm
    exact RR1 rfl rfl ⟨rfl, hL.fresh 1 rfl [] (by decide) (by decide) rfl⟩
  · refine CW.skip ?_
    refine CW.seq ?_
    refine CW.regionL ?_
    refine OW.cons (OP.val (v := v3) rfl (x_move) ?_)
    refine OW.cons (OP.val (v := (.int .i64 x7)) rfl (x_move) ?_)
    obtain ⟨x13, hx14, hm⟩ := bndE hm
    refine OW.cons (OP.call rfl (x_call (vs := [v3, (.int .i64 x7)]) Try_C12 ⟨rfl, rfl, trivial⟩) (M.laws_szRatingS_ok _ a3 (hL.rdS 1 rfl h4) x7 hx14) ?_)
    rintro e15 wd16 ⟨rfl, hF17⟩
    refine ⟨_, rfl, ?_⟩
    have hL := hL.pushAll hF17
    simp only [lA, lB, lC, lD] at hL
    refine OW.cons (OP.val (v := (.int .i64 x13)) rfl (x_assign) ?_)
    refine OW.nil ?_
    refine CW.seq ?_
    refine CW.seq ?_
    refine CW.regionL ?_
    refine OW.cons (OP.val (v := (.int .i64 x13)) rfl (x_move) ?_)
    refine OW.cons (OP.val (v := (.bool (decide (x13 < 0)))) rfl (x_lss rfl rfl) ?_)
    refine OW.nil ?_
    refine CW.condM (t := decide (x13 < 0)) rfl hm (fun hb18 hm => ?_) (fun hb18 hm => ?_)
    · refine CW.seq ?_
      refine CW.regionL ?_
      refine OW.cons (OP.val (v := (.bool true)) rfl (x_assign) ?_)
      refine OW.nil ?_
      refine CW.ret ?_
      obtain rfl := Option.some.inj hm
      exact RR1 rfl rfl ⟨rfl, hL.fresh 1 rfl [] (by decide) (by decide) rfl⟩
    · refine CW.skip ?_
      refine CW.seq ?_
      refine CW.regionL ?_
      refine OW.cons (OP.val (v := (.agg #[(.int .i64 a0.Gain), (.int .i64 a0.Step), (.int .i64 a0.Low), (.int .i64 a0.High)])) rfl (x_loadN (cs := [(.int .i64 a0.Gain), (.int .i64 a0.Step), (.int .i64 a0.Low), (.int .i64 a0.High)]) Try.underlying43 Try_T43 rfl rfl (hL.cellsB 0 rfl (o := 0) (l := [(.int .i64 a0.Gain), (.int .i64 a0.Step), (.int .i64 a0.Low), (.int .i64 a0.High)]) (by intro j u hj; exact (by simpa using hj)))) ?_)
      obtain ⟨x19, hx20, hm⟩ := bndE hm
      refine OW.cons (OP.call rfl (x_call (vs := [(.agg #[(.int .i64 a0.Gain), (.int .i64 a0.Step), (.int .i64 a0.Low), (.int .i64 a0.High)])]) Try_C27 ⟨rfl, trivial⟩) (M.laws_toProgressRules_ok _ a0 hx20) ?_)
      rintro e21 wd22 ⟨rfl, hF23⟩
      refine ⟨_, rfl, ?_⟩
      have hL := hL.pushAll hF23
      simp only [lA, lB, lC, lD] at hL
      refine OW.cons (OP.val (v := (.int .i64 a1)) rfl (x_move) ?_)
      refine OW.cons (OP.val (v := v1) rfl (x_move) ?_)
      obtain ⟨x24, hx25, hm⟩ := bndE hm
      refine OW.cons (OP.call rfl (x_call (vs := [v1]) Try_C14 ⟨rfl, trivial⟩) (M.laws_toFinishS_ok _ a2 (hL.rdS 1 rfl h2) hx25) ?_)
      rintro e28 wd29 ⟨v27, S26, rfl, hF30⟩
      refine ⟨_, rfl, ?_⟩
      have hL := hL.pushAll hF30
      simp only [lA, lB, lC, lD] at hL
      refine OW.cons (OP.val (v := v3) rfl (x_move) ?_)
      obtain ⟨x31, hx32, hm⟩ := bndE hm
      refine OW.cons (OP.call rfl (x_call (vs := [v3]) Try_C15 ⟨rfl, trivial⟩) (M.laws_toRatingS_ok _ a3 (hL.rdS 2 rfl h4) hx32) ?_)
      rintro e35 wd36 ⟨v34, S33, rfl, hF37⟩
      refine ⟨_, rfl, ?_⟩
      have hL := hL.pushAll hF37
      simp only [lA, lB, lC, lD] at hL
      obtain ⟨x38, hx39, hm⟩ := bndE hm
      refine OW.cons (OP.call rfl (x_call (vs := [(.agg #[(.int .i64 x19.Gain), (.int .i64 x19.Step), (.int .i64 x19.Low), (.int .i64 x19.High)]), (.int .i64 a1), v27, v34]) Try_C26 ⟨rfl, rfl, rfl, rfl, trivial⟩) (M.spec_ProgressRace_ok _ x19 a1 x24 (hL.rdO 1 rfl) x31 (hL.rdO 0 rfl) hx39) ?_)
      rintro e42 wd43 ⟨v41, S40, rfl, hF44⟩
      refine ⟨_, rfl, ?_⟩
      have hL := hL.pushAll hF44
      simp only [lA, lB, lC, lD] at hL
      refine OW.cons (OP.val (v := (.tuple #[v41, (.int .i64 x38.2)])) rfl (x_move) ?_)
      refine OW.cons (OP.val (v := v41) rfl (x_extract rfl rfl) ?_)
      refine OW.cons (OP.val (v := (.int .i64 x38.2)) rfl (x_extract rfl rfl) ?_)
      refine OW.cons (OP.val (v := v41) rfl (x_assign) ?_)
      refine OW.cons (OP.val (v := (.int .i64 x38.2)) rfl (x_assign) ?_)
      refine OW.nil ?_
      refine CW.seq ?_
      refine CW.regionL ?_
      refine OW.cons (OP.val (v := v1) rfl (x_move) ?_)
      obtain ⟨x45, hx46, hm⟩ := bndE hm
      refine OW.cons (OP.call rfl (x_call (vs := [v1]) Try_C14 ⟨rfl, trivial⟩) (M.laws_toFinishS_ok _ a2 (hL.rdS 4 rfl h2) hx46) ?_)
      rintro e49 wd50 ⟨v48, S47, rfl, hF51⟩
      refine ⟨_, rfl, ?_⟩
      have hL := hL.pushAll hF51
      simp only [lA, lB, lC, lD] at hL
      refine OW.cons (OP.val (v := v48) rfl (x_assign) ?_)
      refine OW.nil ?_
      refine CW.seq ?_
      refine CW.regionL ?_
      refine OW.cons (OP.val (v := v3) rfl (x_move) ?_)
      obtain ⟨x52, hx53, hm⟩ := bndE hm
      refine OW.cons (OP.call rfl (x_call (vs := [v3]) Try_C15 ⟨rfl, trivial⟩) (M.laws_toRatingS_ok _ a3 (hL.rdS 5 rfl h4) hx53) ?_)
      rintro e56 wd57 ⟨v55, S54, rfl, hF58⟩
      refine ⟨_, rfl, ?_⟩
      have hL := hL.pushAll hF58
      simp only [lA, lB, lC, lD] at hL
      refine OW.cons (OP.val (v := v55) rfl (x_assign) ?_)
      refine OW.nil ?_
      refine CW.seq ?_
      refine CW.regionL ?_
      refine OW.cons (OP.val (v := (.agg #[(.int .i64 a0.Gain), (.int .i64 a0.Step), (.int .i64 a0.Low), (.int .i64 a0.High)])) rfl (x_loadN (cs := [(.int .i64 a0.Gain), (.int .i64 a0.Step), (.int .i64 a0.Low), (.int .i64 a0.High)]) Try.underlying43 Try_T43 rfl rfl (hL.cellsB 5 rfl (o := 0) (l := [(.int .i64 a0.Gain), (.int .i64 a0.Step), (.int .i64 a0.Low), (.int .i64 a0.High)]) (by intro j u hj; exact (by simpa using hj)))) ?_)
      obtain ⟨x59, hx60, hm⟩ := bndE hm
      refine OW.cons (OP.call rfl (x_call (vs := [(.agg #[(.int .i64 a0.Gain), (.int .i64 a0.Step), (.int .i64 a0.Low), (.int .i64 a0.High)])]) Try_C27 ⟨rfl, trivial⟩) (M.laws_toProgressRules_ok _ a0 hx60) ?_)
      rintro e61 wd62 ⟨rfl, hF63⟩
      refine ⟨_, rfl, ?_⟩
      have hL := hL.pushAll hF63
      simp only [lA, lB, lC, lD] at hL
      refine OW.cons (OP.val (v := (.int .i64 a1)) rfl (x_move) ?_)
      refine OW.cons (OP.val (v := v48) rfl (x_move) ?_)
      refine OW.cons (OP.val (v := v55) rfl (x_move) ?_)
      obtain ⟨x64, hx65, hm⟩ := bndE hm
      refine OW.cons (OP.call rfl (x_call (vs := [(.agg #[(.int .i64 x59.Gain), (.int .i64 x59.Step), (.int .i64 x59.Low), (.int .i64 x59.High)]), (.int .i64 a1), v48, v55]) Try_C28 ⟨rfl, rfl, rfl, rfl, trivial⟩) (M.impl_ProgressRace_ok _ x59 a1 x45 (hL.rdO 1 rfl) x52 (hL.rdO 0 rfl) hx65) ?_)
      rintro e68 wd69 ⟨v67, S66, rfl, hF70⟩
      refine ⟨_, rfl, ?_⟩
      have hL := hL.pushAll hF70
      simp only [lA, lB, lC, lD] at hL
      refine OW.cons (OP.val (v := (.tuple #[v67, (.int .i64 x64.2)])) rfl (x_move) ?_)
      refine OW.cons (OP.val (v := v67) rfl (x_extract rfl rfl) ?_)
      refine OW.cons (OP.val (v := (.int .i64 x64.2)) rfl (x_extract rfl rfl) ?_)
      refine OW.cons (OP.val (v := v67) rfl (x_assign) ?_)
      refine OW.cons (OP.val (v := (.int .i64 x64.2)) rfl (x_assign) ?_)
      refine OW.nil ?_
      refine CW.seq ?_
      refine CW.seqJ (fun (s_j1 : Bool) (F : Fr) (w : World) => F 1 = (.int .i64 a1) ∧ F 2 = v1 ∧ F 3 = v3 ∧ F 4 = (.pointer (some ⟨b6, 0, none⟩)) ∧ F 10 = v41 ∧ F 11 = (.int .i64 x38.2) ∧ F 12 = v48 ∧ F 13 = v55 ∧ F 14 = v67 ∧ F 15 = (.int .i64 x64.2) ∧ F 63 = (.bool s_j1) ∧ Hp w0 [Ent.own 61 S66 v67 x64.1, Ent.own 61 S54 v55 x52, Ent.own 56 S47 v48 x45, Ent.own 61 S40 v41 x38.1, Ent.blk b6 43 #[(.int .i64 a0.Gain), (.int .i64 a0.Step), (.int .i64 a0.Low), (.int .i64 a0.High)], Ent.snap w0 w0.heap.size] w) (fun s_j1 => M.laws_FnExactProgressRace_j1 a0 a1 a2 a3 x38 x45 x52 x64 s_j1 = some r) ?_ ?_
      · refine CW.regionL ?_
        refine OW.cons (OP.val (v := v67) rfl (x_move) ?_)
        refine OW.cons (OP.val (v := v41) rfl (x_move) ?_)
        obtain ⟨x218, hx219, hm⟩ := bndE hm
        refine OW.cons (OP.call rfl (x_call (vs := [v67, v41]) Try_C18 ⟨rfl, rfl, trivial⟩) (M.laws_eqRatingS_ok _ x64.1 (hL.rdO 0 rfl) x38.1 (hL.rdO 3 rfl) hx219) ?_)
        rintro e220 wd221 ⟨rfl, hF222⟩
        refine ⟨_, rfl, ?_⟩
        have hL := hL.pushAll hF222
        simp only [lA, lB, lC, lD] at hL
        refine OW.cons (OP.val (v := (.bool (!x218))) rfl (x_not rfl) ?_)
        refine OW.cons (OP.val (v := (.bool (!x218))) rfl (x_move) ?_)
        refine ifB_elim hm (fun hb223 hm => ?_) (fun hb223 hm => ?_)
        · refine OW.cons (OP.no' rfl rfl hb223 rfl ?_)
          refine OW.cons (OP.no' rfl rfl hb223 rfl ?_)
          refine OW.cons (OP.no' rfl rfl hb223 rfl ?_)
          refine OW.cons (OP.val (v := (.bool true)) rfl (x_pickT' rfl hb223 rfl) ?_)
          refine OW.nil ?_
          have hL := hL.sel [0, 1, 2, 3, 6, 7] (by decide) rfl
          exact ⟨true, hm, ⟨rfl, rfl, rfl, rfl, rfl, rfl, rfl, rfl, rfl, rfl, rfl, hL⟩⟩
        · refine OW.cons (OP.yes' rfl rfl hb223 (OP.val (v := (.int .i64 x64.2)) rfl (x_move) ?_))
          refine OW.cons (OP.yes' rfl rfl hb223 (OP.val (v := (.int .i64 x38.2)) rfl (x_move) ?_))
          refine OW.cons (OP.yes' rfl rfl hb223 (OP.val (v := (.bool (x64.2 != x38.2))) rfl (x_neq rfl rfl) ?_))
          refine OW.cons (OP.val (v := (.bool (x64.2 != x38.2))) rfl (x_pickF' rfl hb223 rfl) ?_)
          refine OW.nil ?_
          have hL := hL.sel [0, 1, 2, 3, 6, 7] (by decide) rfl
          exact ⟨x64.2 != x38.2, hm, ⟨rfl, rfl, rfl, rfl, rfl, rfl, rfl, rfl, rfl, rfl, rfl, hL⟩⟩
      · intro s_j1 F77 wd78 hJ hm
        unfold M.laws_FnExactProgressRace_j1 at hm
        obtain ⟨f79, f80, f81, f82, f83, f84, f85, f86, f87, f88, f89, hL⟩ := hJ
        refine CW.condM (t := s_j1) f89 hm (fun hb90 hm => ?_) (fun hb90 hm => ?_)
        · refine CW.seq ?_
          refine CW.regionL ?_
          refine OW.cons (OP.val (v := (.bool false)) rfl (x_assign) ?_)
          refine OW.nil ?_
          refine CW.ret ?_
          obtain rfl := Option.some.inj hm
          exact RR1 rfl rfl ⟨rfl, hL.fresh 5 rfl [] (by decide) (by decide) rfl⟩
        · refine CW.skip ?_
          refine CW.seq ?_
          refine CW.seq ?_
          refine CW.regionL ?_
          refine OW.cons (OP.val (v := v48) rfl (x_mv f85) ?_)
          refine OW.cons (OP.val (v := v1) rfl (x_mv f80) ?_)
          obtain ⟨x91, hx92, hm⟩ := bndE hm
          refine OW.cons (OP.call rfl (x_call (vs := [v1]) Try_C14 ⟨rfl, trivial⟩) (M.laws_toFinishS_ok _ a2 (hL.rdS 5 rfl h2) hx92) ?_)
          rintro e95 wd96 ⟨v94, S93, rfl, hF97⟩
          refine ⟨_, rfl, ?_⟩
          have hL := hL.pushAll hF97
          simp only [lA, lB, lC, lD] at hL
          obtain ⟨x98, hx99, hm⟩ := bndE hm
          refine OW.cons (OP.call rfl (x_call (vs := [v48, v94]) Try_C17 ⟨rfl, rfl, trivial⟩) (M.laws_eqFinishS_ok _ x45 (hL.rdO 3 rfl) x91 (hL.rdO 0 rfl) hx99) ?_)
          rintro e100 wd101 ⟨rfl, hF102⟩
          refine ⟨_, rfl, ?_⟩
          have hL := hL.pushAll hF102
          simp only [lA, lB, lC, lD] at hL
          refine OW.cons (OP.val (v := (.bool (!x98))) rfl (x_not rfl) ?_)
          refine OW.nil ?_
          refine CW.condM (t := !x98) rfl hm (fun hb103 hm => ?_) (fun hb103 hm => ?_)
          · refine CW.seq ?_
            refine CW.regionL ?_
            refine OW.cons (OP.val (v := (.bool false)) rfl (x_assign) ?_)
            refine OW.nil ?_
            refine CW.ret ?_
            obtain rfl := Option.some.inj hm
            exact RR1 rfl rfl ⟨rfl, hL.fresh 6 rfl [] (by decide) (by decide) rfl⟩
          · refine CW.skip ?_
            refine CW.seq ?_
            refine CW.seq ?_
            refine CW.regionL ?_
            refine OW.cons (OP.val (v := v55) rfl (x_mv f86) ?_)
            refine OW.cons (OP.val (v := v3) rfl (x_mv f81) ?_)
            obtain ⟨x104, hx105, hm⟩ := bndE hm
            refine OW.cons (OP.call rfl (x_call (vs := [v3]) Try_C15 ⟨rfl, trivial⟩) (M.laws_toRatingS_ok _ a3 (hL.rdS 6 rfl h4) hx105) ?_)
            rintro e108 wd109 ⟨v107, S106, rfl, hF110⟩
            refine ⟨_, rfl, ?_⟩
            have hL := hL.pushAll hF110
            simp only [lA, lB, lC, lD] at hL
            obtain ⟨x111, hx112, hm⟩ := bndE hm
            refine OW.cons (OP.call rfl (x_call (vs := [v55, v107]) Try_C18 ⟨rfl, rfl, trivial⟩) (M.laws_eqRatingS_ok _ x52 (hL.rdO 3 rfl) x104 (hL.rdO 0 rfl) hx112) ?_)
            rintro e113 wd114 ⟨rfl, hF115⟩
            refine ⟨_, rfl, ?_⟩
            have hL := hL.pushAll hF115
            simp only [lA, lB, lC, lD] at hL
            refine OW.cons (OP.val (v := (.bool (!x111))) rfl (x_not rfl) ?_)
            refine OW.nil ?_
            refine CW.condM (t := !x111) rfl hm (fun hb116 hm => ?_) (fun hb116 hm => ?_)
            · refine CW.seq ?_
              refine CW.regionL ?_
              refine OW.cons (OP.val (v := (.bool false)) rfl (x_assign) ?_)
              refine OW.nil ?_
              refine CW.ret ?_
              obtain rfl := Option.some.inj hm
              exact RR1 rfl rfl ⟨rfl, hL.fresh 7 rfl [] (by decide) (by decide) rfl⟩
            · refine CW.skip ?_
              refine CW.seq ?_
              refine CW.regionL ?_
              refine OW.cons (OP.val (v := (.int .i64 1)) rfl (x_assign) ?_)
              refine OW.nil ?_
              refine CW.seq ?_
              refine CW.regionL ?_
              refine OW.cons (OP.val (v := v48) rfl (x_mv f85) ?_)
              refine OW.cons (OP.val (v := (.int .i64 1)) rfl (x_move) ?_)
              obtain ⟨x117, hx118, hm⟩ := bndE hm
              refine OW.cons (OP.call rfl (x_call (vs := [v48, (.int .i64 1)]) Try_C22 ⟨rfl, rfl, trivial⟩) (M.laws_markFinishS_ok _ x45 (hL.get 4 rfl) 1 hx118) ?_)
              rintro e119 wd120 ⟨S122, rfl, hF121⟩
              refine ⟨_, rfl, ?_⟩
              have hL := hL.mut 4 rfl hF121
              simp only [lA, lB, lC, lD] at hL
              refine OW.cons (OP.val (v := (.int .i64 x117.1)) rfl (x_assign) ?_)
              refine OW.nil ?_
              refine CW.seq ?_
              refine CW.regionL ?_
              refine OW.cons (OP.val (v := v55) rfl (x_mv f86) ?_)
              refine OW.cons (OP.val (v := (.int .i64 x117.1)) rfl (x_move) ?_)
              obtain ⟨x123, hx124, hm⟩ := bndE hm
              refine OW.cons (OP.call rfl (x_call (vs := [v55, (.int .i64 x117.1)]) Try_C23 ⟨rfl, rfl, trivial⟩) (M.laws_markRatingS_ok _ x52 (hL.get 3 rfl) x117.1 hx124) ?_)
              rintro e125 wd126 ⟨S128, rfl, hF127⟩
              refine ⟨_, rfl, ?_⟩
              have hL := hL.mut 3 rfl hF127
              simp only [lA, lB, lC, lD] at hL
              refine OW.cons (OP.val (v := (.int .i64 x123.1)) rfl (x_assign) ?_)
              refine OW.nil ?_
              refine CW.seq ?_
              refine CW.seqJ (fun (s_j2 : Bool) (F : Fr) (w : World) => F 1 = (.int .i64 a1) ∧ F 2 = v1 ∧ F 3 = v3 ∧ F 4 = (.pointer (some ⟨b6, 0, none⟩)) ∧ F 10 = v41 ∧ F 11 = (.int .i64 x38.2) ∧ F 14 = v67 ∧ F 92 = (.bool s_j2) ∧ Hp w0 [Ent.own 61 S66 v67 x64.1, Ent.own 61 S40 v41 x38.1, Ent.blk b6 43 #[(.int .i64 a0.Gain), (.int .i64 a0.Step), (.int .i64 a0.Low), (.int .i64 a0.High)], Ent.snap w0 w0.heap.size] w) (fun s_j2 => M.laws_FnExactProgressRace_j2 a0 a1 a2 a3 x38 x64 s_j2 = some r) ?_ ?_
              · refine CW.regionL ?_
                refine OW.cons (OP.val (v := (.int .i64 x123.1)) rfl (x_move) ?_)
                refine OW.cons (OP.val (v := (.bool (decide (x123.1 < 0)))) rfl (x_lss rfl rfl) ?_)
                refine OW.cons (OP.val (v := (.bool (decide (x123.1 < 0)))) rfl (x_move) ?_)
                refine ifB_elim hm (fun hb211 hm => ?_) (fun hb211 hm => ?_)
                · refine OW.cons (OP.no' rfl rfl hb211 rfl ?_)
                  refine OW.cons (OP.no' rfl rfl hb211 rfl ?_)
                  refine OW.cons (OP.no' rfl rfl hb211 rfl ?_)
                  refine OW.cons (OP.no' rfl rfl hb211 rfl ?_)
                  refine OW.cons (OP.val (v := (.bool true)) rfl (x_pickT' rfl hb211 rfl) ?_)
                  refine OW.cons (OP.val (v := (.bool true)) rfl (x_move) ?_)
                  refine OW.cons (OP.no' rfl rfl rfl rfl ?_)
                  refine OW.cons (OP.no' rfl rfl rfl rfl ?_)
                  refine OW.cons (OP.no' rfl rfl rfl rfl ?_)
                  refine OW.cons (OP.val (v := (.bool true)) rfl (x_pickT' rfl rfl rfl) ?_)
                  refine OW.nil ?_
                  have hL := hL.sel [2, 5, 6, 7] (by decide) rfl
                  exact ⟨true, hm, ⟨f79, f80, f81, f82, f83, f84, f87, rfl, hL⟩⟩
                · refine OW.cons (OP.yes' rfl rfl hb211 (OP.val (v := v67) rfl (x_mv f87) ?_))
                  refine OW.cons (OP.yes' rfl rfl hb211 (OP.val (v := v41) rfl (x_mv f83) ?_))
                  obtain ⟨x212, hx213, hm⟩ := bndE hm
                  refine OW.cons (OP.yes' rfl rfl hb211 (OP.call rfl (x_call (vs := [v67, v41]) Try_C18 ⟨rfl, rfl, trivial⟩) (M.laws_eqRatingS_ok _ x64.1 (hL.rdO 2 rfl) x38.1 (hL.rdO 5 rfl) hx213) ?_))
                  rintro e214 wd215 ⟨rfl, hF216⟩
                  refine ⟨_, rfl, ?_⟩
                  have hL := hL.pushAll hF216
                  simp only [lA, lB, lC, lD] at hL
                  refine OW.cons (OP.yes' rfl rfl hb211 (OP.val (v := (.bool (!x212))) rfl (x_not rfl) ?_))
                  refine OW.cons (OP.val (v := (.bool (!x212))) rfl (x_pickF' rfl hb211 rfl) ?_)
                  refine OW.cons (OP.val (v := (.bool (!x212))) rfl (x_move) ?_)
                  refine ifB_elim hm (fun hb217 hm => ?_) (fun hb217 hm => ?_)
                  · refine OW.cons (OP.no' rfl rfl hb217 rfl ?_)
                    refine OW.cons (OP.no' rfl rfl hb217 rfl ?_)
                    refine OW.cons (OP.no' rfl rfl hb217 rfl ?_)
                    refine OW.cons (OP.val (v := (.bool true)) rfl (x_pickT' rfl hb217 rfl) ?_)
                    refine OW.nil ?_
                    have hL := hL.sel [2, 5, 6, 7] (by decide) rfl
                    exact ⟨true, hm, ⟨f79, f80, f81, f82, f83, f84, f87, rfl, hL⟩⟩
                  · refine OW.cons (OP.yes' rfl rfl hb217 (OP.val (v := (.int .i64 x64.2)) rfl (x_mv f88) ?_))
                    refine OW.cons (OP.yes' rfl rfl hb217 (OP.val (v := (.int .i64 x38.2)) rfl (x_mv f84) ?_))
                    refine OW.cons (OP.yes' rfl rfl hb217 (OP.val (v := (.bool (x64.2 != x38.2))) rfl (x_neq rfl rfl) ?_))
                    refine OW.cons (OP.val (v := (.bool (x64.2 != x38.2))) rfl (x_pickF' rfl hb217 rfl) ?_)
                    refine OW.nil ?_
                    have hL := hL.sel [2, 5, 6, 7] (by decide) rfl
                    exact ⟨x64.2 != x38.2, hm, ⟨f79, f80, f81, f82, f83, f84, f87, rfl, hL⟩⟩
              · intro s_j2 F136 wd137 hJ hm
                unfold M.laws_FnExactProgressRace_j2 at hm
                obtain ⟨f138, f139, f140, f141, f142, f143, f144, f145, hL⟩ := hJ
                refine CW.condM (t := s_j2) f145 hm (fun hb146 hm => ?_) (fun hb146 hm => ?_)
                · refine CW.seq ?_
                  refine CW.regionL ?_
                  refine OW.cons (OP.val (v := (.bool false)) rfl (x_assign) ?_)
                  refine OW.nil ?_
                  refine CW.ret ?_
                  obtain rfl := Option.some.inj hm
                  exact RR1 rfl rfl ⟨rfl, hL.fresh 3 rfl [] (by decide) (by decide) rfl⟩
                · refine CW.skip ?_
                  refine CW.seq ?_
                  refine CW.regionL ?_
                  refine OW.cons (OP.val (v := (.int .i64 1)) rfl (x_assign) ?_)
                  refine OW.nil ?_
                  refine CW.seq ?_
                  refine CW.regionL ?_
                  refine OW.cons (OP.val (v := v67) rfl (x_mv f144) ?_)
                  refine OW.cons (OP.val (v := (.int .i64 1)) rfl (x_move) ?_)
                  obtain ⟨x147, hx148, hm⟩ := bndE hm
                  refine OW.cons (OP.call rfl (x_call (vs := [v67, (.int .i64 1)]) Try_C23 ⟨rfl, rfl, trivial⟩) (M.laws_markRatingS_ok _ x64.1 (hL.get 0 rfl) 1 hx148) ?_)
                  rintro e149 wd150 ⟨S152, rfl, hF151⟩
                  refine ⟨_, rfl, ?_⟩
                  have hL := hL.mut 0 rfl hF151
                  simp only [lA, lB, lC, lD] at hL
                  refine OW.cons (OP.val (v := (.int .i64 x147.1)) rfl (x_assign) ?_)
                  refine OW.nil ?_
                  refine CW.seq ?_
                  refine CW.regionL ?_
                  refine OW.cons (OP.val (v := (.int .i64 1)) rfl (x_assign) ?_)
                  refine OW.nil ?_
                  refine CW.seq ?_
                  refine CW.regionL ?_
                  refine OW.cons (OP.val (v := v67) rfl (x_mv f144) ?_)
                  refine OW.cons (OP.val (v := (.int .i64 1)) rfl (x_move) ?_)
                  obtain ⟨x153, hx154, hm⟩ := bndE hm
                  refine OW.cons (OP.call rfl (x_call (vs := [v67, (.int .i64 1)]) Try_C29 ⟨rfl, rfl, trivial⟩) (M.laws_heldRatingS_ok _ x147.2 (hL.rdO 0 rfl) 1 hx154) ?_)
                  rintro e155 wd156 ⟨rfl, hF157⟩
                  refine ⟨_, rfl, ?_⟩
                  have hL := hL.pushAll hF157
                  simp only [lA, lB, lC, lD] at hL
                  refine OW.cons (OP.val (v := (.int .i64 x153)) rfl (x_assign) ?_)
                  refine OW.nil ?_
                  refine CW.seq ?_
                  refine CW.seq ?_
                  refine CW.regionL ?_
                  refine OW.cons (OP.val (v := (.int .i64 x153)) rfl (x_move) ?_)
                  refine OW.cons (OP.val (v := (.bool (decide (x153 < 0)))) rfl (x_lss rfl rfl) ?_)
                  refine OW.nil ?_
                  refine CW.condM (t := decide (x153 < 0)) rfl hm (fun hb158 hm => ?_) (fun hb158 hm => ?_)
                  · refine CW.seq ?_
                    refine CW.regionL ?_
                    refine OW.cons (OP.val (v := (.bool false)) rfl (x_assign) ?_)
                    refine OW.nil ?_
                    refine CW.ret ?_
                    obtain rfl := Option.some.inj hm
                    exact RR1 rfl rfl ⟨rfl, hL.fresh 3 rfl [] (by decide) (by decide) rfl⟩
                  · refine CW.skip ?_
                    refine CW.seq ?_
                    refine CW.seq ?_
                    refine CW.regionL ?_
                    refine OW.cons (OP.val (v := (.int .i64 x153)) rfl (x_move) ?_)
                    refine OW.cons (OP.val (v := (.int .i64 x147.1)) rfl (x_move) ?_)
                    refine OW.cons (OP.val (v := (.bool (x153 != x147.1))) rfl (x_neq rfl rfl) ?_)
                    refine OW.nil ?_
                    refine CW.condM (t := x153 != x147.1) rfl hm (fun hb159 hm => ?_) (fun hb159 hm => ?_)
                    · refine CW.seq ?_
                      refine CW.regionL ?_
                      refine OW.cons (OP.val (v := (.bool false)) rfl (x_assign) ?_)
                      refine OW.nil ?_
                      refine CW.ret ?_
                      obtain rfl := Option.some.inj hm
                      exact RR1 rfl rfl ⟨rfl, hL.fresh 3 rfl [] (by decide) (by decide) rfl⟩
                    · refine CW.skip ?_
                      refine CW.seq ?_
                      refine CW.regionL ?_
                      refine OW.cons (OP.val (v := (.agg #[(.int .i64 a0.Gain), (.int .i64 a0.Step), (.int .i64 a0.Low), (.int .i64 a0.High)])) rfl (x_loadN (cs := [(.int .i64 a0.Gain), (.int .i64 a0.Step), (.int .i64 a0.Low), (.int .i64 a0.High)]) Try.underlying43 Try_T43 rfl f141 (hL.cellsB 2 rfl (o := 0) (l := [(.int .i64 a0.Gain), (.int .i64 a0.Step), (.int .i64 a0.Low), (.int .i64 a0.High)]) (by intro j u hj; exact (by simpa using hj)))) ?_)
                      obtain ⟨x160, hx161, hm⟩ := bndE hm
                      refine OW.cons (OP.call rfl (x_call (vs := [(.agg #[(.int .i64 a0.Gain), (.int .i64 a0.Step), (.int .i64 a0.Low), (.int .i64 a0.High)])]) Try_C27 ⟨rfl, trivial⟩) (M.laws_toProgressRules_ok _ a0 hx161) ?_)
                      rintro e162 wd163 ⟨rfl, hF164⟩
                      refine ⟨_, rfl, ?_⟩
                      have hL := hL.pushAll hF164
                      simp only [lA, lB, lC, lD] at hL
                      refine OW.cons (OP.val (v := (.int .i64 a1)) rfl (x_mv f138) ?_)
                      refine OW.cons (OP.val (v := v1) rfl (x_mv f139) ?_)
                      obtain ⟨x165, hx166, hm⟩ := bndE hm
                      refine OW.cons (OP.call rfl (x_call (vs := [v1]) Try_C14 ⟨rfl, trivial⟩) (M.laws_toFinishS_ok _ a2 (hL.rdS 3 rfl h2) hx166) ?_)
                      rintro e169 wd170 ⟨v168, S167, rfl, hF171⟩
                      refine ⟨_, rfl, ?_⟩
                      have hL := hL.pushAll hF171
                      simp only [lA, lB, lC, lD] at hL
                      refine OW.cons (OP.val (v := v3) rfl (x_mv f140) ?_)
                      obtain ⟨x172, hx173, hm⟩ := bndE hm
                      refine OW.cons (OP.call rfl (x_call (vs := [v3]) Try_C15 ⟨rfl, trivial⟩) (M.laws_toRatingS_ok _ a3 (hL.rdS 4 rfl h4) hx173) ?_)
                      rintro e176 wd177 ⟨v175, S174, rfl, hF178⟩
                      refine ⟨_, rfl, ?_⟩
                      have hL := hL.pushAll hF178
                      simp only [lA, lB, lC, lD] at hL
                      obtain ⟨x179, hx180, hm⟩ := bndE hm
                      refine OW.cons (OP.call rfl (x_call (vs := [(.agg #[(.int .i64 x160.Gain), (.int .i64 x160.Step), (.int .i64 x160.Low), (.int .i64 x160.High)]), (.int .i64 a1), v168, v175]) Try_C28 ⟨rfl, rfl, rfl, rfl, trivial⟩) (M.impl_ProgressRace_ok _ x160 a1 x165 (hL.rdO 1 rfl) x172 (hL.rdO 0 rfl) hx180) ?_)
                      rintro e183 wd184 ⟨v182, S181, rfl, hF185⟩
                      refine ⟨_, rfl, ?_⟩
                      have hL := hL.pushAll hF185
                      simp only [lA, lB, lC, lD] at hL
                      refine OW.cons (OP.val (v := (.tuple #[v182, (.int .i64 x179.2)])) rfl (x_move) ?_)
                      refine OW.cons (OP.val (v := v182) rfl (x_extract rfl rfl) ?_)
                      refine OW.cons (OP.val (v := (.int .i64 x179.2)) rfl (x_extract rfl rfl) ?_)
                      refine OW.cons (OP.val (v := v182) rfl (x_assign) ?_)
                      refine OW.cons (OP.val (v := (.int .i64 x179.2)) rfl (x_assign) ?_)
                      refine OW.nil ?_
                      refine CW.seq ?_
                      refine CW.seqJ (fun (s_j3 : Bool) (F : Fr) (w : World) => F 14 = v67 ∧ F 17 = (.int .i64 x147.1) ∧ F 123 = (.bool s_j3) ∧ Hp w0 [Ent.own 61 S152 v67 x147.2, Ent.blk b6 43 #[(.int .i64 a0.Gain), (.int .i64 a0.Step), (.int .i64 a0.Low), (.int .i64 a0.High)], Ent.snap w0 w0.heap.size] w) (fun s_j3 => M.laws_FnExactProgressRace_j3 x147 s_j3 = some r) ?_ ?_
                      · refine CW.regionL ?_
                        refine OW.cons (OP.val (v := v182) rfl (x_move) ?_)
                        refine OW.cons (OP.val (v := v41) rfl (x_mv f142) ?_)
                        obtain ⟨x205, hx206, hm⟩ := bndE hm
                        refine OW.cons (OP.call rfl (x_call (vs := [v182, v41]) Try_C18 ⟨rfl, rfl, trivial⟩) (M.laws_eqRatingS_ok _ x179.1 (hL.rdO 0 rfl) x38.1 (hL.rdO 4 rfl) hx206) ?_)
                        rintro e207 wd208 ⟨rfl, hF209⟩
                        refine ⟨_, rfl, ?_⟩
                        have hL := hL.pushAll hF209
                        simp only [lA, lB, lC, lD] at hL
                        refine OW.cons (OP.val (v := (.bool (!x205))) rfl (x_not rfl) ?_)
                        refine OW.cons (OP.val (v := (.bool (!x205))) rfl (x_move) ?_)
                        refine ifB_elim hm (fun hb210 hm => ?_) (fun hb210 hm => ?_)
                        · refine OW.cons (OP.no' rfl rfl hb210 rfl ?_)
                          refine OW.cons (OP.no' rfl rfl hb210 rfl ?_)
                          refine OW.cons (OP.no' rfl rfl hb210 rfl ?_)
                          refine OW.cons (OP.val (v := (.bool true)) rfl (x_pickT' rfl hb210 rfl) ?_)
                          refine OW.nil ?_
                          have hL := hL.sel [3, 5, 6] (by decide) rfl
                          exact ⟨true, hm, ⟨f144, rfl, rfl, hL⟩⟩
                        · refine OW.cons (OP.yes' rfl rfl hb210 (OP.val (v := (.int .i64 x179.2)) rfl (x_move) ?_))
                          refine OW.cons (OP.yes' rfl rfl hb210 (OP.val (v := (.int .i64 x38.2)) rfl (x_mv f143) ?_))
                          refine OW.cons (OP.yes' rfl rfl hb210 (OP.val (v := (.bool (x179.2 != x38.2))) rfl (x_neq rfl rfl) ?_))
                          refine OW.cons (OP.val (v := (.bool (x179.2 != x38.2))) rfl (x_pickF' rfl hb210 rfl) ?_)
                          refine OW.nil ?_
                          have hL := hL.sel [3, 5, 6] (by decide) rfl
                          exact ⟨x179.2 != x38.2, hm, ⟨f144, rfl, rfl, hL⟩⟩
                      · intro s_j3 F192 wd193 hJ hm
                        unfold M.laws_FnExactProgressRace_j3 at hm
                        obtain ⟨f194, f195, f196, hL⟩ := hJ
                        refine CW.condM (t := s_j3) f196 hm (fun hb197 hm => ?_) (fun hb197 hm => ?_)
                        · refine CW.seq ?_
                          refine CW.regionL ?_
                          refine OW.cons (OP.val (v := (.bool false)) rfl (x_assign) ?_)
                          refine OW.nil ?_
                          refine CW.ret ?_
                          obtain rfl := Option.some.inj hm
                          exact RR1 rfl rfl ⟨rfl, hL.fresh 2 rfl [] (by decide) (by decide) rfl⟩
                        · refine CW.skip ?_
                          refine CW.seq ?_
                          refine CW.regionL ?_
                          refine OW.cons (OP.val (v := (.int .i64 1)) rfl (x_assign) ?_)
                          refine OW.nil ?_
                          refine CW.seq ?_
                          refine CW.regionL ?_
                          refine OW.cons (OP.val (v := v67) rfl (x_mv f194) ?_)
                          refine OW.cons (OP.val (v := (.int .i64 1)) rfl (x_move) ?_)
                          obtain ⟨x198, hx199, hm⟩ := bndE hm
                          refine OW.cons (OP.call rfl (x_call (vs := [v67, (.int .i64 1)]) Try_C29 ⟨rfl, rfl, trivial⟩) (M.laws_heldRatingS_ok _ x147.2 (hL.rdO 0 rfl) 1 hx199) ?_)
                          rintro e200 wd201 ⟨rfl, hF202⟩
                          refine ⟨_, rfl, ?_⟩
                          have hL := hL.pushAll hF202
                          simp only [lA, lB, lC, lD] at hL
                          refine OW.cons (OP.val (v := (.int .i64 x198)) rfl (x_assign) ?_)
                          refine OW.nil ?_
                          refine CW.seq ?_
                          refine CW.seq ?_
                          refine CW.regionL ?_
                          refine OW.cons (OP.val (v := (.int .i64 x198)) rfl (x_move) ?_)
                          refine OW.cons (OP.val (v := (.bool (decide (x198 < 0)))) rfl (x_lss rfl rfl) ?_)
                          refine OW.nil ?_
                          refine CW.condM (t := decide (x198 < 0)) rfl hm (fun hb203 hm => ?_) (fun hb203 hm => ?_)
                          · refine CW.seq ?_
                            refine CW.regionL ?_
                            refine OW.cons (OP.val (v := (.bool false)) rfl (x_assign) ?_)
                            refine OW.nil ?_
                            refine CW.ret ?_
                            obtain rfl := Option.some.inj hm
                            exact RR1 rfl rfl ⟨rfl, hL.fresh 2 rfl [] (by decide) (by decide) rfl⟩
                          · refine CW.skip ?_
                            refine CW.seq ?_
                            refine CW.seq ?_
                            refine CW.regionL ?_
                            refine OW.cons (OP.val (v := (.int .i64 x198)) rfl (x_move) ?_)
                            refine OW.cons (OP.val (v := (.int .i64 x147.1)) rfl (x_mv f195) ?_)
                            refine OW.cons (OP.val (v := (.bool (x198 != x147.1))) rfl (x_neq rfl rfl) ?_)
                            refine OW.nil ?_
                            refine CW.condM (t := x198 != x147.1) rfl hm (fun hb204 hm => ?_) (fun hb204 hm => ?_)
                            · refine CW.seq ?_
                              refine CW.regionL ?_
                              refine OW.cons (OP.val (v := (.bool false)) rfl (x_assign) ?_)
                              refine OW.nil ?_
                              refine CW.ret ?_
                              obtain rfl := Option.some.inj hm
                              exact RR1 rfl rfl ⟨rfl, hL.fresh 2 rfl [] (by decide) (by decide) rfl⟩
                            · refine CW.skip ?_
                              refine CW.seq ?_
                              refine CW.regionL ?_
                              refine OW.cons (OP.val (v := (.bool true)) rfl (x_assign) ?_)
                              refine OW.nil ?_
                              refine CW.ret ?_
                              obtain rfl := Option.some.inj hm
                              exact RR1 rfl rfl ⟨rfl, hL.fresh 2 rfl [] (by decide) (by decide) rfl⟩

end Go.Proofs.Ytbkpfcpbpnmjaaa
