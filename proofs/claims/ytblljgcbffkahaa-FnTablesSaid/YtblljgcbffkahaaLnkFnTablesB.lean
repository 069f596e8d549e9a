/- Links: each Go function returns what its model computes and leaves what was there. Printed by my generator. -/
import Derived.Test.YtblljgcbffkahaaLnkFnTablesA
namespace Go.Proofs.Ytblljgcbffkahaa
set_option maxRecDepth 10000
open Go Go.RowKit Go.ChangeShapes Go.WideShapes
set_option linter.unusedVariables false
set_option linter.unusedSimpArgs false

theorem M.spec_l26DrawSeries_ok (w0 : World) {b1 : Nat} {v2 : Value} (a0 : Src) (h3 : rdL (fun k => k < w0.heap.size ∧ ¬ (Ent.blk b1 111 #[v2, .int .i64 a0.at_, .int .i64 a0.seed]).S k) w0 v2 a0.code) (he4 : (Ent.blk b1 111 #[v2, .int .i64 a0.at_, .int .i64 a0.seed]).H w0) {r : (Series) × (Int × Int)} (hm : M.spec_l26DrawSeries a0 = some r) :
    Calls Try.prog 75 #[(.pointer (some ⟨b1, 0, none⟩))] w0 fun e w' => ∃ (rv0 : Value) (rS0 : Nat → Prop), e = .returned (.agg #[(.int .i64 r.1.Boats), (.int .i64 r.1.Scheme), rv0]) ∧ Mut w0 w' (Ent.blk b1 111 #[v2, .int .i64 a0.at_, .int .i64 a0.seed]).S [Ent.blk b1 111 #[v2, .int .i64 r.2.1, .int .i64 r.2.2], Ent.own 29 rS0 rv0 r.1.Races] := by
  unfold M.spec_l26DrawSeries at hm
  refine calls_CW (args := [(.pointer (some ⟨b1, 0, none⟩))]) Try.func75 rfl rfl rfl ?_
  have hL := Hp.startIO he4
  refine CW.seq ?_
  refine CW.regionL ?_
  refine OW.cons (S_alloc (cs := #[(.int .i64 0), (.int .i64 0), (.slice none 0 0)]) hL Try_T49 rfl rfl ?_)
  intro wd5 b6 hL
  refine OW.nil ?_
  refine CW.seq ?_
  refine CW.regionL ?_
  refine OW.cons (OP.val (v := (.pointer (some ⟨b1, 0, none⟩))) rfl (x_move) ?_)
  obtain ⟨x7, hx8, hm⟩ := bndE hm
  refine OW.cons (OP.call rfl (x_call (vs := [(.pointer (some ⟨b1, 0, none⟩))]) Try_C88 ⟨rfl, trivial⟩) (M.spec_l26DrawBoats_ok _ (Src.mk a0.code a0.at_ a0.seed) (hL.exZ 2 1 (by decide) rfl rfl h3) (hL.get 1 rfl) hx8) ?_)
  rintro e9 wd10 ⟨rfl, hF11⟩
  refine ⟨_, rfl, ?_⟩
  have hL := hL.mut 1 rfl hF11
  simp only [List.cons_append, List.nil_append, List.set_cons_zero, List.set_cons_succ] at hL
  refine OW.cons (OP.val (v := (.int .i64 x7.1)) rfl (x_assign) ?_)
  refine OW.nil ?_
  refine CW.seq ?_
  refine CW.regionL ?_
  refine OW.cons (OP.val (v := (.int .i64 x7.1)) rfl (x_move) ?_)
  refine OW.cons (OP.val (v := (.pointer (some ⟨b1, 0, none⟩))) rfl (x_move) ?_)
  obtain ⟨x12, hx13, hm⟩ := bndE hm
  refine OW.cons (OP.call rfl (x_call (vs := [(.pointer (some ⟨b1, 0, none⟩)), (.int .i64 2)]) Try_C72 ⟨rfl, rfl, trivial⟩) (M.spec_l01Next_ok _ (Src.mk a0.code x7.2.1 x7.2.2) (hL.exZ 2 1 (by decide) rfl rfl h3) (hL.get 1 rfl) 2 hx13) ?_)
  rintro e14 wd15 ⟨rfl, hF16⟩
  refine ⟨_, rfl, ?_⟩
  have hL := hL.mut 1 rfl hF16
  simp only [List.cons_append, List.nil_append, List.set_cons_zero, List.set_cons_succ] at hL
  refine OW.cons (S_lit0 (α := Finish) Race hL Try.underlying47 Try_T29 rfl ?_)
  intro wd17 v18 S19 hL
  refine OW.cons (OP.val (v := (.agg #[(.int .i64 x7.1), (.int .i64 x12.1), v18])) rfl (x_build Try_B49 (ps := [(0, (.int .i64 x7.1)), (1, (.int .i64 x12.1)), (2, v18)]) ⟨⟨rfl, rfl⟩, ⟨rfl, rfl⟩, ⟨rfl, rfl⟩, trivial⟩ (by simp [Instr.fill, cells_int, cells_bool, cells_string, cells_agg, cells_slice, cells_pointer, (rdL_cells (hL.rdO 0 rfl))])) ?_)
  refine OW.cons (S_alloc (cs := #[(.int .i64 0), (.int .i64 0), (.slice none 0 0)]) hL Try_T49 rfl rfl ?_)
  intro wd20 b21 hL
  refine OW.cons (S_storeN (l := [(.int .i64 x7.1), (.int .i64 x12.1), v18]) (cs' := #[(.int .i64 x7.1), (.int .i64 x12.1), v18]) hL 0 rfl Try_T49 rfl rfl (List.forall_mem_cons.2 ⟨rfl, (List.forall_mem_cons.2 ⟨rfl, (List.forall_mem_cons.2 ⟨rdL_one (hL.rdO 1 rfl), (fun _ h => by cases h)⟩)⟩)⟩) rfl (Nat.le_of_ble_eq_true rfl) rfl ?_)
  intro wd22 hL
  refine OW.nil ?_
  refine CW.seq ?_
  refine CW.regionL ?_
  refine OW.cons (S_lit0 (α := Finish) Race hL Try.underlying47 Try_T29 rfl ?_)
  intro wd23 v24 S25 hL
  refine OW.cons (OP.val (v := v24) rfl (x_assign) ?_)
  refine OW.nil ?_
  refine CW.seq ?_
  refine CW.seq ?_
  refine CW.regionL ?_
  refine OW.cons (OP.val (v := (.pointer (some ⟨b1, 0, none⟩))) rfl (x_move) ?_)
  obtain ⟨x26, hx27, hm⟩ := bndE hm
  refine OW.cons (OP.call rfl (x_call (vs := [(.pointer (some ⟨b1, 0, none⟩)), (.int .i64 7)]) Try_C72 ⟨rfl, rfl, trivial⟩) (M.spec_l01Next_ok _ (Src.mk a0.code x12.2.1 x12.2.2) (hL.exZ 5 4 (by decide) rfl rfl h3) (hL.get 4 rfl) 7 hx27) ?_)
  rintro e28 wd29 ⟨rfl, hF30⟩
  refine ⟨_, rfl, ?_⟩
  have hL := hL.mut 4 rfl hF30
  simp only [List.cons_append, List.nil_append, List.set_cons_zero, List.set_cons_succ] at hL
  refine OW.cons (OP.val (v := (.int .i64 x26.1)) rfl (x_assign) ?_)
  refine OW.nil ?_
  obtain ⟨o67, ho68, hm⟩ := bndE hm
  refine CW.loopB (fun (s_l1 : Int × Int × (List Race) × Int) (F : Fr) (w : World) => ∃ (v63 : Value) (S64 : Nat → Prop), F 0 = (.pointer (some ⟨b1, 0, none⟩)) ∧ F 2 = (.pointer (some ⟨b6, 0, none⟩)) ∧ F 3 = (.int .i64 x7.1) ∧ F 4 = (.pointer (some ⟨b21, 0, none⟩)) ∧ F 5 = v63 ∧ F 6 = (.int .i64 s_l1.2.2.2) ∧ Hp w0 [Ent.own 29 S64 v63 s_l1.2.2.1, Ent.blk b21 49 #[(.int .i64 x7.1), (.int .i64 x12.1), v18], Ent.own 29 S19 v18 ([] : List Race), Ent.blk b6 49 #[(.int .i64 0), (.int .i64 0), (.slice none 0 0)], Ent.blk b1 111 #[v2, (.int .i64 s_l1.1), (.int .i64 s_l1.2.1)], Ent.frz w0 (Ent.blk b1 111 #[v2, .int .i64 a0.at_, .int .i64 a0.seed]).S] w) (fun o => outc o (fun x => some x) (fun s => M.spec_l26DrawSeries_a1 a0 x7 x12 s) = some r) ho68 hm ⟨v24, S25, rfl, rfl, rfl, rfl, rfl, rfl, hL⟩ ?_ ?_
  · intro s_l1 F69 wd70 hJ hm
    have hm := outcE hm
    have hm : M.spec_l26DrawSeries_a1 a0 x7 x12 s_l1 = some r := hm
    unfold M.spec_l26DrawSeries_a1 at hm
    obtain ⟨v63, S64, f71, f72, f73, f74, f75, f76, hL⟩ := hJ
    refine CW.seqJ (fun (s_j1 : Int × Int × Int × (List Race)) (F : Fr) (w : World) => ∃ (v275 : Value) (S276 : Nat → Prop), F 2 = (.pointer (some ⟨b6, 0, none⟩)) ∧ F 4 = (.pointer (some ⟨b21, 0, none⟩)) ∧ F 5 = v275 ∧ Hp w0 [Ent.own 29 S276 v275 s_j1.2.2.2, Ent.blk b21 49 #[(.int .i64 x7.1), (.int .i64 s_j1.2.2.1), v18], Ent.own 29 S19 v18 ([] : List Race), Ent.blk b6 49 #[(.int .i64 0), (.int .i64 0), (.slice none 0 0)], Ent.blk b1 111 #[v2, (.int .i64 s_j1.1), (.int .i64 s_j1.2.1)], Ent.frz w0 (Ent.blk b1 111 #[v2, .int .i64 a0.at_, .int .i64 a0.seed]).S] w) (fun s_j1 => M.spec_l26DrawSeries_j1 x7 s_j1 = some r) ?_ ?_
    · refine CW.seq ?_
      refine CW.regionL ?_
      refine OW.cons (OP.val (v := (.pointer (some ⟨b1, 0, none⟩))) rfl (x_mv f71) ?_)
      obtain ⟨x283, hx284, hm⟩ := bndE hm
      refine OW.cons (OP.call rfl (x_call (vs := [(.pointer (some ⟨b1, 0, none⟩)), (.int .i64 30)]) Try_C72 ⟨rfl, rfl, trivial⟩) (M.spec_l01Next_ok _ (Src.mk a0.code s_l1.1 s_l1.2.1) (hL.exZ 5 4 (by decide) rfl rfl h3) (hL.get 4 rfl) 30 hx284) ?_)
      rintro e285 wd286 ⟨rfl, hF287⟩
      refine ⟨_, rfl, ?_⟩
      have hL := hL.mut 4 rfl hF287
      simp only [List.cons_append, List.nil_append, List.set_cons_zero, List.set_cons_succ] at hL
      refine OW.nil ?_
      refine CW.blockJ (fun (s_j2 : Int × Int × Int × (List Race)) (F : Fr) (w : World) => ∃ (v381 : Value) (S382 : Nat → Prop), F 2 = (.pointer (some ⟨b6, 0, none⟩)) ∧ F 4 = (.pointer (some ⟨b21, 0, none⟩)) ∧ F 5 = v381 ∧ Hp w0 [Ent.own 29 S382 v381 s_j2.2.2.2, Ent.blk b21 49 #[(.int .i64 x7.1), (.int .i64 s_j2.2.2.1), v18], Ent.own 29 S19 v18 ([] : List Race), Ent.blk b6 49 #[(.int .i64 0), (.int .i64 0), (.slice none 0 0)], Ent.blk b1 111 #[v2, (.int .i64 s_j2.1), (.int .i64 s_j2.2.1)], Ent.frz w0 (Ent.blk b1 111 #[v2, .int .i64 a0.at_, .int .i64 a0.seed]).S] w) (fun s_j2 => M.spec_l26DrawSeries_j2 x7 s_j2 = some r) ?_ ?_
      · refine CW.seq ?_
        refine CW.regionL ?_
        refine OW.cons (OP.val (v := (.bool (x283.1 == 0))) rfl (x_eql rfl rfl) ?_)
        refine OW.cons (OP.val (v := (.bool (x283.1 == 0))) rfl (x_assign) ?_)
        refine OW.nil ?_
        refine CW.condM (t := x283.1 == 0) rfl hm (fun hb388 hm => ?_) (fun hb388 hm => ?_)
        · refine CW.regionL ?_
          refine OW.cons (OP.val (v := (.pointer (some ⟨b21, 1, none⟩))) rfl (x_fieldAddr (fsz := 1) 0 1 1 Try.underlying49 rfl Try_T2 rfl f74 rfl) ?_)
          refine OW.cons (S_store (cs' := #[(.int .i64 x7.1), (.int .i64 2), v18]) hL 1 rfl Try_T2 rfl rfl rfl rfl rfl ?_)
          intro wd389 hL
          refine OW.nil ?_
          exact ⟨(x283.2.1, x283.2.2, 2, s_l1.2.2.1), hm, ⟨v63, S64, f72, f74, f75, hL⟩⟩
        · refine CW.seq ?_
          refine CW.regionL ?_
          refine OW.cons (OP.val (v := (.bool (x283.1 == 1))) rfl (x_eql rfl rfl) ?_)
          refine OW.cons (OP.val (v := (.bool (x283.1 == 1))) rfl (x_assign) ?_)
          refine OW.nil ?_
          refine CW.condM (t := x283.1 == 1) rfl hm (fun hb390 hm => ?_) (fun hb390 hm => ?_)
          · refine CW.regionL ?_
            refine OW.cons (OP.val (v := v63) rfl (x_mv f75) ?_)
            refine OW.cons (OP.val (v := (.pointer (some ⟨b1, 0, none⟩))) rfl (x_mv f71) ?_)
            refine OW.cons (OP.val (v := (.int .i64 x7.1)) rfl (x_mv f73) ?_)
            refine OW.cons (OP.val (v := (.int .i64 (w64 (x7.1 + 1)))) rfl (x_add rfl rfl) ?_)
            obtain ⟨x391, hx392, hm⟩ := bndE hm
            refine OW.cons (OP.call rfl (x_call (vs := [(.pointer (some ⟨b1, 0, none⟩)), (.int .i64 (w64 (x7.1 + 1)))]) Try_C91 ⟨rfl, rfl, trivial⟩) (M.spec_l26DrawRace_ok _ (Src.mk a0.code x283.2.1 x283.2.2) (hL.exZ 5 4 (by decide) rfl rfl h3) (hL.get 4 rfl) (w64 (x7.1 + 1)) hx392) ?_)
            rintro e395 wd396 ⟨v394, S393, rfl, hF397⟩
            refine ⟨_, rfl, ?_⟩
            have hL := hL.mut 4 rfl hF397
            simp only [List.cons_append, List.nil_append, List.set_cons_zero, List.set_cons_succ] at hL
            refine OW.cons (S_lit1 (Race.mk x391.1.Finishes) rfl hL Try.underlying47 Try_T29 rfl rfl ?_)
            intro wd398 v399 S400 hL
            obtain ⟨hc404, hm⟩ := chkE hm
            have hL := hL.sel [1, 0, 2, 3, 4, 5, 6] (by decide) rfl
            refine OW.cons (S_appendN Finish hL Try.underlying47 Try_T29 rfl rfl rfl hc404 (by decide) rfl ?_)
            intro wd401 v402 S403 hL
            refine OW.cons (OP.val (v := v402) rfl (x_assign) ?_)
            refine OW.nil ?_
            exact ⟨(x391.2.1, x391.2.2, x12.1, s_l1.2.2.1 ++ ([(Race.mk x391.1.Finishes)] : List Race)), hm, ⟨v402, S403, f72, f74, rfl, hL⟩⟩
          · refine CW.seq ?_
            refine CW.regionL ?_
            refine OW.cons (OP.val (v := (.bool (x283.1 == 2))) rfl (x_eql rfl rfl) ?_)
            refine OW.cons (OP.val (v := (.bool (x283.1 == 2))) rfl (x_assign) ?_)
            refine OW.nil ?_
            refine CW.condM (t := x283.1 == 2) rfl hm (fun hb405 hm => ?_) (fun hb405 hm => ?_)
            · refine CW.seq ?_
              obtain ⟨o442, ho443, hm⟩ := bndE hm
              refine CW.loopB (fun (s_l2 : Int × Int × (List Race)) (F : Fr) (w : World) => ∃ (v438 : Value) (S439 : Nat → Prop), F 0 = (.pointer (some ⟨b1, 0, none⟩)) ∧ F 2 = (.pointer (some ⟨b6, 0, none⟩)) ∧ F 3 = (.int .i64 x7.1) ∧ F 4 = (.pointer (some ⟨b21, 0, none⟩)) ∧ F 5 = v438 ∧ Hp w0 [Ent.own 29 S439 v438 s_l2.2.2, Ent.blk b21 49 #[(.int .i64 x7.1), (.int .i64 x12.1), v18], Ent.own 29 S19 v18 ([] : List Race), Ent.blk b6 49 #[(.int .i64 0), (.int .i64 0), (.slice none 0 0)], Ent.blk b1 111 #[v2, (.int .i64 s_l2.1), (.int .i64 s_l2.2.1)], Ent.frz w0 (Ent.blk b1 111 #[v2, .int .i64 a0.at_, .int .i64 a0.seed]).S] w) (fun o => outc o (fun x => some x) (fun s => M.spec_l26DrawSeries_a2 a0 x7 x12 s) = some r) ho443 hm ⟨v63, S64, f71, f72, f73, f74, f75, hL⟩ ?_ ?_
              · intro s_l2 F444 wd445 hJ hm
                have hm := outcE hm
                have hm : M.spec_l26DrawSeries_a2 a0 x7 x12 s_l2 = some r := hm
                unfold M.spec_l26DrawSeries_a2 at hm
                obtain ⟨v438, S439, f446, f447, f448, f449, f450, hL⟩ := hJ
                refine CW.regionL ?_
                refine OW.cons (OP.val (v := v438) rfl (x_mv f450) ?_)
                refine OW.cons (OP.val (v := (.pointer (some ⟨b1, 0, none⟩))) rfl (x_mv f446) ?_)
                obtain ⟨x451, hx452, hm⟩ := bndE hm
                refine OW.cons (OP.call rfl (x_call (vs := [(.pointer (some ⟨b1, 0, none⟩)), (.int .i64 2)]) Try_C72 ⟨rfl, rfl, trivial⟩) (M.spec_l01Next_ok _ (Src.mk a0.code s_l2.1 s_l2.2.1) (hL.exZ 5 4 (by decide) rfl rfl h3) (hL.get 4 rfl) 2 hx452) ?_)
                rintro e453 wd454 ⟨rfl, hF455⟩
                refine ⟨_, rfl, ?_⟩
                have hL := hL.mut 4 rfl hF455
                simp only [List.cons_append, List.nil_append, List.set_cons_zero, List.set_cons_succ] at hL
                refine OW.cons (OP.val (v := (.int .i64 (w64 (12 + x451.1)))) rfl (x_add rfl rfl) ?_)
                obtain ⟨hc458, hm⟩ := chkE hm
                obtain ⟨v456, hs457⟩ := subV_of (hL.rdO 0 rfl) hc458
                refine OW.cons (OP.val (v := v456) rfl (x_slice0 Try.underlying47 Try_T29 rfl rfl hs457) ?_)
                refine OW.cons (OP.val (v := v456) rfl (x_assign) ?_)
                refine OW.nil ?_
                have hL := hL.prefix 0 rfl hs457
                exact ⟨(x451.2.1, x451.2.2, x12.1, subL s_l2.2.2 0 (w64 (12 + x451.1))), hm, ⟨v456, S439, f447, f449, rfl, hL⟩⟩
              · intro s_l2 F459 wd460 t440 hJ hm hr441
                unfold M.spec_l26DrawSeries_l2 at hm
                obtain ⟨v438, S439, f461, f462, f463, f464, f465, hL⟩ := hJ
                refine CW.seq ?_
                refine CW.seq ?_
                refine CW.regionL ?_
                refine OW.cons (OP.val (v := v438) rfl (x_mv f465) ?_)
                refine OW.cons (OP.val (v := (.int .i64 (s_l2.2.2.length : Int))) rfl (x_lenR Try.underlying47 rfl (hL.rdO 0 rfl)) ?_)
                refine OW.cons (OP.val (v := (.bool (decide ((s_l2.2.2.length : Int) < 13)))) rfl (x_lss rfl rfl) ?_)
                refine OW.nil ?_
                refine CW.condM (t := decide ((s_l2.2.2.length : Int) < 13)) rfl hm (fun hb466 hm => ?_) (fun hb466 hm => ?_)
                · refine CW.skip ?_
                  refine CW.block ?_
                  refine CW.regionL ?_
                  refine OW.cons (OP.val (v := v438) rfl (x_mv f465) ?_)
                  refine OW.cons (OP.val (v := (.pointer (some ⟨b1, 0, none⟩))) rfl (x_mv f461) ?_)
                  refine OW.cons (OP.val (v := (.int .i64 x7.1)) rfl (x_mv f463) ?_)
                  obtain ⟨x467, hx468, hm⟩ := bndE hm
                  refine OW.cons (OP.call rfl (x_call (vs := [(.pointer (some ⟨b1, 0, none⟩)), (.int .i64 x7.1)]) Try_C91 ⟨rfl, rfl, trivial⟩) (M.spec_l26DrawRace_ok _ (Src.mk a0.code s_l2.1 s_l2.2.1) (hL.exZ 5 4 (by decide) rfl rfl h3) (hL.get 4 rfl) x7.1 hx468) ?_)
                  rintro e471 wd472 ⟨v470, S469, rfl, hF473⟩
                  refine ⟨_, rfl, ?_⟩
                  have hL := hL.mut 4 rfl hF473
                  simp only [List.cons_append, List.nil_append, List.set_cons_zero, List.set_cons_succ] at hL
                  refine OW.cons (S_lit1 (Race.mk x467.1.Finishes) rfl hL Try.underlying47 Try_T29 rfl rfl ?_)
                  intro wd474 v475 S476 hL
                  obtain ⟨hc480, hm⟩ := chkE hm
                  have hL := hL.sel [1, 0, 2, 3, 4, 5, 6] (by decide) rfl
                  refine OW.cons (S_appendN Finish hL Try.underlying47 Try_T29 rfl rfl rfl hc480 (by decide) rfl ?_)
                  intro wd477 v478 S479 hL
                  refine OW.cons (OP.val (v := v478) rfl (x_assign) ?_)
                  refine OW.nil ?_
                  obtain rfl := Option.some.inj hm
                  exact ⟨_, rfl, ⟨v478, S479, f461, f462, f463, f464, rfl, hL⟩⟩
                · refine CW.exit ?_
                  refine XJ.hit ?_
                  obtain rfl := Option.some.inj hm
                  exact ⟨_, rfl, ⟨v438, S439, f461, f462, f463, f464, f465, hL⟩⟩
            · refine CW.skip ?_
              exact ⟨(x283.2.1, x283.2.2, x12.1, s_l1.2.2.1), hm, ⟨v63, S64, f72, f74, f75, hL⟩⟩
      · intro s_j2 F383 wd384 hJ hm
        unfold M.spec_l26DrawSeries_j2 at hm
        obtain ⟨v381, S382, f385, f386, f387, hL⟩ := hJ
        exact ⟨(s_j2.1, s_j2.2.1, s_j2.2.2.1, s_j2.2.2.2), hm, ⟨v381, S382, f385, f386, f387, hL⟩⟩
    · intro s_j1 F277 wd278 hJ hm
      unfold M.spec_l26DrawSeries_j1 at hm
      obtain ⟨v275, S276, f279, f280, f281, hL⟩ := hJ
      refine CW.seq ?_
      refine CW.regionL ?_
      refine OW.cons (OP.val (v := (.pointer (some ⟨b21, 0, none⟩))) rfl (x_fieldAddr (fsz := 1) 0 0 0 Try.underlying49 rfl Try_T2 rfl f280 rfl) ?_)
      refine OW.cons (OP.val (v := (.int .i64 x7.1)) rfl (x_load1 Try.underlying2 rfl rfl (hL.cellB 1 rfl rfl)) ?_)
      refine OW.cons (OP.val (v := (.pointer (some ⟨b21, 1, none⟩))) rfl (x_fieldAddr (fsz := 1) 0 1 1 Try.underlying49 rfl Try_T2 rfl f280 rfl) ?_)
      refine OW.cons (OP.val (v := (.int .i64 s_j1.2.2.1)) rfl (x_load1 Try.underlying2 rfl rfl (hL.cellB 1 rfl rfl)) ?_)
      refine OW.cons (OP.val (v := v275) rfl (x_mv f281) ?_)
      refine OW.cons (OP.val (v := (.agg #[(.int .i64 x7.1), (.int .i64 s_j1.2.2.1), v275])) rfl (x_build Try_B49 (ps := [(0, (.int .i64 x7.1)), (1, (.int .i64 s_j1.2.2.1)), (2, v275)]) ⟨⟨rfl, rfl⟩, ⟨rfl, rfl⟩, ⟨rfl, rfl⟩, trivial⟩ (by simp [Instr.fill, cells_int, cells_bool, cells_string, cells_agg, cells_slice, cells_pointer, (rdL_cells (hL.rdO 0 rfl))])) ?_)
      refine OW.cons (S_storeN (l := [(.int .i64 x7.1), (.int .i64 s_j1.2.2.1), v275]) (cs' := #[(.int .i64 x7.1), (.int .i64 s_j1.2.2.1), v275]) hL 3 rfl Try_T49 f279 rfl (List.forall_mem_cons.2 ⟨rfl, (List.forall_mem_cons.2 ⟨rfl, (List.forall_mem_cons.2 ⟨rdL_one (hL.rdO 0 rfl), (fun _ h => by cases h)⟩)⟩)⟩) rfl (Nat.le_of_ble_eq_true rfl) rfl ?_)
      intro wd282 hL
      refine OW.nil ?_
      refine CW.ret ?_
      obtain rfl := Option.some.inj hm
      exact RRc rfl f279 (run_loadBlk Try.underlying49 Try_T49 (hL.get 3 rfl) rfl) ⟨v275, S276, rfl, hL.mutOut 5 rfl [4, 0] (by decide) (by decide) rfl⟩
  · intro s_l1 F481 wd482 t65 hJ hm hr66
    unfold M.spec_l26DrawSeries_l1 at hm
    obtain ⟨v63, S64, f483, f484, f485, f486, f487, f488, hL⟩ := hJ
    refine CW.seq ?_
    refine CW.seq ?_
    refine CW.regionL ?_
    refine OW.cons (OP.val (v := (.int .i64 s_l1.2.2.2)) rfl (x_mv f488) ?_)
    refine OW.cons (OP.val (v := (.bool (decide (0 < s_l1.2.2.2)))) rfl (x_gtr rfl rfl) ?_)
    refine OW.nil ?_
    refine CW.condM (t := decide (0 < s_l1.2.2.2)) rfl hm (fun hb489 hm => ?_) (fun hb489 hm => ?_)
    · refine CW.skip ?_
      refine CW.seq ?_
      refine CW.block ?_
      refine CW.regionL ?_
      refine OW.cons (OP.val (v := v63) rfl (x_mv f487) ?_)
      refine OW.cons (OP.val (v := (.pointer (some ⟨b1, 0, none⟩))) rfl (x_mv f483) ?_)
      refine OW.cons (OP.val (v := (.int .i64 x7.1)) rfl (x_mv f485) ?_)
      obtain ⟨x490, hx491, hm⟩ := bndE hm
      refine OW.cons (OP.call rfl (x_call (vs := [(.pointer (some ⟨b1, 0, none⟩)), (.int .i64 x7.1)]) Try_C91 ⟨rfl, rfl, trivial⟩) (M.spec_l26DrawRace_ok _ (Src.mk a0.code s_l1.1 s_l1.2.1) (hL.exZ 5 4 (by decide) rfl rfl h3) (hL.get 4 rfl) x7.1 hx491) ?_)
      rintro e494 wd495 ⟨v493, S492, rfl, hF496⟩
      refine ⟨_, rfl, ?_⟩
      have hL := hL.mut 4 rfl hF496
      simp only [List.cons_append, List.nil_append, List.set_cons_zero, List.set_cons_succ] at hL
      refine OW.cons (S_lit1 (Race.mk x490.1.Finishes) rfl hL Try.underlying47 Try_T29 rfl rfl ?_)
      intro wd497 v498 S499 hL
      obtain ⟨hc503, hm⟩ := chkE hm
      have hL := hL.sel [1, 0, 2, 3, 4, 5, 6] (by decide) rfl
      refine OW.cons (S_appendN Finish hL Try.underlying47 Try_T29 rfl rfl rfl hc503 (by decide) rfl ?_)
      intro wd500 v501 S502 hL
      refine OW.cons (OP.val (v := v501) rfl (x_assign) ?_)
      refine OW.nil ?_
      refine CW.regionL ?_
      refine OW.cons (OP.val (v := (.int .i64 s_l1.2.2.2)) rfl (x_mv f488) ?_)
      refine OW.cons (OP.val (v := (.int .i64 (w64 (s_l1.2.2.2 - 1)))) rfl (x_sub rfl rfl) ?_)
      refine OW.cons (OP.val (v := (.int .i64 (w64 (s_l1.2.2.2 - 1)))) rfl (x_assign) ?_)
      refine OW.nil ?_
      obtain rfl := Option.some.inj hm
      exact ⟨_, rfl, ⟨v501, S502, f483, f484, f485, f486, rfl, rfl, hL⟩⟩
    · refine CW.exit ?_
      refine XJ.hit ?_
      obtain rfl := Option.some.inj hm
      exact ⟨_, rfl, ⟨v63, S64, f483, f484, f485, f486, f487, f488, hL⟩⟩

theorem M.spec_DrawTableOf_ok (w0 : World) (a0 : List UInt8) {v1 : Value} (h2 : rdL (· < w0.heap.size) w0 v1 a0) {r : Series} (hm : M.spec_DrawTableOf a0 = some r) :
    Calls Try.prog 39 #[v1] w0 fun e w' => ∃ (rv0 : Value) (rS0 : Nat → Prop), e = .returned (.agg #[(.int .i64 r.Boats), (.int .i64 r.Scheme), rv0]) ∧ Fresh w0 w' [Ent.own 29 rS0 rv0 r.Races] := by
  unfold M.spec_DrawTableOf at hm
  refine calls_CW (args := [v1]) Try.func39 rfl rfl rfl ?_
  have hL := Hp.start w0
  refine CW.seq ?_
  refine CW.regionL ?_
  refine OW.cons (S_alloc (cs := #[(.int .i64 0), (.int .i64 0), (.slice none 0 0)]) hL Try_T49 rfl rfl ?_)
  intro wd3 b4 hL
  refine OW.nil ?_
  refine CW.seq ?_
  refine CW.regionL ?_
  refine OW.cons (OP.val (v := v1) rfl (x_move) ?_)
  obtain ⟨x5, hx6, hm⟩ := bndE hm
  refine OW.cons (OP.call rfl (x_call (vs := [v1]) Try_C71 ⟨rfl, trivial⟩) (M.spec_l01From_ok _ a0 (hL.rdS 1 rfl h2) hx6) ?_)
  rintro e8 wd9 ⟨b7, rfl, hF10⟩
  refine ⟨_, rfl, ?_⟩
  have hL := hL.pushAll hF10
  simp only [List.cons_append, List.nil_append, List.set_cons_zero, List.set_cons_succ] at hL
  obtain ⟨x11, hx12, hm⟩ := bndE hm
  refine OW.cons (OP.call rfl (x_call (vs := [(.pointer (some ⟨b7, 0, none⟩))]) Try_C75 ⟨rfl, trivial⟩) (M.spec_l26DrawSeries_ok _ (Src.mk a0 x5.1 x5.2) (hL.exS 2 0 (by decide) rfl rfl h2) (hL.get 0 rfl) hx12) ?_)
  rintro e15 wd16 ⟨v14, S13, rfl, hF17⟩
  refine ⟨_, rfl, ?_⟩
  have hL := hL.mut 0 rfl hF17
  simp only [List.cons_append, List.nil_append, List.set_cons_zero, List.set_cons_succ] at hL
  refine OW.cons (S_storeN (l := [(.int .i64 x11.1.Boats), (.int .i64 x11.1.Scheme), v14]) (cs' := #[(.int .i64 x11.1.Boats), (.int .i64 x11.1.Scheme), v14]) hL 2 rfl Try_T49 rfl rfl (List.forall_mem_cons.2 ⟨rfl, (List.forall_mem_cons.2 ⟨rfl, (List.forall_mem_cons.2 ⟨rdL_one (hL.rdO 0 rfl), (fun _ h => by cases h)⟩)⟩)⟩) rfl (Nat.le_of_ble_eq_true rfl) rfl ?_)
  intro wd18 hL
  refine OW.nil ?_
  refine CW.ret ?_
  obtain rfl := Option.some.inj hm
  exact RRc rfl rfl (run_loadBlk Try.underlying49 Try_T49 (hL.get 2 rfl) rfl) ⟨v14, S13, rfl, hL.fresh 3 rfl [0] (by decide) (by decide) rfl⟩

theorem M.impl_tableOf_ok (w0 : World) (a0 : Series) {v1 : Value} (h2 : rdL (· < w0.heap.size) w0 v1 a0.Races) {r : Table} (hm : M.impl_tableOf a0 = some r) :
    Calls Try.prog 76 #[(.agg #[(.int .i64 a0.Boats), (.int .i64 a0.Scheme), v1])] w0 fun e w' => ∃ (rv0 : Value) (rS0 : Nat → Prop), ∃ (rv1 : Value) (rS1 : Nat → Prop), e = .returned (.agg #[(.int .i64 r.Boats), rv0, rv1]) ∧ Fresh w0 w' [Ent.own 53 rS0 rv0 r.Points, Ent.own 53 rS1 rv1 r.Codes] := by
  unfold M.impl_tableOf at hm
  refine calls_CW (args := [(.agg #[(.int .i64 a0.Boats), (.int .i64 a0.Scheme), v1])]) Try.func76 rfl rfl rfl ?_
  have hL := Hp.start w0
  refine CW.seq ?_
  refine CW.regionL ?_
  refine OW.cons (S_box (cs := #[(.int .i64 a0.Boats), (.int .i64 a0.Scheme), v1]) hL rfl rfl rfl ?_)
  intro wd3 b4 hL
  refine OW.cons (S_alloc (cs := #[(.int .i64 0), (.slice none 0 0), (.slice none 0 0)]) hL Try_T38 rfl rfl ?_)
  intro wd5 b6 hL
  refine OW.nil ?_
  refine CW.seq ?_
  refine CW.regionL ?_
  refine OW.cons (OP.val (v := (.pointer (some ⟨b4, 0, none⟩))) rfl (x_fieldAddr (fsz := 1) 0 0 0 Try.underlying49 rfl Try_T2 rfl rfl rfl) ?_)
  refine OW.cons (OP.val (v := (.int .i64 a0.Boats)) rfl (x_load1 Try.underlying2 rfl rfl (hL.cellB 1 rfl rfl)) ?_)
  refine OW.cons (OP.val (v := (.agg #[(.int .i64 a0.Boats), (.slice none 0 0), (.slice none 0 0)])) rfl (x_build Try_B38 (ps := [(0, (.int .i64 a0.Boats))]) ⟨⟨rfl, rfl⟩, trivial⟩ (by simp [Instr.fill, cells_int, cells_bool, cells_string, cells_agg, cells_slice, cells_pointer])) ?_)
  refine OW.cons (S_alloc (cs := #[(.int .i64 0), (.slice none 0 0), (.slice none 0 0)]) hL Try_T38 rfl rfl ?_)
  intro wd7 b8 hL
  refine OW.cons (S_storeN (l := [(.int .i64 a0.Boats), (.slice none 0 0), (.slice none 0 0)]) (cs' := #[(.int .i64 a0.Boats), (.slice none 0 0), (.slice none 0 0)]) hL 0 rfl Try_T38 rfl rfl (List.forall_mem_cons.2 ⟨rfl, (List.forall_mem_cons.2 ⟨rfl, (List.forall_mem_cons.2 ⟨rfl, (fun _ h => by cases h)⟩)⟩)⟩) rfl (Nat.le_of_ble_eq_true rfl) rfl ?_)
  intro wd9 hL
  refine OW.nil ?_
  refine CW.seq ?_
  refine CW.seq ?_
  refine CW.regionL ?_
  refine OW.cons (OP.val (v := (.pointer (some ⟨b4, 2, none⟩))) rfl (x_fieldAddr (fsz := 1) 0 2 2 Try.underlying49 rfl Try_T47 rfl rfl rfl) ?_)
  refine OW.cons (OP.val (v := v1) rfl (x_load1 Try.underlying47 rfl rfl (hL.cellB 2 rfl rfl)) ?_)
  refine OW.cons (OP.val (v := (.int .i64 (a0.Races.length : Int))) rfl (x_lenR Try.underlying47 rfl (hL.rdS 3 rfl h2)) ?_)
  refine OW.cons (OP.val (v := (.int .i64 0)) rfl (x_move) ?_)
  refine OW.nil ?_
  obtain ⟨o324, ho325, hm⟩ := bndE hm
  have hL := hL.pushNil (List Int) 53
  have hL := hL.pushNil (List Int) 53
  have hL := hL.sel [1, 0, 2, 3, 4, 5] (by decide) rfl
  refine CW.loopB (fun (s_l1 : (List (List Int)) × (List (List Int)) × Int) (F : Fr) (w : World) => ∃ (v318 : Value) (S319 : Nat → Prop) (v320 : Value) (S321 : Nat → Prop), F 1 = (.pointer (some ⟨b4, 0, none⟩)) ∧ F 2 = (.pointer (some ⟨b6, 0, none⟩)) ∧ F 3 = (.pointer (some ⟨b8, 0, none⟩)) ∧ F 13 = v1 ∧ F 14 = (.int .i64 (a0.Races.length : Int)) ∧ F 15 = (.int .i64 s_l1.2.2) ∧ Hp w0 [Ent.own 53 S319 v318 s_l1.1, Ent.own 53 S321 v320 s_l1.2.1, Ent.blk b8 38 #[(.int .i64 a0.Boats), v318, v320], Ent.blk b6 38 #[(.int .i64 0), (.slice none 0 0), (.slice none 0 0)], Ent.blk b4 49 #[(.int .i64 a0.Boats), (.int .i64 a0.Scheme), v1], Ent.snap w0 w0.heap.size] w) (fun o => outc o (fun x => some x) (fun s => M.impl_tableOf_a1 a0 s) = some r) ho325 hm ⟨(.slice none 0 0), None_, (.slice none 0 0), None_, rfl, rfl, rfl, rfl, rfl, rfl, hL⟩ ?_ ?_
  · intro s_l1 F326 wd327 hJ hm
    have hm := outcE hm
    have hm : M.impl_tableOf_a1 a0 s_l1 = some r := hm
    unfold M.impl_tableOf_a1 at hm
    obtain ⟨v318, S319, v320, S321, f328, f329, f330, f331, f332, f333, hL⟩ := hJ
    refine CW.seq ?_
    refine CW.regionL ?_
    refine OW.cons (OP.val (v := (.agg #[(.int .i64 a0.Boats), v318, v320])) rfl (x_loadN (cs := [(.int .i64 a0.Boats), v318, v320]) Try.underlying38 Try_T38 rfl f330 (hL.cellsB 2 rfl (o := 0) (l := [(.int .i64 a0.Boats), v318, v320]) (by intro j u hj; exact (by simpa using hj)))) ?_)
    refine OW.cons (S_storeN (l := [(.int .i64 a0.Boats), v318, v320]) (cs' := #[(.int .i64 a0.Boats), v318, v320]) hL 3 rfl Try_T38 f329 rfl (List.forall_mem_cons.2 ⟨rfl, (List.forall_mem_cons.2 ⟨rdL_one (hL.rdO 0 rfl), (List.forall_mem_cons.2 ⟨rdL_one (hL.rdO 1 rfl), (fun _ h => by cases h)⟩)⟩)⟩) rfl (Nat.le_of_ble_eq_true rfl) rfl ?_)
    intro wd334 hL
    refine OW.nil ?_
    refine CW.ret ?_
    obtain rfl := Option.some.inj hm
    exact RRc rfl f329 (run_loadBlk Try.underlying38 Try_T38 (hL.get 3 rfl) rfl) ⟨v318, S319, v320, S321, rfl, hL.fresh 5 rfl [0, 1] (by decide) (by decide) rfl⟩
  · intro s_l1 F335 wd336 t322 hJ hm hr323
    unfold M.impl_tableOf_l1 at hm
    obtain ⟨v318, S319, v320, S321, f337, f338, f339, f340, f341, f342, hL⟩ := hJ
    refine CW.seq ?_
    refine CW.regionL ?_
    refine OW.cons (OP.val (v := (.bool (decide (s_l1.2.2 < (a0.Races.length : Int))))) rfl (x_lss f342 f341) ?_)
    refine OW.nil ?_
    refine CW.seq ?_
    refine CW.condM (t := decide (s_l1.2.2 < (a0.Races.length : Int))) rfl hm (fun hb343 hm => ?_) (fun hb343 hm => ?_)
    · refine CW.skip ?_
      refine CW.seq ?_
      refine CW.block ?_
      refine CW.seq ?_
      refine CW.regionL ?_
      obtain ⟨x344, ha345, hm⟩ := bndE hm
      obtain ⟨hz346, ha354⟩ := idxE ha345
      obtain ⟨b347, q348, v349, hix350, hs351, hc352, hr353⟩ := rdN_at h2 hz346 ha354
      refine OW.cons (OP.val (v := (.pointer (some ⟨b347, q348, none⟩))) rfl (x_ix Try.underlying47 Try_T29 f340 f342 hix350) ?_)
      refine OW.cons (OP.val (v := (.agg #[v349])) rfl (x_loadN (cs := [v349]) Try.underlying29 Try_T29 rfl rfl (by intro j u hj; match j, hj with | 0, hj => (simp at hj; subst hj; exact (hL.cellS 5 rfl hs351 hc352)))) ?_)
      refine OW.cons (S_alloc (cs := #[(.slice none 0 0)]) hL Try_T29 rfl rfl ?_)
      intro wd355 b356 hL
      refine OW.cons (S_storeN (l := [v349]) (cs' := #[v349]) hL 0 rfl Try_T29 rfl rfl (List.forall_mem_cons.2 ⟨rdL_one (hL.rdS 6 rfl hr353), (fun _ h => by cases h)⟩) rfl (Nat.le_of_ble_eq_true rfl) rfl ?_)
      intro wd357 hL
      refine OW.nil ?_
      refine CW.seq ?_
      refine CW.regionL ?_
      refine OW.cons (S_lit ([] : List Int) hL Try.underlying53 Try_T2 rfl (by decide) (by first | (simp [Instr.fill, madeCells, Value.cells, ev, upd, Flat.enc, Flat.sz]; done) | rfl | kernel_rfl) rfl rfl ?_)
      intro wd358 v359 S360 hL
      refine OW.cons (OP.val (v := v359) rfl (x_assign) ?_)
      refine OW.nil ?_
      refine CW.seq ?_
      refine CW.seq ?_
      refine CW.regionL ?_
      refine OW.cons (OP.val (v := (.pointer (some ⟨b356, 0, none⟩))) rfl (x_fieldAddr (fsz := 1) 0 0 0 Try.underlying29 rfl Try_T27 rfl rfl rfl) ?_)
      refine OW.cons (OP.val (v := v349) rfl (x_load1 Try.underlying27 rfl rfl (hL.cellB 1 rfl rfl)) ?_)
      refine OW.cons (OP.val (v := (.int .i64 (x344.Finishes.length : Int))) rfl (x_lenR Try.underlying27 rfl (hL.rdS 7 rfl hr353)) ?_)
      refine OW.cons (OP.val (v := (.int .i64 0)) rfl (x_move) ?_)
      refine OW.nil ?_
      obtain ⟨o403, ho404, hm⟩ := bndE hm
      refine CW.loopB (fun (s_l2 : (List Int) × Int) (F : Fr) (w : World) => ∃ (v399 : Value) (S400 : Nat → Prop), F 1 = (.pointer (some ⟨b4, 0, none⟩)) ∧ F 2 = (.pointer (some ⟨b6, 0, none⟩)) ∧ F 3 = (.pointer (some ⟨b8, 0, none⟩)) ∧ F 5 = (.pointer (some ⟨b356, 0, none⟩)) ∧ F 6 = v399 ∧ F 13 = v1 ∧ F 14 = (.int .i64 (a0.Races.length : Int)) ∧ F 15 = (.int .i64 s_l1.2.2) ∧ F 21 = v349 ∧ F 22 = (.int .i64 (x344.Finishes.length : Int)) ∧ F 23 = (.int .i64 s_l2.2) ∧ Hp w0 [Ent.own 2 S400 v399 s_l2.1, Ent.blk b356 29 #[v349], Ent.own 53 S319 v318 s_l1.1, Ent.own 53 S321 v320 s_l1.2.1, Ent.blk b8 38 #[(.int .i64 a0.Boats), v318, v320], Ent.blk b6 38 #[(.int .i64 0), (.slice none 0 0), (.slice none 0 0)], Ent.blk b4 49 #[(.int .i64 a0.Boats), (.int .i64 a0.Scheme), v1], Ent.snap w0 w0.heap.size] w) (fun o => outc o (fun x => some (.ret x)) (fun s => M.impl_tableOf_a2 a0 s_l1 x344 s) = some t322) ho404 hm ⟨v359, S360, f337, f338, f339, rfl, rfl, f340, f341, f342, rfl, rfl, rfl, hL⟩ ?_ ?_
      · intro s_l2 F405 wd406 hJ hm
        have hm := outcE hm
        have hm : M.impl_tableOf_a2 a0 s_l1 x344 s_l2 = some t322 := hm
        unfold M.impl_tableOf_a2 at hm
        obtain ⟨v399, S400, f407, f408, f409, f410, f411, f412, f413, f414, f415, f416, f417, hL⟩ := hJ
        refine CW.drawH (fun w' => Hp w0 [Ent.blk b356 29 #[v349], Ent.blk b6 38 #[(.int .i64 0), (.slice none 0 0), (.slice none 0 0)], Ent.blk b4 49 #[(.int .i64 a0.Boats), (.int .i64 a0.Scheme), v1], Ent.snap w0 w0.heap.size] w') Try_mixed ?_
        have hL := hL.call (Mod.drew _)
        have hS := (hL.sel [1, 5, 6, 7] (by decide) rfl)
        refine DH.take 0 rfl (by kernel_rfl) (by kernel_rfl) (by kernel_rfl) rfl rfl hS (YH.val (v := (.pointer (some ⟨b8, 1, none⟩))) (fun w' hS' => x_fieldAddr (fsz := 1) 0 1 1 Try.underlying38 rfl Try_T33 rfl f409 rfl)) ?_
        have hS := (hL.sel [1, 5, 6, 7] (by decide) rfl)
        refine DH.take 2 rfl (by kernel_rfl) (by kernel_rfl) (by kernel_rfl) rfl rfl hS (YH.val (v := (.pointer (some ⟨b356, 0, none⟩))) (fun w' hS' => x_fieldAddr (fsz := 1) 0 0 0 Try.underlying29 rfl Try_T27 rfl f410 rfl)) ?_
        have hS := (hL.sel [1, 5, 6, 7] (by decide) rfl)
        refine DH.take 3 rfl (by kernel_rfl) (by kernel_rfl) (by kernel_rfl) rfl rfl hS (YH.val (v := v349) (fun w' hS' => x_load1 Try.underlying27 rfl rfl (hS'.cellB 0 rfl rfl))) ?_
        have hS := (hL.sel [1, 5, 6, 7] (by decide) rfl)
        refine DH.take 4 rfl (by kernel_rfl) (by kernel_rfl) (by kernel_rfl) rfl rfl hS (YH.val (v := (.pointer (some ⟨b4, 1, none⟩))) (fun w' hS' => x_fieldAddr (fsz := 1) 0 1 1 Try.underlying49 rfl Try_T2 rfl f407 rfl)) ?_
        have hS := (hL.sel [1, 5, 6, 7] (by decide) rfl)
        refine DH.take 5 rfl (by kernel_rfl) (by kernel_rfl) (by kernel_rfl) rfl rfl hS (YH.val (v := (.int .i64 a0.Scheme)) (fun w' hS' => x_load1 Try.underlying2 rfl rfl (hS'.cellB 2 rfl rfl))) ?_
        have hS := (hL.sel [1, 5, 6, 7] (by decide) rfl)
        refine DH.take 9 rfl (by kernel_rfl) (by kernel_rfl) (by kernel_rfl) rfl rfl hS (YH.val (v := (.pointer (some ⟨b8, 2, none⟩))) (fun w' hS' => x_fieldAddr (fsz := 1) 0 2 2 Try.underlying38 rfl Try_T33 rfl f409 rfl)) ?_
        have hS := (hL.sel [1, 5, 6, 7] (by decide) rfl)
        refine DH.take 11 rfl (by kernel_rfl) (by kernel_rfl) (by kernel_rfl) rfl rfl hS (YH.val (v := v399) (fun w' hS' => x_mv f411)) ?_
        obtain ⟨x441, hx442, hm⟩ := bndE hm
        obtain ⟨hc454, hm⟩ := chkE hm
        obtain ⟨hc461, hm⟩ := chkE hm
        refine DH.node (listed' := #[true, true, true, true, true, true, true, true, true, true, true, true, true, true, true, true, true, true]) (fuel' := 0) (fun (F : Fr) (w : World) => ∃ (v617 : Value) (S618 : Nat → Prop) (v619 : Value) (S620 : Nat → Prop), F 1 = (.pointer (some ⟨b4, 0, none⟩)) ∧ F 2 = (.pointer (some ⟨b6, 0, none⟩)) ∧ F 3 = (.pointer (some ⟨b8, 0, none⟩)) ∧ F 13 = v1 ∧ F 14 = (.int .i64 (a0.Races.length : Int)) ∧ F 15 = (.int .i64 s_l1.2.2) ∧ Hp w0 [Ent.own 53 S618 v617 (s_l1.2.1 ++ ([s_l2.1] : List (List Int))), Ent.own 53 S620 v619 (s_l1.1 ++ ([x441] : List (List Int))), Ent.blk b356 29 #[v349], Ent.blk b8 38 #[(.int .i64 a0.Boats), v619, v617], Ent.blk b6 38 #[(.int .i64 0), (.slice none 0 0), (.slice none 0 0)], Ent.blk b4 49 #[(.int .i64 a0.Boats), (.int .i64 a0.Scheme), v1], Ent.snap w0 w0.heap.size] w) ?_ (fun hN587 => ?_)
        · intro F697 wd698 hJ
          obtain ⟨v617, S618, v619, S620, f699, f700, f701, f702, f703, f704, hL⟩ := hJ
          refine DH.done (by kernel_rfl) ?_
          refine CW.regionL ?_
          refine OW.cons (OP.val (v := (.int .i64 (w64 (s_l1.2.2 + 1)))) rfl (x_add f704 rfl) ?_)
          refine OW.cons (OP.val (v := (.int .i64 (w64 (s_l1.2.2 + 1)))) rfl (x_move) ?_)
          refine OW.nil ?_
          have hL := hL.sel [1, 0, 3, 4, 5, 6] (by decide) rfl
          obtain rfl := Option.some.inj hm
          exact ⟨_, rfl, ⟨v619, S620, v617, S618, f699, f700, f701, f702, f703, rfl, hL⟩⟩
        refine DH.node (listed' := #[true, true, true, true, true, true, true, true, true, true, true, true, true, true, true, true, true, false]) (fuel' := 1) (fun (F : Fr) (w : World) => ∃ (v621 : Value) (S622 : Nat → Prop) (v623 : Value) (S624 : Nat → Prop), F 1 = (.pointer (some ⟨b4, 0, none⟩)) ∧ F 2 = (.pointer (some ⟨b6, 0, none⟩)) ∧ F 3 = (.pointer (some ⟨b8, 0, none⟩)) ∧ F 13 = v1 ∧ F 14 = (.int .i64 (a0.Races.length : Int)) ∧ F 15 = (.int .i64 s_l1.2.2) ∧ F 46 = v621 ∧ F 48 = (.pointer (some ⟨b8, 2, none⟩)) ∧ Hp w0 [Ent.own 53 S622 v621 (s_l1.2.1 ++ ([s_l2.1] : List (List Int))), Ent.own 53 S624 v623 (s_l1.1 ++ ([x441] : List (List Int))), Ent.blk b356 29 #[v349], Ent.blk b8 38 #[(.int .i64 a0.Boats), v623, v320], Ent.blk b6 38 #[(.int .i64 0), (.slice none 0 0), (.slice none 0 0)], Ent.blk b4 49 #[(.int .i64 a0.Boats), (.int .i64 a0.Scheme), v1], Ent.snap w0 w0.heap.size] w) ?_ (fun hN588 => ?_)
        · intro F705 wd706 hJ
          obtain ⟨v621, S622, v623, S624, f707, f708, f709, f710, f711, f712, f713, f714, hL⟩ := hJ
          refine DH.only 17 rfl (by kernel_rfl) (S_store (cs' := #[(.int .i64 a0.Boats), v623, v621]) hL 3 rfl Try_T33 f714 (rdL_one (hL.rdO 0 rfl)) f713 rfl rfl ?_)
          intro wd715 hL
          refine ⟨(hL.sel [2, 4, 5, 6] (by decide) rfl), ?_⟩
          exact DH.relist (listed' := #[true, true, true, true, true, true, true, true, true, true, true, true, true, true, true, true, true, true]) (by kernel_rfl) (hN587 _ _ ⟨v621, S622, v623, S624, f707, f708, f709, f710, f711, f712, hL⟩)
        refine DH.node (listed' := #[true, true, true, true, true, true, true, true, true, true, true, true, true, true, true, false, false, false]) (fuel' := 3) (fun (F : Fr) (w : World) => ∃ (v625 : Value) (S626 : Nat → Prop) (v627 : Value) (S628 : Nat → Prop), F 1 = (.pointer (some ⟨b4, 0, none⟩)) ∧ F 2 = (.pointer (some ⟨b6, 0, none⟩)) ∧ F 3 = (.pointer (some ⟨b8, 0, none⟩)) ∧ F 13 = v1 ∧ F 14 = (.int .i64 (a0.Races.length : Int)) ∧ F 15 = (.int .i64 s_l1.2.2) ∧ F 41 = v627 ∧ F 46 = v625 ∧ F 47 = (.pointer (some ⟨b8, 1, none⟩)) ∧ Hp w0 [Ent.own 53 S626 v625 (s_l1.2.1 ++ ([s_l2.1] : List (List Int))), Ent.own 53 S628 v627 (s_l1.1 ++ ([x441] : List (List Int))), Ent.blk b356 29 #[v349], Ent.blk b8 38 #[(.int .i64 a0.Boats), v318, v320], Ent.blk b6 38 #[(.int .i64 0), (.slice none 0 0), (.slice none 0 0)], Ent.blk b4 49 #[(.int .i64 a0.Boats), (.int .i64 a0.Scheme), v1], Ent.snap w0 w0.heap.size] w) ?_ (fun hN589 => ?_)
        · intro F716 wd717 hJ
          obtain ⟨v625, S626, v627, S628, f718, f719, f720, f721, f722, f723, f724, f725, f726, hL⟩ := hJ
          refine DH.only 15 rfl (by kernel_rfl) (S_store (cs' := #[(.int .i64 a0.Boats), v627, v320]) hL 3 rfl Try_T33 f726 (rdL_one (hL.rdO 1 rfl)) f724 rfl rfl ?_)
          intro wd727 hL
          refine ⟨(hL.sel [2, 4, 5, 6] (by decide) rfl), ?_⟩
          have hS := (hL.sel [2, 4, 5, 6] (by decide) rfl)
          refine DH.take 16 rfl (by kernel_rfl) (by kernel_rfl) (by kernel_rfl) rfl rfl hS (YH.val (v := (.pointer (some ⟨b8, 2, none⟩))) (fun w' hS' => x_fieldAddr (fsz := 1) 0 2 2 Try.underlying38 rfl Try_T33 rfl f720 rfl)) ?_
          exact DH.relist (listed' := #[true, true, true, true, true, true, true, true, true, true, true, true, true, true, true, true, true, false]) (by kernel_rfl) (hN588 _ _ ⟨v625, S626, v627, S628, f718, f719, f720, f721, f722, f723, f725, rfl, hL⟩)
        refine DH.node (listed' := #[true, true, true, true, true, true, true, true, true, true, true, true, true, false, true, false, false, false]) (fuel' := 4) (fun (F : Fr) (w : World) => ∃ (v629 : Value) (S630 : Nat → Prop) (v631 : Value) (S632 : Nat → Prop), F 1 = (.pointer (some ⟨b4, 0, none⟩)) ∧ F 2 = (.pointer (some ⟨b6, 0, none⟩)) ∧ F 3 = (.pointer (some ⟨b8, 0, none⟩)) ∧ F 13 = v1 ∧ F 14 = (.int .i64 (a0.Races.length : Int)) ∧ F 15 = (.int .i64 s_l1.2.2) ∧ F 41 = v631 ∧ F 43 = v320 ∧ F 45 = v629 ∧ F 47 = (.pointer (some ⟨b8, 1, none⟩)) ∧ Hp w0 [Ent.own 53 S630 v629 ([s_l2.1] : List (List Int)), Ent.own 53 S632 v631 (s_l1.1 ++ ([x441] : List (List Int))), Ent.blk b356 29 #[v349], Ent.own 53 S321 v320 s_l1.2.1, Ent.blk b8 38 #[(.int .i64 a0.Boats), v318, v320], Ent.blk b6 38 #[(.int .i64 0), (.slice none 0 0), (.slice none 0 0)], Ent.blk b4 49 #[(.int .i64 a0.Boats), (.int .i64 a0.Scheme), v1], Ent.snap w0 w0.heap.size] w) ?_ (fun hN590 => ?_)
        · intro F728 wd729 hJ
          obtain ⟨v629, S630, v631, S632, f730, f731, f732, f733, f734, f735, f736, f737, f738, f739, hL⟩ := hJ
          have hL := hL.sel [3, 0, 1, 2, 4, 5, 6, 7] (by decide) rfl
          refine DH.only 13 rfl (by kernel_rfl) (S_appendN Int hL Try.underlying33 Try_T53 rfl f737 f738 hc461 (by decide) rfl ?_)
          intro wd740 v741 S742 hL
          refine ⟨(hL.sel [2, 4, 5, 6] (by decide) rfl), ?_⟩
          exact DH.relist (listed' := #[true, true, true, true, true, true, true, true, true, true, true, true, true, true, true, false, false, false]) (by kernel_rfl) (hN589 _ _ ⟨v741, S742, v631, S632, f730, f731, f732, f733, f734, f735, f736, rfl, f739, hL⟩)
        refine DH.node (listed' := #[true, true, true, true, true, true, true, true, true, true, true, true, false, false, true, false, false, false]) (fuel' := 5) (fun (F : Fr) (w : World) => ∃ (v633 : Value) (S634 : Nat → Prop), F 1 = (.pointer (some ⟨b4, 0, none⟩)) ∧ F 2 = (.pointer (some ⟨b6, 0, none⟩)) ∧ F 3 = (.pointer (some ⟨b8, 0, none⟩)) ∧ F 13 = v1 ∧ F 14 = (.int .i64 (a0.Races.length : Int)) ∧ F 15 = (.int .i64 s_l1.2.2) ∧ F 41 = v633 ∧ F 43 = v320 ∧ F 44 = v399 ∧ F 47 = (.pointer (some ⟨b8, 1, none⟩)) ∧ Hp w0 [Ent.own 53 S634 v633 (s_l1.1 ++ ([x441] : List (List Int))), Ent.own 2 S400 v399 s_l2.1, Ent.blk b356 29 #[v349], Ent.own 53 S321 v320 s_l1.2.1, Ent.blk b8 38 #[(.int .i64 a0.Boats), v318, v320], Ent.blk b6 38 #[(.int .i64 0), (.slice none 0 0), (.slice none 0 0)], Ent.blk b4 49 #[(.int .i64 a0.Boats), (.int .i64 a0.Scheme), v1], Ent.snap w0 w0.heap.size] w) ?_ (fun hN591 => ?_)
        · intro F743 wd744 hJ
          obtain ⟨v633, S634, f745, f746, f747, f748, f749, f750, f751, f752, f753, f754, hL⟩ := hJ
          have hL := hL.sel [1, 0, 2, 3, 4, 5, 6, 7] (by decide) rfl
          refine DH.only 12 rfl (by kernel_rfl) (S_lit1 s_l2.1 rfl hL Try.underlying33 Try_T53 ((congrArg Value.cells f753).trans (rdL_cells (hL.rdO 0 rfl))) rfl ?_)
          intro wd755 v756 S757 hL
          refine ⟨(hL.sel [2, 5, 6, 7] (by decide) rfl), ?_⟩
          exact DH.relist (listed' := #[true, true, true, true, true, true, true, true, true, true, true, true, true, false, true, false, false, false]) (by kernel_rfl) (hN590 _ _ ⟨v756, S757, v633, S634, f745, f746, f747, f748, f749, f750, f751, f752, rfl, f754, hL⟩)
        refine DH.node (listed' := #[true, true, true, true, true, true, true, true, true, true, false, true, true, false, false, false, false, false]) (fuel' := 6) (fun (F : Fr) (w : World) => ∃ (v635 : Value) (S636 : Nat → Prop) (v637 : Value) (S638 : Nat → Prop), F 1 = (.pointer (some ⟨b4, 0, none⟩)) ∧ F 2 = (.pointer (some ⟨b6, 0, none⟩)) ∧ F 3 = (.pointer (some ⟨b8, 0, none⟩)) ∧ F 13 = v1 ∧ F 14 = (.int .i64 (a0.Races.length : Int)) ∧ F 15 = (.int .i64 s_l1.2.2) ∧ F 41 = v637 ∧ F 42 = (.pointer (some ⟨b8, 2, none⟩)) ∧ F 45 = v635 ∧ Hp w0 [Ent.own 53 S636 v635 ([s_l2.1] : List (List Int)), Ent.own 53 S638 v637 (s_l1.1 ++ ([x441] : List (List Int))), Ent.blk b356 29 #[v349], Ent.own 53 S321 v320 s_l1.2.1, Ent.blk b8 38 #[(.int .i64 a0.Boats), v318, v320], Ent.blk b6 38 #[(.int .i64 0), (.slice none 0 0), (.slice none 0 0)], Ent.blk b4 49 #[(.int .i64 a0.Boats), (.int .i64 a0.Scheme), v1], Ent.snap w0 w0.heap.size] w) ?_ (fun hN592 => ?_)
        · intro F758 wd759 hJ
          obtain ⟨v635, S636, v637, S638, f760, f761, f762, f763, f764, f765, f766, f767, f768, hL⟩ := hJ
          refine DH.only 10 rfl (by kernel_rfl) (OP.val (v := v320) rfl (x_load1 Try.underlying33 rfl f767 (hL.cellB 4 rfl rfl)) ?_)
          refine ⟨(hL.sel [2, 5, 6, 7] (by decide) rfl), ?_⟩
          have hS := (hL.sel [2, 5, 6, 7] (by decide) rfl)
          refine DH.take 14 rfl (by kernel_rfl) (by kernel_rfl) (by kernel_rfl) rfl rfl hS (YH.val (v := (.pointer (some ⟨b8, 1, none⟩))) (fun w' hS' => x_fieldAddr (fsz := 1) 0 1 1 Try.underlying38 rfl Try_T33 rfl f762 rfl)) ?_
          exact DH.relist (listed' := #[true, true, true, true, true, true, true, true, true, true, true, true, true, false, true, false, false, false]) (by kernel_rfl) (hN590 _ _ ⟨v635, S636, v637, S638, f760, f761, f762, f763, f764, f765, f766, rfl, f768, rfl, hL⟩)
        refine DH.node (listed' := #[true, true, true, true, true, true, true, true, false, true, true, true, true, false, false, false, false, false]) (fuel' := 6) (fun (F : Fr) (w : World) => ∃ (v639 : Value) (S640 : Nat → Prop) (v641 : Value) (S642 : Nat → Prop), F 1 = (.pointer (some ⟨b4, 0, none⟩)) ∧ F 2 = (.pointer (some ⟨b6, 0, none⟩)) ∧ F 3 = (.pointer (some ⟨b8, 0, none⟩)) ∧ F 13 = v1 ∧ F 14 = (.int .i64 (a0.Races.length : Int)) ∧ F 15 = (.int .i64 s_l1.2.2) ∧ F 34 = v318 ∧ F 40 = v641 ∧ F 43 = v320 ∧ F 45 = v639 ∧ Hp w0 [Ent.own 53 S640 v639 ([s_l2.1] : List (List Int)), Ent.own 53 S642 v641 ([x441] : List (List Int)), Ent.blk b356 29 #[v349], Ent.own 53 S319 v318 s_l1.1, Ent.own 53 S321 v320 s_l1.2.1, Ent.blk b8 38 #[(.int .i64 a0.Boats), v318, v320], Ent.blk b6 38 #[(.int .i64 0), (.slice none 0 0), (.slice none 0 0)], Ent.blk b4 49 #[(.int .i64 a0.Boats), (.int .i64 a0.Scheme), v1], Ent.snap w0 w0.heap.size] w) ?_ (fun hN593 => ?_)
        · intro F769 wd770 hJ
          obtain ⟨v639, S640, v641, S642, f771, f772, f773, f774, f775, f776, f777, f778, f779, f780, hL⟩ := hJ
          have hL := hL.sel [3, 1, 0, 2, 4, 5, 6, 7, 8] (by decide) rfl
          refine DH.only 8 rfl (by kernel_rfl) (S_appendN Int hL Try.underlying33 Try_T53 rfl f777 f778 hc454 (by decide) rfl ?_)
          intro wd781 v782 S783 hL
          refine ⟨(hL.sel [2, 5, 6, 7] (by decide) rfl), ?_⟩
          have hS := (hL.sel [2, 5, 6, 7] (by decide) rfl)
          refine DH.take 14 rfl (by kernel_rfl) (by kernel_rfl) (by kernel_rfl) rfl rfl hS (YH.val (v := (.pointer (some ⟨b8, 1, none⟩))) (fun w' hS' => x_fieldAddr (fsz := 1) 0 1 1 Try.underlying38 rfl Try_T33 rfl f773 rfl)) ?_
          have hL := hL.sel [1, 0, 2, 3, 4, 5, 6, 7] (by decide) rfl
          exact DH.relist (listed' := #[true, true, true, true, true, true, true, true, true, true, true, true, true, false, true, false, false, false]) (by kernel_rfl) (hN590 _ _ ⟨v639, S640, v782, S783, f771, f772, f773, f774, f775, f776, rfl, f779, f780, rfl, hL⟩)
        refine DH.node (listed' := #[true, true, true, true, true, true, true, true, true, true, false, true, false, false, false, false, false, false]) (fuel' := 7) (fun (F : Fr) (w : World) => ∃ (v643 : Value) (S644 : Nat → Prop), F 1 = (.pointer (some ⟨b4, 0, none⟩)) ∧ F 2 = (.pointer (some ⟨b6, 0, none⟩)) ∧ F 3 = (.pointer (some ⟨b8, 0, none⟩)) ∧ F 13 = v1 ∧ F 14 = (.int .i64 (a0.Races.length : Int)) ∧ F 15 = (.int .i64 s_l1.2.2) ∧ F 41 = v643 ∧ F 42 = (.pointer (some ⟨b8, 2, none⟩)) ∧ F 44 = v399 ∧ Hp w0 [Ent.own 53 S644 v643 (s_l1.1 ++ ([x441] : List (List Int))), Ent.own 2 S400 v399 s_l2.1, Ent.blk b356 29 #[v349], Ent.own 53 S321 v320 s_l1.2.1, Ent.blk b8 38 #[(.int .i64 a0.Boats), v318, v320], Ent.blk b6 38 #[(.int .i64 0), (.slice none 0 0), (.slice none 0 0)], Ent.blk b4 49 #[(.int .i64 a0.Boats), (.int .i64 a0.Scheme), v1], Ent.snap w0 w0.heap.size] w) ?_ (fun hN594 => ?_)
        · intro F784 wd785 hJ
          obtain ⟨v643, S644, f786, f787, f788, f789, f790, f791, f792, f793, f794, hL⟩ := hJ
          refine DH.all (rs := [10, 12]) (by kernel_rfl) (by simp) ?_
          intro i795 hi796
          simp only [List.mem_cons, List.not_mem_nil, or_false] at hi796
          rcases hi796 with rfl | rfl
          · refine ⟨_, rfl, ?_⟩
            refine OP.val (v := v320) rfl (x_load1 Try.underlying33 rfl f793 (hL.cellB 4 rfl rfl)) ?_
            refine ⟨(hL.sel [2, 5, 6, 7] (by decide) rfl), ?_⟩
            have hS := (hL.sel [2, 5, 6, 7] (by decide) rfl)
            refine DH.take 14 rfl (by kernel_rfl) (by kernel_rfl) (by kernel_rfl) rfl rfl hS (YH.val (v := (.pointer (some ⟨b8, 1, none⟩))) (fun w' hS' => x_fieldAddr (fsz := 1) 0 1 1 Try.underlying38 rfl Try_T33 rfl f788 rfl)) ?_
            exact DH.relist (listed' := #[true, true, true, true, true, true, true, true, true, true, true, true, false, false, true, false, false, false]) (by kernel_rfl) (hN591 _ _ ⟨v643, S644, f786, f787, f788, f789, f790, f791, f792, rfl, f794, rfl, hL⟩)
          · refine ⟨_, rfl, ?_⟩
            have hL := hL.sel [1, 0, 2, 3, 4, 5, 6, 7] (by decide) rfl
            refine S_lit1 s_l2.1 rfl hL Try.underlying33 Try_T53 ((congrArg Value.cells f794).trans (rdL_cells (hL.rdO 0 rfl))) rfl ?_
            intro wd797 v798 S799 hL
            refine ⟨(hL.sel [2, 5, 6, 7] (by decide) rfl), ?_⟩
            exact DH.relist (listed' := #[true, true, true, true, true, true, true, true, true, true, false, true, true, false, false, false, false, false]) (by kernel_rfl) (hN592 _ _ ⟨v798, S799, v643, S644, f786, f787, f788, f789, f790, f791, f792, f793, rfl, hL⟩)
        refine DH.node (listed' := #[true, true, true, true, true, true, true, true, false, true, true, true, false, false, false, false, false, false]) (fuel' := 7) (fun (F : Fr) (w : World) => ∃ (v645 : Value) (S646 : Nat → Prop), F 1 = (.pointer (some ⟨b4, 0, none⟩)) ∧ F 2 = (.pointer (some ⟨b6, 0, none⟩)) ∧ F 3 = (.pointer (some ⟨b8, 0, none⟩)) ∧ F 13 = v1 ∧ F 14 = (.int .i64 (a0.Races.length : Int)) ∧ F 15 = (.int .i64 s_l1.2.2) ∧ F 34 = v318 ∧ F 40 = v645 ∧ F 43 = v320 ∧ F 44 = v399 ∧ Hp w0 [Ent.own 53 S646 v645 ([x441] : List (List Int)), Ent.own 2 S400 v399 s_l2.1, Ent.blk b356 29 #[v349], Ent.own 53 S319 v318 s_l1.1, Ent.own 53 S321 v320 s_l1.2.1, Ent.blk b8 38 #[(.int .i64 a0.Boats), v318, v320], Ent.blk b6 38 #[(.int .i64 0), (.slice none 0 0), (.slice none 0 0)], Ent.blk b4 49 #[(.int .i64 a0.Boats), (.int .i64 a0.Scheme), v1], Ent.snap w0 w0.heap.size] w) ?_ (fun hN595 => ?_)
        · intro F800 wd801 hJ
          obtain ⟨v645, S646, f802, f803, f804, f805, f806, f807, f808, f809, f810, f811, hL⟩ := hJ
          refine DH.all (rs := [8, 12]) (by kernel_rfl) (by simp) ?_
          intro i812 hi813
          simp only [List.mem_cons, List.not_mem_nil, or_false] at hi813
          rcases hi813 with rfl | rfl
          · refine ⟨_, rfl, ?_⟩
            have hL := hL.sel [3, 0, 1, 2, 4, 5, 6, 7, 8] (by decide) rfl
            refine S_appendN Int hL Try.underlying33 Try_T53 rfl f808 f809 hc454 (by decide) rfl ?_
            intro wd814 v815 S816 hL
            refine ⟨(hL.sel [2, 5, 6, 7] (by decide) rfl), ?_⟩
            have hS := (hL.sel [2, 5, 6, 7] (by decide) rfl)
            refine DH.take 14 rfl (by kernel_rfl) (by kernel_rfl) (by kernel_rfl) rfl rfl hS (YH.val (v := (.pointer (some ⟨b8, 1, none⟩))) (fun w' hS' => x_fieldAddr (fsz := 1) 0 1 1 Try.underlying38 rfl Try_T33 rfl f804 rfl)) ?_
            exact DH.relist (listed' := #[true, true, true, true, true, true, true, true, true, true, true, true, false, false, true, false, false, false]) (by kernel_rfl) (hN591 _ _ ⟨v815, S816, f802, f803, f804, f805, f806, f807, rfl, f810, f811, rfl, hL⟩)
          · refine ⟨_, rfl, ?_⟩
            have hL := hL.sel [1, 0, 2, 3, 4, 5, 6, 7, 8] (by decide) rfl
            refine S_lit1 s_l2.1 rfl hL Try.underlying33 Try_T53 ((congrArg Value.cells f811).trans (rdL_cells (hL.rdO 0 rfl))) rfl ?_
            intro wd817 v818 S819 hL
            refine ⟨(hL.sel [2, 6, 7, 8] (by decide) rfl), ?_⟩
            exact DH.relist (listed' := #[true, true, true, true, true, true, true, true, false, true, true, true, true, false, false, false, false, false]) (by kernel_rfl) (hN593 _ _ ⟨v818, S819, v645, S646, f802, f803, f804, f805, f806, f807, f808, f809, f810, rfl, hL⟩)
        refine DH.node (listed' := #[true, true, true, true, true, true, true, true, false, true, false, true, true, false, false, false, false, false]) (fuel' := 7) (fun (F : Fr) (w : World) => ∃ (v647 : Value) (S648 : Nat → Prop) (v649 : Value) (S650 : Nat → Prop), F 1 = (.pointer (some ⟨b4, 0, none⟩)) ∧ F 2 = (.pointer (some ⟨b6, 0, none⟩)) ∧ F 3 = (.pointer (some ⟨b8, 0, none⟩)) ∧ F 13 = v1 ∧ F 14 = (.int .i64 (a0.Races.length : Int)) ∧ F 15 = (.int .i64 s_l1.2.2) ∧ F 34 = v318 ∧ F 40 = v649 ∧ F 42 = (.pointer (some ⟨b8, 2, none⟩)) ∧ F 45 = v647 ∧ Hp w0 [Ent.own 53 S648 v647 ([s_l2.1] : List (List Int)), Ent.own 53 S650 v649 ([x441] : List (List Int)), Ent.blk b356 29 #[v349], Ent.own 53 S319 v318 s_l1.1, Ent.own 53 S321 v320 s_l1.2.1, Ent.blk b8 38 #[(.int .i64 a0.Boats), v318, v320], Ent.blk b6 38 #[(.int .i64 0), (.slice none 0 0), (.slice none 0 0)], Ent.blk b4 49 #[(.int .i64 a0.Boats), (.int .i64 a0.Scheme), v1], Ent.snap w0 w0.heap.size] w) ?_ (fun hN596 => ?_)
        · intro F820 wd821 hJ
          obtain ⟨v647, S648, v649, S650, f822, f823, f824, f825, f826, f827, f828, f829, f830, f831, hL⟩ := hJ
          refine DH.all (rs := [8, 10]) (by kernel_rfl) (by simp) ?_
          intro i832 hi833
          simp only [List.mem_cons, List.not_mem_nil, or_false] at hi833
          rcases hi833 with rfl | rfl
          · refine ⟨_, rfl, ?_⟩
            have hL := hL.sel [3, 1, 0, 2, 4, 5, 6, 7, 8] (by decide) rfl
            refine S_appendN Int hL Try.underlying33 Try_T53 rfl f828 f829 hc454 (by decide) rfl ?_
            intro wd834 v835 S836 hL
            refine ⟨(hL.sel [2, 5, 6, 7] (by decide) rfl), ?_⟩
            have hL := hL.sel [1, 0, 2, 3, 4, 5, 6, 7] (by decide) rfl
            exact DH.relist (listed' := #[true, true, true, true, true, true, true, true, true, true, false, true, true, false, false, false, false, false]) (by kernel_rfl) (hN592 _ _ ⟨v647, S648, v835, S836, f822, f823, f824, f825, f826, f827, rfl, f830, f831, hL⟩)
          · refine ⟨_, rfl, ?_⟩
            refine OP.val (v := v320) rfl (x_load1 Try.underlying33 rfl f830 (hL.cellB 5 rfl rfl)) ?_
            refine ⟨(hL.sel [2, 6, 7, 8] (by decide) rfl), ?_⟩
            exact DH.relist (listed' := #[true, true, true, true, true, true, true, true, false, true, true, true, true, false, false, false, false, false]) (by kernel_rfl) (hN593 _ _ ⟨v647, S648, v649, S650, f822, f823, f824, f825, f826, f827, f828, f829, rfl, f831, hL⟩)
        refine DH.node (listed' := #[true, true, true, true, true, true, true, false, false, true, true, true, true, false, false, false, false, false]) (fuel' := 7) (fun (F : Fr) (w : World) => ∃ (v651 : Value) (S652 : Nat → Prop) (v653 : Value) (S654 : Nat → Prop), F 1 = (.pointer (some ⟨b4, 0, none⟩)) ∧ F 2 = (.pointer (some ⟨b6, 0, none⟩)) ∧ F 3 = (.pointer (some ⟨b8, 0, none⟩)) ∧ F 13 = v1 ∧ F 14 = (.int .i64 (a0.Races.length : Int)) ∧ F 15 = (.int .i64 s_l1.2.2) ∧ F 34 = v318 ∧ F 39 = v653 ∧ F 43 = v320 ∧ F 45 = v651 ∧ Hp w0 [Ent.own 53 S652 v651 ([s_l2.1] : List (List Int)), Ent.own 2 S654 v653 x441, Ent.blk b356 29 #[v349], Ent.own 53 S319 v318 s_l1.1, Ent.own 53 S321 v320 s_l1.2.1, Ent.blk b8 38 #[(.int .i64 a0.Boats), v318, v320], Ent.blk b6 38 #[(.int .i64 0), (.slice none 0 0), (.slice none 0 0)], Ent.blk b4 49 #[(.int .i64 a0.Boats), (.int .i64 a0.Scheme), v1], Ent.snap w0 w0.heap.size] w) ?_ (fun hN597 => ?_)
        · intro F837 wd838 hJ
          obtain ⟨v651, S652, v653, S654, f839, f840, f841, f842, f843, f844, f845, f846, f847, f848, hL⟩ := hJ
          have hL := hL.sel [1, 0, 2, 3, 4, 5, 6, 7, 8] (by decide) rfl
          refine DH.only 7 rfl (by kernel_rfl) (S_lit1 x441 rfl hL Try.underlying33 Try_T53 ((congrArg Value.cells f846).trans (rdL_cells (hL.rdO 0 rfl))) rfl ?_)
          intro wd849 v850 S851 hL
          refine ⟨(hL.sel [2, 6, 7, 8] (by decide) rfl), ?_⟩
          have hL := hL.sel [1, 0, 2, 3, 4, 5, 6, 7, 8] (by decide) rfl
          exact DH.relist (listed' := #[true, true, true, true, true, true, true, true, false, true, true, true, true, false, false, false, false, false]) (by kernel_rfl) (hN593 _ _ ⟨v651, S652, v850, S851, f839, f840, f841, f842, f843, f844, f845, rfl, f847, f848, hL⟩)
        refine DH.node (listed' := #[true, false, true, true, true, true, true, true, false, true, true, true, true, false, false, false, false, false]) (fuel' := 7) (fun (F : Fr) (w : World) => ∃ (v655 : Value) (S656 : Nat → Prop) (v657 : Value) (S658 : Nat → Prop), F 1 = (.pointer (some ⟨b4, 0, none⟩)) ∧ F 2 = (.pointer (some ⟨b6, 0, none⟩)) ∧ F 3 = (.pointer (some ⟨b8, 0, none⟩)) ∧ F 13 = v1 ∧ F 14 = (.int .i64 (a0.Races.length : Int)) ∧ F 15 = (.int .i64 s_l1.2.2) ∧ F 33 = (.pointer (some ⟨b8, 1, none⟩)) ∧ F 40 = v657 ∧ F 43 = v320 ∧ F 45 = v655 ∧ Hp w0 [Ent.own 53 S656 v655 ([s_l2.1] : List (List Int)), Ent.own 53 S658 v657 ([x441] : List (List Int)), Ent.blk b356 29 #[v349], Ent.own 53 S319 v318 s_l1.1, Ent.own 53 S321 v320 s_l1.2.1, Ent.blk b8 38 #[(.int .i64 a0.Boats), v318, v320], Ent.blk b6 38 #[(.int .i64 0), (.slice none 0 0), (.slice none 0 0)], Ent.blk b4 49 #[(.int .i64 a0.Boats), (.int .i64 a0.Scheme), v1], Ent.snap w0 w0.heap.size] w) ?_ (fun hN598 => ?_)
        · intro F852 wd853 hJ
          obtain ⟨v655, S656, v657, S658, f854, f855, f856, f857, f858, f859, f860, f861, f862, f863, hL⟩ := hJ
          refine DH.only 1 rfl (by kernel_rfl) (OP.val (v := v318) rfl (x_load1 Try.underlying33 rfl f860 (hL.cellB 5 rfl rfl)) ?_)
          refine ⟨(hL.sel [2, 6, 7, 8] (by decide) rfl), ?_⟩
          exact DH.relist (listed' := #[true, true, true, true, true, true, true, true, false, true, true, true, true, false, false, false, false, false]) (by kernel_rfl) (hN593 _ _ ⟨v655, S656, v657, S658, f854, f855, f856, f857, f858, f859, rfl, f861, f862, f863, hL⟩)
        refine DH.node (listed' := #[true, true, true, true, true, true, true, true, false, true, false, true, false, false, false, false, false, false]) (fuel' := 8) (fun (F : Fr) (w : World) => ∃ (v659 : Value) (S660 : Nat → Prop), F 1 = (.pointer (some ⟨b4, 0, none⟩)) ∧ F 2 = (.pointer (some ⟨b6, 0, none⟩)) ∧ F 3 = (.pointer (some ⟨b8, 0, none⟩)) ∧ F 13 = v1 ∧ F 14 = (.int .i64 (a0.Races.length : Int)) ∧ F 15 = (.int .i64 s_l1.2.2) ∧ F 34 = v318 ∧ F 40 = v659 ∧ F 42 = (.pointer (some ⟨b8, 2, none⟩)) ∧ F 44 = v399 ∧ Hp w0 [Ent.own 53 S660 v659 ([x441] : List (List Int)), Ent.own 2 S400 v399 s_l2.1, Ent.blk b356 29 #[v349], Ent.own 53 S319 v318 s_l1.1, Ent.own 53 S321 v320 s_l1.2.1, Ent.blk b8 38 #[(.int .i64 a0.Boats), v318, v320], Ent.blk b6 38 #[(.int .i64 0), (.slice none 0 0), (.slice none 0 0)], Ent.blk b4 49 #[(.int .i64 a0.Boats), (.int .i64 a0.Scheme), v1], Ent.snap w0 w0.heap.size] w) ?_ (fun hN599 => ?_)
        · intro F864 wd865 hJ
          obtain ⟨v659, S660, f866, f867, f868, f869, f870, f871, f872, f873, f874, f875, hL⟩ := hJ
          refine DH.all (rs := [8, 10, 12]) (by kernel_rfl) (by simp) ?_
          intro i876 hi877
          simp only [List.mem_cons, List.not_mem_nil, or_false] at hi877
          rcases hi877 with rfl | rfl | rfl
          · refine ⟨_, rfl, ?_⟩
            have hL := hL.sel [3, 0, 1, 2, 4, 5, 6, 7, 8] (by decide) rfl
            refine S_appendN Int hL Try.underlying33 Try_T53 rfl f872 f873 hc454 (by decide) rfl ?_
            intro wd878 v879 S880 hL
            refine ⟨(hL.sel [2, 5, 6, 7] (by decide) rfl), ?_⟩
            exact DH.relist (listed' := #[true, true, true, true, true, true, true, true, true, true, false, true, false, false, false, false, false, false]) (by kernel_rfl) (hN594 _ _ ⟨v879, S880, f866, f867, f868, f869, f870, f871, rfl, f874, f875, hL⟩)
          · refine ⟨_, rfl, ?_⟩
            refine OP.val (v := v320) rfl (x_load1 Try.underlying33 rfl f874 (hL.cellB 5 rfl rfl)) ?_
            refine ⟨(hL.sel [2, 6, 7, 8] (by decide) rfl), ?_⟩
            exact DH.relist (listed' := #[true, true, true, true, true, true, true, true, false, true, true, true, false, false, false, false, false, false]) (by kernel_rfl) (hN595 _ _ ⟨v659, S660, f866, f867, f868, f869, f870, f871, f872, f873, rfl, f875, hL⟩)
          · refine ⟨_, rfl, ?_⟩
            have hL := hL.sel [1, 0, 2, 3, 4, 5, 6, 7, 8] (by decide) rfl
            refine S_lit1 s_l2.1 rfl hL Try.underlying33 Try_T53 ((congrArg Value.cells f875).trans (rdL_cells (hL.rdO 0 rfl))) rfl ?_
            intro wd881 v882 S883 hL
            refine ⟨(hL.sel [2, 6, 7, 8] (by decide) rfl), ?_⟩
            exact DH.relist (listed' := #[true, true, true, true, true, true, true, true, false, true, false, true, true, false, false, false, false, false]) (by kernel_rfl) (hN596 _ _ ⟨v882, S883, v659, S660, f866, f867, f868, f869, f870, f871, f872, f873, f874, rfl, hL⟩)
        refine DH.node (listed' := #[true, true, true, true, true, true, true, false, false, true, true, true, false, false, false, false, false, false]) (fuel' := 8) (fun (F : Fr) (w : World) => ∃ (v661 : Value) (S662 : Nat → Prop), F 1 = (.pointer (some ⟨b4, 0, none⟩)) ∧ F 2 = (.pointer (some ⟨b6, 0, none⟩)) ∧ F 3 = (.pointer (some ⟨b8, 0, none⟩)) ∧ F 13 = v1 ∧ F 14 = (.int .i64 (a0.Races.length : Int)) ∧ F 15 = (.int .i64 s_l1.2.2) ∧ F 34 = v318 ∧ F 39 = v661 ∧ F 43 = v320 ∧ F 44 = v399 ∧ Hp w0 [Ent.own 2 S662 v661 x441, Ent.own 2 S400 v399 s_l2.1, Ent.blk b356 29 #[v349], Ent.own 53 S319 v318 s_l1.1, Ent.own 53 S321 v320 s_l1.2.1, Ent.blk b8 38 #[(.int .i64 a0.Boats), v318, v320], Ent.blk b6 38 #[(.int .i64 0), (.slice none 0 0), (.slice none 0 0)], Ent.blk b4 49 #[(.int .i64 a0.Boats), (.int .i64 a0.Scheme), v1], Ent.snap w0 w0.heap.size] w) ?_ (fun hN600 => ?_)
        · intro F884 wd885 hJ
          obtain ⟨v661, S662, f886, f887, f888, f889, f890, f891, f892, f893, f894, f895, hL⟩ := hJ
          refine DH.all (rs := [7, 12]) (by kernel_rfl) (by simp) ?_
          intro i896 hi897
          simp only [List.mem_cons, List.not_mem_nil, or_false] at hi897
          rcases hi897 with rfl | rfl
          · refine ⟨_, rfl, ?_⟩
            refine S_lit1 x441 rfl hL Try.underlying33 Try_T53 ((congrArg Value.cells f893).trans (rdL_cells (hL.rdO 0 rfl))) rfl ?_
            intro wd898 v899 S900 hL
            refine ⟨(hL.sel [2, 6, 7, 8] (by decide) rfl), ?_⟩
            exact DH.relist (listed' := #[true, true, true, true, true, true, true, true, false, true, true, true, false, false, false, false, false, false]) (by kernel_rfl) (hN595 _ _ ⟨v899, S900, f886, f887, f888, f889, f890, f891, f892, rfl, f894, f895, hL⟩)
          · refine ⟨_, rfl, ?_⟩
            have hL := hL.sel [1, 0, 2, 3, 4, 5, 6, 7, 8] (by decide) rfl
            refine S_lit1 s_l2.1 rfl hL Try.underlying33 Try_T53 ((congrArg Value.cells f895).trans (rdL_cells (hL.rdO 0 rfl))) rfl ?_
            intro wd901 v902 S903 hL
            refine ⟨(hL.sel [2, 6, 7, 8] (by decide) rfl), ?_⟩
            exact DH.relist (listed' := #[true, true, true, true, true, true, true, false, false, true, true, true, true, false, false, false, false, false]) (by kernel_rfl) (hN597 _ _ ⟨v902, S903, v661, S662, f886, f887, f888, f889, f890, f891, f892, f893, f894, rfl, hL⟩)
        refine DH.node (listed' := #[true, true, true, true, true, true, true, false, false, true, false, true, true, false, false, false, false, false]) (fuel' := 8) (fun (F : Fr) (w : World) => ∃ (v663 : Value) (S664 : Nat → Prop) (v665 : Value) (S666 : Nat → Prop), F 1 = (.pointer (some ⟨b4, 0, none⟩)) ∧ F 2 = (.pointer (some ⟨b6, 0, none⟩)) ∧ F 3 = (.pointer (some ⟨b8, 0, none⟩)) ∧ F 13 = v1 ∧ F 14 = (.int .i64 (a0.Races.length : Int)) ∧ F 15 = (.int .i64 s_l1.2.2) ∧ F 34 = v318 ∧ F 39 = v665 ∧ F 42 = (.pointer (some ⟨b8, 2, none⟩)) ∧ F 45 = v663 ∧ Hp w0 [Ent.own 53 S664 v663 ([s_l2.1] : List (List Int)), Ent.own 2 S666 v665 x441, Ent.blk b356 29 #[v349], Ent.own 53 S319 v318 s_l1.1, Ent.own 53 S321 v320 s_l1.2.1, Ent.blk b8 38 #[(.int .i64 a0.Boats), v318, v320], Ent.blk b6 38 #[(.int .i64 0), (.slice none 0 0), (.slice none 0 0)], Ent.blk b4 49 #[(.int .i64 a0.Boats), (.int .i64 a0.Scheme), v1], Ent.snap w0 w0.heap.size] w) ?_ (fun hN601 => ?_)
        · intro F904 wd905 hJ
          obtain ⟨v663, S664, v665, S666, f906, f907, f908, f909, f910, f911, f912, f913, f914, f915, hL⟩ := hJ
          refine DH.all (rs := [7, 10]) (by kernel_rfl) (by simp) ?_
          intro i916 hi917
          simp only [List.mem_cons, List.not_mem_nil, or_false] at hi917
          rcases hi917 with rfl | rfl
          · refine ⟨_, rfl, ?_⟩
            have hL := hL.sel [1, 0, 2, 3, 4, 5, 6, 7, 8] (by decide) rfl
            refine S_lit1 x441 rfl hL Try.underlying33 Try_T53 ((congrArg Value.cells f913).trans (rdL_cells (hL.rdO 0 rfl))) rfl ?_
            intro wd918 v919 S920 hL
            refine ⟨(hL.sel [2, 6, 7, 8] (by decide) rfl), ?_⟩
            have hL := hL.sel [1, 0, 2, 3, 4, 5, 6, 7, 8] (by decide) rfl
            exact DH.relist (listed' := #[true, true, true, true, true, true, true, true, false, true, false, true, true, false, false, false, false, false]) (by kernel_rfl) (hN596 _ _ ⟨v663, S664, v919, S920, f906, f907, f908, f909, f910, f911, f912, rfl, f914, f915, hL⟩)
          · refine ⟨_, rfl, ?_⟩
            refine OP.val (v := v320) rfl (x_load1 Try.underlying33 rfl f914 (hL.cellB 5 rfl rfl)) ?_
            refine ⟨(hL.sel [2, 6, 7, 8] (by decide) rfl), ?_⟩
            exact DH.relist (listed' := #[true, true, true, true, true, true, true, false, false, true, true, true, true, false, false, false, false, false]) (by kernel_rfl) (hN597 _ _ ⟨v663, S664, v665, S666, f906, f907, f908, f909, f910, f911, f912, f913, rfl, f915, hL⟩)
        refine DH.node (listed' := #[true, true, true, true, true, true, false, false, false, true, true, true, true, false, false, false, false, false]) (fuel' := 8) (fun (F : Fr) (w : World) => ∃ (v667 : Value) (S668 : Nat → Prop), F 1 = (.pointer (some ⟨b4, 0, none⟩)) ∧ F 2 = (.pointer (some ⟨b6, 0, none⟩)) ∧ F 3 = (.pointer (some ⟨b8, 0, none⟩)) ∧ F 13 = v1 ∧ F 14 = (.int .i64 (a0.Races.length : Int)) ∧ F 15 = (.int .i64 s_l1.2.2) ∧ F 34 = v318 ∧ F 36 = v349 ∧ F 38 = (.int .i64 a0.Scheme) ∧ F 43 = v320 ∧ F 45 = v667 ∧ Hp w0 [Ent.own 53 S668 v667 ([s_l2.1] : List (List Int)), Ent.blk b356 29 #[v349], Ent.own 53 S319 v318 s_l1.1, Ent.own 53 S321 v320 s_l1.2.1, Ent.blk b8 38 #[(.int .i64 a0.Boats), v318, v320], Ent.blk b6 38 #[(.int .i64 0), (.slice none 0 0), (.slice none 0 0)], Ent.blk b4 49 #[(.int .i64 a0.Boats), (.int .i64 a0.Scheme), v1], Ent.snap w0 w0.heap.size] w) ?_ (fun hN602 => ?_)
        · intro F921 wd922 hJ
          obtain ⟨v667, S668, f923, f924, f925, f926, f927, f928, f929, f930, f931, f932, f933, hL⟩ := hJ
          refine DH.only 6 rfl (by kernel_rfl) (OP.call rfl (x_call (vs := [v349, (.int .i64 a0.Scheme)]) Try_C73 ⟨f930, f931, trivial⟩) (M.impl_racePoints_ok _ x344.Finishes (hL.rdS 7 rfl hr353) a0.Scheme hx442) ?_)
          rintro e936 wd937 ⟨v935, S934, rfl, hF938⟩
          refine ⟨_, rfl, ?_⟩
          have hL := hL.pushAll hF938
          simp only [List.cons_append, List.nil_append, List.set_cons_zero, List.set_cons_succ] at hL
          refine ⟨(hL.sel [2, 6, 7, 8] (by decide) rfl), ?_⟩
          have hL := hL.sel [1, 0, 2, 3, 4, 5, 6, 7, 8] (by decide) rfl
          exact DH.relist (listed' := #[true, true, true, true, true, true, true, false, false, true, true, true, true, false, false, false, false, false]) (by kernel_rfl) (hN597 _ _ ⟨v667, S668, v935, S934, f923, f924, f925, f926, f927, f928, f929, rfl, f932, f933, hL⟩)
        refine DH.node (listed' := #[true, false, true, true, true, true, true, true, false, true, true, true, false, false, false, false, false, false]) (fuel' := 8) (fun (F : Fr) (w : World) => ∃ (v669 : Value) (S670 : Nat → Prop), F 1 = (.pointer (some ⟨b4, 0, none⟩)) ∧ F 2 = (.pointer (some ⟨b6, 0, none⟩)) ∧ F 3 = (.pointer (some ⟨b8, 0, none⟩)) ∧ F 13 = v1 ∧ F 14 = (.int .i64 (a0.Races.length : Int)) ∧ F 15 = (.int .i64 s_l1.2.2) ∧ F 33 = (.pointer (some ⟨b8, 1, none⟩)) ∧ F 40 = v669 ∧ F 43 = v320 ∧ F 44 = v399 ∧ Hp w0 [Ent.own 53 S670 v669 ([x441] : List (List Int)), Ent.own 2 S400 v399 s_l2.1, Ent.blk b356 29 #[v349], Ent.own 53 S319 v318 s_l1.1, Ent.own 53 S321 v320 s_l1.2.1, Ent.blk b8 38 #[(.int .i64 a0.Boats), v318, v320], Ent.blk b6 38 #[(.int .i64 0), (.slice none 0 0), (.slice none 0 0)], Ent.blk b4 49 #[(.int .i64 a0.Boats), (.int .i64 a0.Scheme), v1], Ent.snap w0 w0.heap.size] w) ?_ (fun hN603 => ?_)
        · intro F939 wd940 hJ
          obtain ⟨v669, S670, f941, f942, f943, f944, f945, f946, f947, f948, f949, f950, hL⟩ := hJ
          refine DH.all (rs := [1, 12]) (by kernel_rfl) (by simp) ?_
          intro i951 hi952
          simp only [List.mem_cons, List.not_mem_nil, or_false] at hi952
          rcases hi952 with rfl | rfl
          · refine ⟨_, rfl, ?_⟩
            refine OP.val (v := v318) rfl (x_load1 Try.underlying33 rfl f947 (hL.cellB 5 rfl rfl)) ?_
            refine ⟨(hL.sel [2, 6, 7, 8] (by decide) rfl), ?_⟩
            exact DH.relist (listed' := #[true, true, true, true, true, true, true, true, false, true, true, true, false, false, false, false, false, false]) (by kernel_rfl) (hN595 _ _ ⟨v669, S670, f941, f942, f943, f944, f945, f946, rfl, f948, f949, f950, hL⟩)
          · refine ⟨_, rfl, ?_⟩
            have hL := hL.sel [1, 0, 2, 3, 4, 5, 6, 7, 8] (by decide) rfl
            refine S_lit1 s_l2.1 rfl hL Try.underlying33 Try_T53 ((congrArg Value.cells f950).trans (rdL_cells (hL.rdO 0 rfl))) rfl ?_
            intro wd953 v954 S955 hL
            refine ⟨(hL.sel [2, 6, 7, 8] (by decide) rfl), ?_⟩
            exact DH.relist (listed' := #[true, false, true, true, true, true, true, true, false, true, true, true, true, false, false, false, false, false]) (by kernel_rfl) (hN598 _ _ ⟨v954, S955, v669, S670, f941, f942, f943, f944, f945, f946, f947, f948, f949, rfl, hL⟩)
        refine DH.node (listed' := #[true, false, true, true, true, true, true, true, false, true, false, true, true, false, false, false, false, false]) (fuel' := 8) (fun (F : Fr) (w : World) => ∃ (v671 : Value) (S672 : Nat → Prop) (v673 : Value) (S674 : Nat → Prop), F 1 = (.pointer (some ⟨b4, 0, none⟩)) ∧ F 2 = (.pointer (some ⟨b6, 0, none⟩)) ∧ F 3 = (.pointer (some ⟨b8, 0, none⟩)) ∧ F 13 = v1 ∧ F 14 = (.int .i64 (a0.Races.length : Int)) ∧ F 15 = (.int .i64 s_l1.2.2) ∧ F 33 = (.pointer (some ⟨b8, 1, none⟩)) ∧ F 40 = v673 ∧ F 42 = (.pointer (some ⟨b8, 2, none⟩)) ∧ F 45 = v671 ∧ Hp w0 [Ent.own 53 S672 v671 ([s_l2.1] : List (List Int)), Ent.own 53 S674 v673 ([x441] : List (List Int)), Ent.blk b356 29 #[v349], Ent.own 53 S319 v318 s_l1.1, Ent.own 53 S321 v320 s_l1.2.1, Ent.blk b8 38 #[(.int .i64 a0.Boats), v318, v320], Ent.blk b6 38 #[(.int .i64 0), (.slice none 0 0), (.slice none 0 0)], Ent.blk b4 49 #[(.int .i64 a0.Boats), (.int .i64 a0.Scheme), v1], Ent.snap w0 w0.heap.size] w) ?_ (fun hN604 => ?_)
        · intro F956 wd957 hJ
          obtain ⟨v671, S672, v673, S674, f958, f959, f960, f961, f962, f963, f964, f965, f966, f967, hL⟩ := hJ
          refine DH.all (rs := [1, 10]) (by kernel_rfl) (by simp) ?_
          intro i968 hi969
          simp only [List.mem_cons, List.not_mem_nil, or_false] at hi969
          rcases hi969 with rfl | rfl
          · refine ⟨_, rfl, ?_⟩
            refine OP.val (v := v318) rfl (x_load1 Try.underlying33 rfl f964 (hL.cellB 5 rfl rfl)) ?_
            refine ⟨(hL.sel [2, 6, 7, 8] (by decide) rfl), ?_⟩
            exact DH.relist (listed' := #[true, true, true, true, true, true, true, true, false, true, false, true, true, false, false, false, false, false]) (by kernel_rfl) (hN596 _ _ ⟨v671, S672, v673, S674, f958, f959, f960, f961, f962, f963, rfl, f965, f966, f967, hL⟩)
          · refine ⟨_, rfl, ?_⟩
            refine OP.val (v := v320) rfl (x_load1 Try.underlying33 rfl f966 (hL.cellB 5 rfl rfl)) ?_
            refine ⟨(hL.sel [2, 6, 7, 8] (by decide) rfl), ?_⟩
            exact DH.relist (listed' := #[true, false, true, true, true, true, true, true, false, true, true, true, true, false, false, false, false, false]) (by kernel_rfl) (hN598 _ _ ⟨v671, S672, v673, S674, f958, f959, f960, f961, f962, f963, f964, f965, rfl, f967, hL⟩)
        refine DH.node (listed' := #[true, false, true, true, true, true, true, false, false, true, true, true, true, false, false, false, false, false]) (fuel' := 8) (fun (F : Fr) (w : World) => ∃ (v675 : Value) (S676 : Nat → Prop) (v677 : Value) (S678 : Nat → Prop), F 1 = (.pointer (some ⟨b4, 0, none⟩)) ∧ F 2 = (.pointer (some ⟨b6, 0, none⟩)) ∧ F 3 = (.pointer (some ⟨b8, 0, none⟩)) ∧ F 13 = v1 ∧ F 14 = (.int .i64 (a0.Races.length : Int)) ∧ F 15 = (.int .i64 s_l1.2.2) ∧ F 33 = (.pointer (some ⟨b8, 1, none⟩)) ∧ F 39 = v677 ∧ F 43 = v320 ∧ F 45 = v675 ∧ Hp w0 [Ent.own 53 S676 v675 ([s_l2.1] : List (List Int)), Ent.own 2 S678 v677 x441, Ent.blk b356 29 #[v349], Ent.own 53 S319 v318 s_l1.1, Ent.own 53 S321 v320 s_l1.2.1, Ent.blk b8 38 #[(.int .i64 a0.Boats), v318, v320], Ent.blk b6 38 #[(.int .i64 0), (.slice none 0 0), (.slice none 0 0)], Ent.blk b4 49 #[(.int .i64 a0.Boats), (.int .i64 a0.Scheme), v1], Ent.snap w0 w0.heap.size] w) ?_ (fun hN605 => ?_)
        · intro F970 wd971 hJ
          obtain ⟨v675, S676, v677, S678, f972, f973, f974, f975, f976, f977, f978, f979, f980, f981, hL⟩ := hJ
          refine DH.all (rs := [1, 7]) (by kernel_rfl) (by simp) ?_
          intro i982 hi983
          simp only [List.mem_cons, List.not_mem_nil, or_false] at hi983
          rcases hi983 with rfl | rfl
          · refine ⟨_, rfl, ?_⟩
            refine OP.val (v := v318) rfl (x_load1 Try.underlying33 rfl f978 (hL.cellB 5 rfl rfl)) ?_
            refine ⟨(hL.sel [2, 6, 7, 8] (by decide) rfl), ?_⟩
            exact DH.relist (listed' := #[true, true, true, true, true, true, true, false, false, true, true, true, true, false, false, false, false, false]) (by kernel_rfl) (hN597 _ _ ⟨v675, S676, v677, S678, f972, f973, f974, f975, f976, f977, rfl, f979, f980, f981, hL⟩)
          · refine ⟨_, rfl, ?_⟩
            have hL := hL.sel [1, 0, 2, 3, 4, 5, 6, 7, 8] (by decide) rfl
            refine S_lit1 x441 rfl hL Try.underlying33 Try_T53 ((congrArg Value.cells f979).trans (rdL_cells (hL.rdO 0 rfl))) rfl ?_
            intro wd984 v985 S986 hL
            refine ⟨(hL.sel [2, 6, 7, 8] (by decide) rfl), ?_⟩
            have hL := hL.sel [1, 0, 2, 3, 4, 5, 6, 7, 8] (by decide) rfl
            exact DH.relist (listed' := #[true, false, true, true, true, true, true, true, false, true, true, true, true, false, false, false, false, false]) (by kernel_rfl) (hN598 _ _ ⟨v675, S676, v985, S986, f972, f973, f974, f975, f976, f977, f978, rfl, f980, f981, hL⟩)
        refine DH.node (listed' := #[true, true, true, true, true, true, true, false, false, true, false, true, false, false, false, false, false, false]) (fuel' := 9) (fun (F : Fr) (w : World) => ∃ (v679 : Value) (S680 : Nat → Prop), F 1 = (.pointer (some ⟨b4, 0, none⟩)) ∧ F 2 = (.pointer (some ⟨b6, 0, none⟩)) ∧ F 3 = (.pointer (some ⟨b8, 0, none⟩)) ∧ F 13 = v1 ∧ F 14 = (.int .i64 (a0.Races.length : Int)) ∧ F 15 = (.int .i64 s_l1.2.2) ∧ F 34 = v318 ∧ F 39 = v679 ∧ F 42 = (.pointer (some ⟨b8, 2, none⟩)) ∧ F 44 = v399 ∧ Hp w0 [Ent.own 2 S680 v679 x441, Ent.own 2 S400 v399 s_l2.1, Ent.blk b356 29 #[v349], Ent.own 53 S319 v318 s_l1.1, Ent.own 53 S321 v320 s_l1.2.1, Ent.blk b8 38 #[(.int .i64 a0.Boats), v318, v320], Ent.blk b6 38 #[(.int .i64 0), (.slice none 0 0), (.slice none 0 0)], Ent.blk b4 49 #[(.int .i64 a0.Boats), (.int .i64 a0.Scheme), v1], Ent.snap w0 w0.heap.size] w) ?_ (fun hN606 => ?_)
        · intro F987 wd988 hJ
          obtain ⟨v679, S680, f989, f990, f991, f992, f993, f994, f995, f996, f997, f998, hL⟩ := hJ
          refine DH.all (rs := [7, 10, 12]) (by kernel_rfl) (by simp) ?_
          intro i999 hi1000
          simp only [List.mem_cons, List.not_mem_nil, or_false] at hi1000
          rcases hi1000 with rfl | rfl | rfl
          · refine ⟨_, rfl, ?_⟩
            refine S_lit1 x441 rfl hL Try.underlying33 Try_T53 ((congrArg Value.cells f996).trans (rdL_cells (hL.rdO 0 rfl))) rfl ?_
            intro wd1001 v1002 S1003 hL
            refine ⟨(hL.sel [2, 6, 7, 8] (by decide) rfl), ?_⟩
            exact DH.relist (listed' := #[true, true, true, true, true, true, true, true, false, true, false, true, false, false, false, false, false, false]) (by kernel_rfl) (hN599 _ _ ⟨v1002, S1003, f989, f990, f991, f992, f993, f994, f995, rfl, f997, f998, hL⟩)
          · refine ⟨_, rfl, ?_⟩
            refine OP.val (v := v320) rfl (x_load1 Try.underlying33 rfl f997 (hL.cellB 5 rfl rfl)) ?_
            refine ⟨(hL.sel [2, 6, 7, 8] (by decide) rfl), ?_⟩
            exact DH.relist (listed' := #[true, true, true, true, true, true, true, false, false, true, true, true, false, false, false, false, false, false]) (by kernel_rfl) (hN600 _ _ ⟨v679, S680, f989, f990, f991, f992, f993, f994, f995, f996, rfl, f998, hL⟩)
          · refine ⟨_, rfl, ?_⟩
            have hL := hL.sel [1, 0, 2, 3, 4, 5, 6, 7, 8] (by decide) rfl
            refine S_lit1 s_l2.1 rfl hL Try.underlying33 Try_T53 ((congrArg Value.cells f998).trans (rdL_cells (hL.rdO 0 rfl))) rfl ?_
            intro wd1004 v1005 S1006 hL
            refine ⟨(hL.sel [2, 6, 7, 8] (by decide) rfl), ?_⟩
            exact DH.relist (listed' := #[true, true, true, true, true, true, true, false, false, true, false, true, true, false, false, false, false, false]) (by kernel_rfl) (hN601 _ _ ⟨v1005, S1006, v679, S680, f989, f990, f991, f992, f993, f994, f995, f996, f997, rfl, hL⟩)
        refine DH.node (listed' := #[true, true, true, true, true, true, false, false, false, true, true, true, false, false, false, false, false, false]) (fuel' := 9) (fun (F : Fr) (w : World) => F 1 = (.pointer (some ⟨b4, 0, none⟩)) ∧ F 2 = (.pointer (some ⟨b6, 0, none⟩)) ∧ F 3 = (.pointer (some ⟨b8, 0, none⟩)) ∧ F 13 = v1 ∧ F 14 = (.int .i64 (a0.Races.length : Int)) ∧ F 15 = (.int .i64 s_l1.2.2) ∧ F 34 = v318 ∧ F 36 = v349 ∧ F 38 = (.int .i64 a0.Scheme) ∧ F 43 = v320 ∧ F 44 = v399 ∧ Hp w0 [Ent.own 2 S400 v399 s_l2.1, Ent.blk b356 29 #[v349], Ent.own 53 S319 v318 s_l1.1, Ent.own 53 S321 v320 s_l1.2.1, Ent.blk b8 38 #[(.int .i64 a0.Boats), v318, v320], Ent.blk b6 38 #[(.int .i64 0), (.slice none 0 0), (.slice none 0 0)], Ent.blk b4 49 #[(.int .i64 a0.Boats), (.int .i64 a0.Scheme), v1], Ent.snap w0 w0.heap.size] w) ?_ (fun hN607 => ?_)
        · intro F1007 wd1008 hJ
          obtain ⟨f1009, f1010, f1011, f1012, f1013, f1014, f1015, f1016, f1017, f1018, f1019, hL⟩ := hJ
          refine DH.all (rs := [6, 12]) (by kernel_rfl) (by simp) ?_
          intro i1020 hi1021
          simp only [List.mem_cons, List.not_mem_nil, or_false] at hi1021
          rcases hi1021 with rfl | rfl
          · refine ⟨_, rfl, ?_⟩
            refine OP.call rfl (x_call (vs := [v349, (.int .i64 a0.Scheme)]) Try_C73 ⟨f1016, f1017, trivial⟩) (M.impl_racePoints_ok _ x344.Finishes (hL.rdS 7 rfl hr353) a0.Scheme hx442) ?_
            rintro e1024 wd1025 ⟨v1023, S1022, rfl, hF1026⟩
            refine ⟨_, rfl, ?_⟩
            have hL := hL.pushAll hF1026
            simp only [List.cons_append, List.nil_append, List.set_cons_zero, List.set_cons_succ] at hL
            refine ⟨(hL.sel [2, 6, 7, 8] (by decide) rfl), ?_⟩
            exact DH.relist (listed' := #[true, true, true, true, true, true, true, false, false, true, true, true, false, false, false, false, false, false]) (by kernel_rfl) (hN600 _ _ ⟨v1023, S1022, f1009, f1010, f1011, f1012, f1013, f1014, f1015, rfl, f1018, f1019, hL⟩)
          · refine ⟨_, rfl, ?_⟩
            refine S_lit1 s_l2.1 rfl hL Try.underlying33 Try_T53 ((congrArg Value.cells f1019).trans (rdL_cells (hL.rdO 0 rfl))) rfl ?_
            intro wd1027 v1028 S1029 hL
            refine ⟨(hL.sel [1, 5, 6, 7] (by decide) rfl), ?_⟩
            exact DH.relist (listed' := #[true, true, true, true, true, true, false, false, false, true, true, true, true, false, false, false, false, false]) (by kernel_rfl) (hN602 _ _ ⟨v1028, S1029, f1009, f1010, f1011, f1012, f1013, f1014, f1015, f1016, f1017, f1018, rfl, hL⟩)
        refine DH.node (listed' := #[true, true, true, true, true, true, false, false, false, true, false, true, true, false, false, false, false, false]) (fuel' := 9) (fun (F : Fr) (w : World) => ∃ (v681 : Value) (S682 : Nat → Prop), F 1 = (.pointer (some ⟨b4, 0, none⟩)) ∧ F 2 = (.pointer (some ⟨b6, 0, none⟩)) ∧ F 3 = (.pointer (some ⟨b8, 0, none⟩)) ∧ F 13 = v1 ∧ F 14 = (.int .i64 (a0.Races.length : Int)) ∧ F 15 = (.int .i64 s_l1.2.2) ∧ F 34 = v318 ∧ F 36 = v349 ∧ F 38 = (.int .i64 a0.Scheme) ∧ F 42 = (.pointer (some ⟨b8, 2, none⟩)) ∧ F 45 = v681 ∧ Hp w0 [Ent.own 53 S682 v681 ([s_l2.1] : List (List Int)), Ent.blk b356 29 #[v349], Ent.own 53 S319 v318 s_l1.1, Ent.own 53 S321 v320 s_l1.2.1, Ent.blk b8 38 #[(.int .i64 a0.Boats), v318, v320], Ent.blk b6 38 #[(.int .i64 0), (.slice none 0 0), (.slice none 0 0)], Ent.blk b4 49 #[(.int .i64 a0.Boats), (.int .i64 a0.Scheme), v1], Ent.snap w0 w0.heap.size] w) ?_ (fun hN608 => ?_)
        · intro F1030 wd1031 hJ
          obtain ⟨v681, S682, f1032, f1033, f1034, f1035, f1036, f1037, f1038, f1039, f1040, f1041, f1042, hL⟩ := hJ
          refine DH.all (rs := [6, 10]) (by kernel_rfl) (by simp) ?_
          intro i1043 hi1044
          simp only [List.mem_cons, List.not_mem_nil, or_false] at hi1044
          rcases hi1044 with rfl | rfl
          · refine ⟨_, rfl, ?_⟩
            refine OP.call rfl (x_call (vs := [v349, (.int .i64 a0.Scheme)]) Try_C73 ⟨f1039, f1040, trivial⟩) (M.impl_racePoints_ok _ x344.Finishes (hL.rdS 7 rfl hr353) a0.Scheme hx442) ?_
            rintro e1047 wd1048 ⟨v1046, S1045, rfl, hF1049⟩
            refine ⟨_, rfl, ?_⟩
            have hL := hL.pushAll hF1049
            simp only [List.cons_append, List.nil_append, List.set_cons_zero, List.set_cons_succ] at hL
            refine ⟨(hL.sel [2, 6, 7, 8] (by decide) rfl), ?_⟩
            have hL := hL.sel [1, 0, 2, 3, 4, 5, 6, 7, 8] (by decide) rfl
            exact DH.relist (listed' := #[true, true, true, true, true, true, true, false, false, true, false, true, true, false, false, false, false, false]) (by kernel_rfl) (hN601 _ _ ⟨v681, S682, v1046, S1045, f1032, f1033, f1034, f1035, f1036, f1037, f1038, rfl, f1041, f1042, hL⟩)
          · refine ⟨_, rfl, ?_⟩
            refine OP.val (v := v320) rfl (x_load1 Try.underlying33 rfl f1041 (hL.cellB 4 rfl rfl)) ?_
            refine ⟨(hL.sel [1, 5, 6, 7] (by decide) rfl), ?_⟩
            exact DH.relist (listed' := #[true, true, true, true, true, true, false, false, false, true, true, true, true, false, false, false, false, false]) (by kernel_rfl) (hN602 _ _ ⟨v681, S682, f1032, f1033, f1034, f1035, f1036, f1037, f1038, f1039, f1040, rfl, f1042, hL⟩)
        refine DH.node (listed' := #[true, false, true, true, true, true, true, true, false, true, false, true, false, false, false, false, false, false]) (fuel' := 9) (fun (F : Fr) (w : World) => ∃ (v683 : Value) (S684 : Nat → Prop), F 1 = (.pointer (some ⟨b4, 0, none⟩)) ∧ F 2 = (.pointer (some ⟨b6, 0, none⟩)) ∧ F 3 = (.pointer (some ⟨b8, 0, none⟩)) ∧ F 13 = v1 ∧ F 14 = (.int .i64 (a0.Races.length : Int)) ∧ F 15 = (.int .i64 s_l1.2.2) ∧ F 33 = (.pointer (some ⟨b8, 1, none⟩)) ∧ F 40 = v683 ∧ F 42 = (.pointer (some ⟨b8, 2, none⟩)) ∧ F 44 = v399 ∧ Hp w0 [Ent.own 53 S684 v683 ([x441] : List (List Int)), Ent.own 2 S400 v399 s_l2.1, Ent.blk b356 29 #[v349], Ent.own 53 S319 v318 s_l1.1, Ent.own 53 S321 v320 s_l1.2.1, Ent.blk b8 38 #[(.int .i64 a0.Boats), v318, v320], Ent.blk b6 38 #[(.int .i64 0), (.slice none 0 0), (.slice none 0 0)], Ent.blk b4 49 #[(.int .i64 a0.Boats), (.int .i64 a0.Scheme), v1], Ent.snap w0 w0.heap.size] w) ?_ (fun hN609 => ?_)
        · intro F1050 wd1051 hJ
          obtain ⟨v683, S684, f1052, f1053, f1054, f1055, f1056, f1057, f1058, f1059, f1060, f1061, hL⟩ := hJ
          refine DH.all (rs := [1, 10, 12]) (by kernel_rfl) (by simp) ?_
          intro i1062 hi1063
          simp only [List.mem_cons, List.not_mem_nil, or_false] at hi1063
          rcases hi1063 with rfl | rfl | rfl
          · refine ⟨_, rfl, ?_⟩
            refine OP.val (v := v318) rfl (x_load1 Try.underlying33 rfl f1058 (hL.cellB 5 rfl rfl)) ?_
            refine ⟨(hL.sel [2, 6, 7, 8] (by decide) rfl), ?_⟩
            exact DH.relist (listed' := #[true, true, true, true, true, true, true, true, false, true, false, true, false, false, false, false, false, false]) (by kernel_rfl) (hN599 _ _ ⟨v683, S684, f1052, f1053, f1054, f1055, f1056, f1057, rfl, f1059, f1060, f1061, hL⟩)
          · refine ⟨_, rfl, ?_⟩
            refine OP.val (v := v320) rfl (x_load1 Try.underlying33 rfl f1060 (hL.cellB 5 rfl rfl)) ?_
            refine ⟨(hL.sel [2, 6, 7, 8] (by decide) rfl), ?_⟩
            exact DH.relist (listed' := #[true, false, true, true, true, true, true, true, false, true, true, true, false, false, false, false, false, false]) (by kernel_rfl) (hN603 _ _ ⟨v683, S684, f1052, f1053, f1054, f1055, f1056, f1057, f1058, f1059, rfl, f1061, hL⟩)
          · refine ⟨_, rfl, ?_⟩
            have hL := hL.sel [1, 0, 2, 3, 4, 5, 6, 7, 8] (by decide) rfl
            refine S_lit1 s_l2.1 rfl hL Try.underlying33 Try_T53 ((congrArg Value.cells f1061).trans (rdL_cells (hL.rdO 0 rfl))) rfl ?_
            intro wd1064 v1065 S1066 hL
            refine ⟨(hL.sel [2, 6, 7, 8] (by decide) rfl), ?_⟩
            exact DH.relist (listed' := #[true, false, true, true, true, true, true, true, false, true, false, true, true, false, false, false, false, false]) (by kernel_rfl) (hN604 _ _ ⟨v1065, S1066, v683, S684, f1052, f1053, f1054, f1055, f1056, f1057, f1058, f1059, f1060, rfl, hL⟩)
        refine DH.node (listed' := #[true, false, true, true, true, true, true, false, false, true, true, true, false, false, false, false, false, false]) (fuel' := 9) (fun (F : Fr) (w : World) => ∃ (v685 : Value) (S686 : Nat → Prop), F 1 = (.pointer (some ⟨b4, 0, none⟩)) ∧ F 2 = (.pointer (some ⟨b6, 0, none⟩)) ∧ F 3 = (.pointer (some ⟨b8, 0, none⟩)) ∧ F 13 = v1 ∧ F 14 = (.int .i64 (a0.Races.length : Int)) ∧ F 15 = (.int .i64 s_l1.2.2) ∧ F 33 = (.pointer (some ⟨b8, 1, none⟩)) ∧ F 39 = v685 ∧ F 43 = v320 ∧ F 44 = v399 ∧ Hp w0 [Ent.own 2 S686 v685 x441, Ent.own 2 S400 v399 s_l2.1, Ent.blk b356 29 #[v349], Ent.own 53 S319 v318 s_l1.1, Ent.own 53 S321 v320 s_l1.2.1, Ent.blk b8 38 #[(.int .i64 a0.Boats), v318, v320], Ent.blk b6 38 #[(.int .i64 0), (.slice none 0 0), (.slice none 0 0)], Ent.blk b4 49 #[(.int .i64 a0.Boats), (.int .i64 a0.Scheme), v1], Ent.snap w0 w0.heap.size] w) ?_ (fun hN610 => ?_)
        · intro F1067 wd1068 hJ
          obtain ⟨v685, S686, f1069, f1070, f1071, f1072, f1073, f1074, f1075, f1076, f1077, f1078, hL⟩ := hJ
          refine DH.all (rs := [1, 7, 12]) (by kernel_rfl) (by simp) ?_
          intro i1079 hi1080
          simp only [List.mem_cons, List.not_mem_nil, or_false] at hi1080
          rcases hi1080 with rfl | rfl | rfl
          · refine ⟨_, rfl, ?_⟩
            refine OP.val (v := v318) rfl (x_load1 Try.underlying33 rfl f1075 (hL.cellB 5 rfl rfl)) ?_
            refine ⟨(hL.sel [2, 6, 7, 8] (by decide) rfl), ?_⟩
            exact DH.relist (listed' := #[true, true, true, true, true, true, true, false, false, true, true, true, false, false, false, false, false, false]) (by kernel_rfl) (hN600 _ _ ⟨v685, S686, f1069, f1070, f1071, f1072, f1073, f1074, rfl, f1076, f1077, f1078, hL⟩)
          · refine ⟨_, rfl, ?_⟩
            refine S_lit1 x441 rfl hL Try.underlying33 Try_T53 ((congrArg Value.cells f1076).trans (rdL_cells (hL.rdO 0 rfl))) rfl ?_
            intro wd1081 v1082 S1083 hL
            refine ⟨(hL.sel [2, 6, 7, 8] (by decide) rfl), ?_⟩
            exact DH.relist (listed' := #[true, false, true, true, true, true, true, true, false, true, true, true, false, false, false, false, false, false]) (by kernel_rfl) (hN603 _ _ ⟨v1082, S1083, f1069, f1070, f1071, f1072, f1073, f1074, f1075, rfl, f1077, f1078, hL⟩)
          · refine ⟨_, rfl, ?_⟩
            have hL := hL.sel [1, 0, 2, 3, 4, 5, 6, 7, 8] (by decide) rfl
            refine S_lit1 s_l2.1 rfl hL Try.underlying33 Try_T53 ((congrArg Value.cells f1078).trans (rdL_cells (hL.rdO 0 rfl))) rfl ?_
            intro wd1084 v1085 S1086 hL
            refine ⟨(hL.sel [2, 6, 7, 8] (by decide) rfl), ?_⟩
            exact DH.relist (listed' := #[true, false, true, true, true, true, true, false, false, true, true, true, true, false, false, false, false, false]) (by kernel_rfl) (hN605 _ _ ⟨v1085, S1086, v685, S686, f1069, f1070, f1071, f1072, f1073, f1074, f1075, f1076, f1077, rfl, hL⟩)
        refine DH.node (listed' := #[true, false, true, true, true, true, true, false, false, true, false, true, true, false, false, false, false, false]) (fuel' := 9) (fun (F : Fr) (w : World) => ∃ (v687 : Value) (S688 : Nat → Prop) (v689 : Value) (S690 : Nat → Prop), F 1 = (.pointer (some ⟨b4, 0, none⟩)) ∧ F 2 = (.pointer (some ⟨b6, 0, none⟩)) ∧ F 3 = (.pointer (some ⟨b8, 0, none⟩)) ∧ F 13 = v1 ∧ F 14 = (.int .i64 (a0.Races.length : Int)) ∧ F 15 = (.int .i64 s_l1.2.2) ∧ F 33 = (.pointer (some ⟨b8, 1, none⟩)) ∧ F 39 = v689 ∧ F 42 = (.pointer (some ⟨b8, 2, none⟩)) ∧ F 45 = v687 ∧ Hp w0 [Ent.own 53 S688 v687 ([s_l2.1] : List (List Int)), Ent.own 2 S690 v689 x441, Ent.blk b356 29 #[v349], Ent.own 53 S319 v318 s_l1.1, Ent.own 53 S321 v320 s_l1.2.1, Ent.blk b8 38 #[(.int .i64 a0.Boats), v318, v320], Ent.blk b6 38 #[(.int .i64 0), (.slice none 0 0), (.slice none 0 0)], Ent.blk b4 49 #[(.int .i64 a0.Boats), (.int .i64 a0.Scheme), v1], Ent.snap w0 w0.heap.size] w) ?_ (fun hN611 => ?_)
        · intro F1087 wd1088 hJ
          obtain ⟨v687, S688, v689, S690, f1089, f1090, f1091, f1092, f1093, f1094, f1095, f1096, f1097, f1098, hL⟩ := hJ
          refine DH.all (rs := [1, 7, 10]) (by kernel_rfl) (by simp) ?_
          intro i1099 hi1100
          simp only [List.mem_cons, List.not_mem_nil, or_false] at hi1100
          rcases hi1100 with rfl | rfl | rfl
          · refine ⟨_, rfl, ?_⟩
            refine OP.val (v := v318) rfl (x_load1 Try.underlying33 rfl f1095 (hL.cellB 5 rfl rfl)) ?_
            refine ⟨(hL.sel [2, 6, 7, 8] (by decide) rfl), ?_⟩
            exact DH.relist (listed' := #[true, true, true, true, true, true, true, false, false, true, false, true, true, false, false, false, false, false]) (by kernel_rfl) (hN601 _ _ ⟨v687, S688, v689, S690, f1089, f1090, f1091, f1092, f1093, f1094, rfl, f1096, f1097, f1098, hL⟩)
          · refine ⟨_, rfl, ?_⟩
            have hL := hL.sel [1, 0, 2, 3, 4, 5, 6, 7, 8] (by decide) rfl
            refine S_lit1 x441 rfl hL Try.underlying33 Try_T53 ((congrArg Value.cells f1096).trans (rdL_cells (hL.rdO 0 rfl))) rfl ?_
            intro wd1101 v1102 S1103 hL
            refine ⟨(hL.sel [2, 6, 7, 8] (by decide) rfl), ?_⟩
            have hL := hL.sel [1, 0, 2, 3, 4, 5, 6, 7, 8] (by decide) rfl
            exact DH.relist (listed' := #[true, false, true, true, true, true, true, true, false, true, false, true, true, false, false, false, false, false]) (by kernel_rfl) (hN604 _ _ ⟨v687, S688, v1102, S1103, f1089, f1090, f1091, f1092, f1093, f1094, f1095, rfl, f1097, f1098, hL⟩)
          · refine ⟨_, rfl, ?_⟩
            refine OP.val (v := v320) rfl (x_load1 Try.underlying33 rfl f1097 (hL.cellB 5 rfl rfl)) ?_
            refine ⟨(hL.sel [2, 6, 7, 8] (by decide) rfl), ?_⟩
            exact DH.relist (listed' := #[true, false, true, true, true, true, true, false, false, true, true, true, true, false, false, false, false, false]) (by kernel_rfl) (hN605 _ _ ⟨v687, S688, v689, S690, f1089, f1090, f1091, f1092, f1093, f1094, f1095, f1096, rfl, f1098, hL⟩)
        refine DH.node (listed' := #[true, false, true, true, true, true, false, false, false, true, true, true, true, false, false, false, false, false]) (fuel' := 9) (fun (F : Fr) (w : World) => ∃ (v691 : Value) (S692 : Nat → Prop), F 1 = (.pointer (some ⟨b4, 0, none⟩)) ∧ F 2 = (.pointer (some ⟨b6, 0, none⟩)) ∧ F 3 = (.pointer (some ⟨b8, 0, none⟩)) ∧ F 13 = v1 ∧ F 14 = (.int .i64 (a0.Races.length : Int)) ∧ F 15 = (.int .i64 s_l1.2.2) ∧ F 33 = (.pointer (some ⟨b8, 1, none⟩)) ∧ F 36 = v349 ∧ F 38 = (.int .i64 a0.Scheme) ∧ F 43 = v320 ∧ F 45 = v691 ∧ Hp w0 [Ent.own 53 S692 v691 ([s_l2.1] : List (List Int)), Ent.blk b356 29 #[v349], Ent.own 53 S319 v318 s_l1.1, Ent.own 53 S321 v320 s_l1.2.1, Ent.blk b8 38 #[(.int .i64 a0.Boats), v318, v320], Ent.blk b6 38 #[(.int .i64 0), (.slice none 0 0), (.slice none 0 0)], Ent.blk b4 49 #[(.int .i64 a0.Boats), (.int .i64 a0.Scheme), v1], Ent.snap w0 w0.heap.size] w) ?_ (fun hN612 => ?_)
        · intro F1104 wd1105 hJ
          obtain ⟨v691, S692, f1106, f1107, f1108, f1109, f1110, f1111, f1112, f1113, f1114, f1115, f1116, hL⟩ := hJ
          refine DH.all (rs := [1, 6]) (by kernel_rfl) (by simp) ?_
          intro i1117 hi1118
          simp only [List.mem_cons, List.not_mem_nil, or_false] at hi1118
          rcases hi1118 with rfl | rfl
          · refine ⟨_, rfl, ?_⟩
            refine OP.val (v := v318) rfl (x_load1 Try.underlying33 rfl f1112 (hL.cellB 4 rfl rfl)) ?_
            refine ⟨(hL.sel [1, 5, 6, 7] (by decide) rfl), ?_⟩
            exact DH.relist (listed' := #[true, true, true, true, true, true, false, false, false, true, true, true, true, false, false, false, false, false]) (by kernel_rfl) (hN602 _ _ ⟨v691, S692, f1106, f1107, f1108, f1109, f1110, f1111, rfl, f1113, f1114, f1115, f1116, hL⟩)
          · refine ⟨_, rfl, ?_⟩
            refine OP.call rfl (x_call (vs := [v349, (.int .i64 a0.Scheme)]) Try_C73 ⟨f1113, f1114, trivial⟩) (M.impl_racePoints_ok _ x344.Finishes (hL.rdS 7 rfl hr353) a0.Scheme hx442) ?_
            rintro e1121 wd1122 ⟨v1120, S1119, rfl, hF1123⟩
            refine ⟨_, rfl, ?_⟩
            have hL := hL.pushAll hF1123
            simp only [List.cons_append, List.nil_append, List.set_cons_zero, List.set_cons_succ] at hL
            refine ⟨(hL.sel [2, 6, 7, 8] (by decide) rfl), ?_⟩
            have hL := hL.sel [1, 0, 2, 3, 4, 5, 6, 7, 8] (by decide) rfl
            exact DH.relist (listed' := #[true, false, true, true, true, true, true, false, false, true, true, true, true, false, false, false, false, false]) (by kernel_rfl) (hN605 _ _ ⟨v691, S692, v1120, S1119, f1106, f1107, f1108, f1109, f1110, f1111, f1112, rfl, f1115, f1116, hL⟩)
        refine DH.node (listed' := #[true, true, true, true, true, true, false, false, false, true, false, true, false, false, false, false, false, false]) (fuel' := 10) (fun (F : Fr) (w : World) => F 1 = (.pointer (some ⟨b4, 0, none⟩)) ∧ F 2 = (.pointer (some ⟨b6, 0, none⟩)) ∧ F 3 = (.pointer (some ⟨b8, 0, none⟩)) ∧ F 13 = v1 ∧ F 14 = (.int .i64 (a0.Races.length : Int)) ∧ F 15 = (.int .i64 s_l1.2.2) ∧ F 34 = v318 ∧ F 36 = v349 ∧ F 38 = (.int .i64 a0.Scheme) ∧ F 42 = (.pointer (some ⟨b8, 2, none⟩)) ∧ F 44 = v399 ∧ Hp w0 [Ent.own 2 S400 v399 s_l2.1, Ent.blk b356 29 #[v349], Ent.own 53 S319 v318 s_l1.1, Ent.own 53 S321 v320 s_l1.2.1, Ent.blk b8 38 #[(.int .i64 a0.Boats), v318, v320], Ent.blk b6 38 #[(.int .i64 0), (.slice none 0 0), (.slice none 0 0)], Ent.blk b4 49 #[(.int .i64 a0.Boats), (.int .i64 a0.Scheme), v1], Ent.snap w0 w0.heap.size] w) ?_ (fun hN613 => ?_)
        · intro F1124 wd1125 hJ
          obtain ⟨f1126, f1127, f1128, f1129, f1130, f1131, f1132, f1133, f1134, f1135, f1136, hL⟩ := hJ
          refine DH.all (rs := [6, 10, 12]) (by kernel_rfl) (by simp) ?_
          intro i1137 hi1138
          simp only [List.mem_cons, List.not_mem_nil, or_false] at hi1138
          rcases hi1138 with rfl | rfl | rfl
          · refine ⟨_, rfl, ?_⟩
            refine OP.call rfl (x_call (vs := [v349, (.int .i64 a0.Scheme)]) Try_C73 ⟨f1133, f1134, trivial⟩) (M.impl_racePoints_ok _ x344.Finishes (hL.rdS 7 rfl hr353) a0.Scheme hx442) ?_
            rintro e1141 wd1142 ⟨v1140, S1139, rfl, hF1143⟩
            refine ⟨_, rfl, ?_⟩
            have hL := hL.pushAll hF1143
            simp only [List.cons_append, List.nil_append, List.set_cons_zero, List.set_cons_succ] at hL
            refine ⟨(hL.sel [2, 6, 7, 8] (by decide) rfl), ?_⟩
            exact DH.relist (listed' := #[true, true, true, true, true, true, true, false, false, true, false, true, false, false, false, false, false, false]) (by kernel_rfl) (hN606 _ _ ⟨v1140, S1139, f1126, f1127, f1128, f1129, f1130, f1131, f1132, rfl, f1135, f1136, hL⟩)
          · refine ⟨_, rfl, ?_⟩
            refine OP.val (v := v320) rfl (x_load1 Try.underlying33 rfl f1135 (hL.cellB 4 rfl rfl)) ?_
            refine ⟨(hL.sel [1, 5, 6, 7] (by decide) rfl), ?_⟩
            exact DH.relist (listed' := #[true, true, true, true, true, true, false, false, false, true, true, true, false, false, false, false, false, false]) (by kernel_rfl) (hN607 _ _ ⟨f1126, f1127, f1128, f1129, f1130, f1131, f1132, f1133, f1134, rfl, f1136, hL⟩)
          · refine ⟨_, rfl, ?_⟩
            refine S_lit1 s_l2.1 rfl hL Try.underlying33 Try_T53 ((congrArg Value.cells f1136).trans (rdL_cells (hL.rdO 0 rfl))) rfl ?_
            intro wd1144 v1145 S1146 hL
            refine ⟨(hL.sel [1, 5, 6, 7] (by decide) rfl), ?_⟩
            exact DH.relist (listed' := #[true, true, true, true, true, true, false, false, false, true, false, true, true, false, false, false, false, false]) (by kernel_rfl) (hN608 _ _ ⟨v1145, S1146, f1126, f1127, f1128, f1129, f1130, f1131, f1132, f1133, f1134, f1135, rfl, hL⟩)
        refine DH.node (listed' := #[true, false, true, true, true, true, true, false, false, true, false, true, false, false, false, false, false, false]) (fuel' := 10) (fun (F : Fr) (w : World) => ∃ (v693 : Value) (S694 : Nat → Prop), F 1 = (.pointer (some ⟨b4, 0, none⟩)) ∧ F 2 = (.pointer (some ⟨b6, 0, none⟩)) ∧ F 3 = (.pointer (some ⟨b8, 0, none⟩)) ∧ F 13 = v1 ∧ F 14 = (.int .i64 (a0.Races.length : Int)) ∧ F 15 = (.int .i64 s_l1.2.2) ∧ F 33 = (.pointer (some ⟨b8, 1, none⟩)) ∧ F 39 = v693 ∧ F 42 = (.pointer (some ⟨b8, 2, none⟩)) ∧ F 44 = v399 ∧ Hp w0 [Ent.own 2 S694 v693 x441, Ent.own 2 S400 v399 s_l2.1, Ent.blk b356 29 #[v349], Ent.own 53 S319 v318 s_l1.1, Ent.own 53 S321 v320 s_l1.2.1, Ent.blk b8 38 #[(.int .i64 a0.Boats), v318, v320], Ent.blk b6 38 #[(.int .i64 0), (.slice none 0 0), (.slice none 0 0)], Ent.blk b4 49 #[(.int .i64 a0.Boats), (.int .i64 a0.Scheme), v1], Ent.snap w0 w0.heap.size] w) ?_ (fun hN614 => ?_)
        · intro F1147 wd1148 hJ
          obtain ⟨v693, S694, f1149, f1150, f1151, f1152, f1153, f1154, f1155, f1156, f1157, f1158, hL⟩ := hJ
          refine DH.all (rs := [1, 7, 10, 12]) (by kernel_rfl) (by simp) ?_
          intro i1159 hi1160
          simp only [List.mem_cons, List.not_mem_nil, or_false] at hi1160
          rcases hi1160 with rfl | rfl | rfl | rfl
          · refine ⟨_, rfl, ?_⟩
            refine OP.val (v := v318) rfl (x_load1 Try.underlying33 rfl f1155 (hL.cellB 5 rfl rfl)) ?_
            refine ⟨(hL.sel [2, 6, 7, 8] (by decide) rfl), ?_⟩
            exact DH.relist (listed' := #[true, true, true, true, true, true, true, false, false, true, false, true, false, false, false, false, false, false]) (by kernel_rfl) (hN606 _ _ ⟨v693, S694, f1149, f1150, f1151, f1152, f1153, f1154, rfl, f1156, f1157, f1158, hL⟩)
          · refine ⟨_, rfl, ?_⟩
            refine S_lit1 x441 rfl hL Try.underlying33 Try_T53 ((congrArg Value.cells f1156).trans (rdL_cells (hL.rdO 0 rfl))) rfl ?_
            intro wd1161 v1162 S1163 hL
            refine ⟨(hL.sel [2, 6, 7, 8] (by decide) rfl), ?_⟩
            exact DH.relist (listed' := #[true, false, true, true, true, true, true, true, false, true, false, true, false, false, false, false, false, false]) (by kernel_rfl) (hN609 _ _ ⟨v1162, S1163, f1149, f1150, f1151, f1152, f1153, f1154, f1155, rfl, f1157, f1158, hL⟩)
          · refine ⟨_, rfl, ?_⟩
            refine OP.val (v := v320) rfl (x_load1 Try.underlying33 rfl f1157 (hL.cellB 5 rfl rfl)) ?_
            refine ⟨(hL.sel [2, 6, 7, 8] (by decide) rfl), ?_⟩
            exact DH.relist (listed' := #[true, false, true, true, true, true, true, false, false, true, true, true, false, false, false, false, false, false]) (by kernel_rfl) (hN610 _ _ ⟨v693, S694, f1149, f1150, f1151, f1152, f1153, f1154, f1155, f1156, rfl, f1158, hL⟩)
          · refine ⟨_, rfl, ?_⟩
            have hL := hL.sel [1, 0, 2, 3, 4, 5, 6, 7, 8] (by decide) rfl
            refine S_lit1 s_l2.1 rfl hL Try.underlying33 Try_T53 ((congrArg Value.cells f1158).trans (rdL_cells (hL.rdO 0 rfl))) rfl ?_
            intro wd1164 v1165 S1166 hL
            refine ⟨(hL.sel [2, 6, 7, 8] (by decide) rfl), ?_⟩
            exact DH.relist (listed' := #[true, false, true, true, true, true, true, false, false, true, false, true, true, false, false, false, false, false]) (by kernel_rfl) (hN611 _ _ ⟨v1165, S1166, v693, S694, f1149, f1150, f1151, f1152, f1153, f1154, f1155, f1156, f1157, rfl, hL⟩)
        refine DH.node (listed' := #[true, false, true, true, true, true, false, false, false, true, true, true, false, false, false, false, false, false]) (fuel' := 10) (fun (F : Fr) (w : World) => F 1 = (.pointer (some ⟨b4, 0, none⟩)) ∧ F 2 = (.pointer (some ⟨b6, 0, none⟩)) ∧ F 3 = (.pointer (some ⟨b8, 0, none⟩)) ∧ F 13 = v1 ∧ F 14 = (.int .i64 (a0.Races.length : Int)) ∧ F 15 = (.int .i64 s_l1.2.2) ∧ F 33 = (.pointer (some ⟨b8, 1, none⟩)) ∧ F 36 = v349 ∧ F 38 = (.int .i64 a0.Scheme) ∧ F 43 = v320 ∧ F 44 = v399 ∧ Hp w0 [Ent.own 2 S400 v399 s_l2.1, Ent.blk b356 29 #[v349], Ent.own 53 S319 v318 s_l1.1, Ent.own 53 S321 v320 s_l1.2.1, Ent.blk b8 38 #[(.int .i64 a0.Boats), v318, v320], Ent.blk b6 38 #[(.int .i64 0), (.slice none 0 0), (.slice none 0 0)], Ent.blk b4 49 #[(.int .i64 a0.Boats), (.int .i64 a0.Scheme), v1], Ent.snap w0 w0.heap.size] w) ?_ (fun hN615 => ?_)
        · intro F1167 wd1168 hJ
          obtain ⟨f1169, f1170, f1171, f1172, f1173, f1174, f1175, f1176, f1177, f1178, f1179, hL⟩ := hJ
          refine DH.all (rs := [1, 6, 12]) (by kernel_rfl) (by simp) ?_
          intro i1180 hi1181
          simp only [List.mem_cons, List.not_mem_nil, or_false] at hi1181
          rcases hi1181 with rfl | rfl | rfl
          · refine ⟨_, rfl, ?_⟩
            refine OP.val (v := v318) rfl (x_load1 Try.underlying33 rfl f1175 (hL.cellB 4 rfl rfl)) ?_
            refine ⟨(hL.sel [1, 5, 6, 7] (by decide) rfl), ?_⟩
            exact DH.relist (listed' := #[true, true, true, true, true, true, false, false, false, true, true, true, false, false, false, false, false, false]) (by kernel_rfl) (hN607 _ _ ⟨f1169, f1170, f1171, f1172, f1173, f1174, rfl, f1176, f1177, f1178, f1179, hL⟩)
          · refine ⟨_, rfl, ?_⟩
            refine OP.call rfl (x_call (vs := [v349, (.int .i64 a0.Scheme)]) Try_C73 ⟨f1176, f1177, trivial⟩) (M.impl_racePoints_ok _ x344.Finishes (hL.rdS 7 rfl hr353) a0.Scheme hx442) ?_
            rintro e1184 wd1185 ⟨v1183, S1182, rfl, hF1186⟩
            refine ⟨_, rfl, ?_⟩
            have hL := hL.pushAll hF1186
            simp only [List.cons_append, List.nil_append, List.set_cons_zero, List.set_cons_succ] at hL
            refine ⟨(hL.sel [2, 6, 7, 8] (by decide) rfl), ?_⟩
            exact DH.relist (listed' := #[true, false, true, true, true, true, true, false, false, true, true, true, false, false, false, false, false, false]) (by kernel_rfl) (hN610 _ _ ⟨v1183, S1182, f1169, f1170, f1171, f1172, f1173, f1174, f1175, rfl, f1178, f1179, hL⟩)
          · refine ⟨_, rfl, ?_⟩
            refine S_lit1 s_l2.1 rfl hL Try.underlying33 Try_T53 ((congrArg Value.cells f1179).trans (rdL_cells (hL.rdO 0 rfl))) rfl ?_
            intro wd1187 v1188 S1189 hL
            refine ⟨(hL.sel [1, 5, 6, 7] (by decide) rfl), ?_⟩
            exact DH.relist (listed' := #[true, false, true, true, true, true, false, false, false, true, true, true, true, false, false, false, false, false]) (by kernel_rfl) (hN612 _ _ ⟨v1188, S1189, f1169, f1170, f1171, f1172, f1173, f1174, f1175, f1176, f1177, f1178, rfl, hL⟩)
        refine DH.node (listed' := #[true, false, true, true, true, true, false, false, false, true, false, true, true, false, false, false, false, false]) (fuel' := 10) (fun (F : Fr) (w : World) => ∃ (v695 : Value) (S696 : Nat → Prop), F 1 = (.pointer (some ⟨b4, 0, none⟩)) ∧ F 2 = (.pointer (some ⟨b6, 0, none⟩)) ∧ F 3 = (.pointer (some ⟨b8, 0, none⟩)) ∧ F 13 = v1 ∧ F 14 = (.int .i64 (a0.Races.length : Int)) ∧ F 15 = (.int .i64 s_l1.2.2) ∧ F 33 = (.pointer (some ⟨b8, 1, none⟩)) ∧ F 36 = v349 ∧ F 38 = (.int .i64 a0.Scheme) ∧ F 42 = (.pointer (some ⟨b8, 2, none⟩)) ∧ F 45 = v695 ∧ Hp w0 [Ent.own 53 S696 v695 ([s_l2.1] : List (List Int)), Ent.blk b356 29 #[v349], Ent.own 53 S319 v318 s_l1.1, Ent.own 53 S321 v320 s_l1.2.1, Ent.blk b8 38 #[(.int .i64 a0.Boats), v318, v320], Ent.blk b6 38 #[(.int .i64 0), (.slice none 0 0), (.slice none 0 0)], Ent.blk b4 49 #[(.int .i64 a0.Boats), (.int .i64 a0.Scheme), v1], Ent.snap w0 w0.heap.size] w) ?_ (fun hN616 => ?_)
        · intro F1190 wd1191 hJ
          obtain ⟨v695, S696, f1192, f1193, f1194, f1195, f1196, f1197, f1198, f1199, f1200, f1201, f1202, hL⟩ := hJ
          refine DH.all (rs := [1, 6, 10]) (by kernel_rfl) (by simp) ?_
          intro i1203 hi1204
          simp only [List.mem_cons, List.not_mem_nil, or_false] at hi1204
          rcases hi1204 with rfl | rfl | rfl
          · refine ⟨_, rfl, ?_⟩
            refine OP.val (v := v318) rfl (x_load1 Try.underlying33 rfl f1198 (hL.cellB 4 rfl rfl)) ?_
            refine ⟨(hL.sel [1, 5, 6, 7] (by decide) rfl), ?_⟩
            exact DH.relist (listed' := #[true, true, true, true, true, true, false, false, false, true, false, true, true, false, false, false, false, false]) (by kernel_rfl) (hN608 _ _ ⟨v695, S696, f1192, f1193, f1194, f1195, f1196, f1197, rfl, f1199, f1200, f1201, f1202, hL⟩)
          · refine ⟨_, rfl, ?_⟩
            refine OP.call rfl (x_call (vs := [v349, (.int .i64 a0.Scheme)]) Try_C73 ⟨f1199, f1200, trivial⟩) (M.impl_racePoints_ok _ x344.Finishes (hL.rdS 7 rfl hr353) a0.Scheme hx442) ?_
            rintro e1207 wd1208 ⟨v1206, S1205, rfl, hF1209⟩
            refine ⟨_, rfl, ?_⟩
            have hL := hL.pushAll hF1209
            simp only [List.cons_append, List.nil_append, List.set_cons_zero, List.set_cons_succ] at hL
            refine ⟨(hL.sel [2, 6, 7, 8] (by decide) rfl), ?_⟩
            have hL := hL.sel [1, 0, 2, 3, 4, 5, 6, 7, 8] (by decide) rfl
            exact DH.relist (listed' := #[true, false, true, true, true, true, true, false, false, true, false, true, true, false, false, false, false, false]) (by kernel_rfl) (hN611 _ _ ⟨v695, S696, v1206, S1205, f1192, f1193, f1194, f1195, f1196, f1197, f1198, rfl, f1201, f1202, hL⟩)
          · refine ⟨_, rfl, ?_⟩
            refine OP.val (v := v320) rfl (x_load1 Try.underlying33 rfl f1201 (hL.cellB 4 rfl rfl)) ?_
            refine ⟨(hL.sel [1, 5, 6, 7] (by decide) rfl), ?_⟩
            exact DH.relist (listed' := #[true, false, true, true, true, true, false, false, false, true, true, true, true, false, false, false, false, false]) (by kernel_rfl) (hN612 _ _ ⟨v695, S696, f1192, f1193, f1194, f1195, f1196, f1197, f1198, f1199, f1200, rfl, f1202, hL⟩)
        refine DH.all (rs := [1, 6, 10, 12]) (by kernel_rfl) (by simp) ?_
        intro i1210 hi1211
        simp only [List.mem_cons, List.not_mem_nil, or_false] at hi1211
        rcases hi1211 with rfl | rfl | rfl | rfl
        · refine ⟨_, rfl, ?_⟩
          refine OP.val (v := v318) rfl (x_load1 Try.underlying33 rfl rfl (hL.cellB 4 rfl rfl)) ?_
          refine ⟨(hL.sel [1, 5, 6, 7] (by decide) rfl), ?_⟩
          exact DH.relist (listed' := #[true, true, true, true, true, true, false, false, false, true, false, true, false, false, false, false, false, false]) (by kernel_rfl) (hN613 _ _ ⟨f407, f408, f409, f412, f413, f414, rfl, rfl, rfl, rfl, rfl, hL⟩)
        · refine ⟨_, rfl, ?_⟩
          refine OP.call rfl (x_call (vs := [v349, (.int .i64 a0.Scheme)]) Try_C73 ⟨rfl, rfl, trivial⟩) (M.impl_racePoints_ok _ x344.Finishes (hL.rdS 7 rfl hr353) a0.Scheme hx442) ?_
          rintro e1214 wd1215 ⟨v1213, S1212, rfl, hF1216⟩
          refine ⟨_, rfl, ?_⟩
          have hL := hL.pushAll hF1216
          simp only [List.cons_append, List.nil_append, List.set_cons_zero, List.set_cons_succ] at hL
          refine ⟨(hL.sel [2, 6, 7, 8] (by decide) rfl), ?_⟩
          exact DH.relist (listed' := #[true, false, true, true, true, true, true, false, false, true, false, true, false, false, false, false, false, false]) (by kernel_rfl) (hN614 _ _ ⟨v1213, S1212, f407, f408, f409, f412, f413, f414, rfl, rfl, rfl, rfl, hL⟩)
        · refine ⟨_, rfl, ?_⟩
          refine OP.val (v := v320) rfl (x_load1 Try.underlying33 rfl rfl (hL.cellB 4 rfl rfl)) ?_
          refine ⟨(hL.sel [1, 5, 6, 7] (by decide) rfl), ?_⟩
          exact DH.relist (listed' := #[true, false, true, true, true, true, false, false, false, true, true, true, false, false, false, false, false, false]) (by kernel_rfl) (hN615 _ _ ⟨f407, f408, f409, f412, f413, f414, rfl, rfl, rfl, rfl, rfl, hL⟩)
        · refine ⟨_, rfl, ?_⟩
          refine S_lit1 s_l2.1 rfl hL Try.underlying33 Try_T53 ((congrArg Value.cells (show _ = v399 from rfl)).trans (rdL_cells (hL.rdO 0 rfl))) rfl ?_
          intro wd1217 v1218 S1219 hL
          refine ⟨(hL.sel [1, 5, 6, 7] (by decide) rfl), ?_⟩
          exact DH.relist (listed' := #[true, false, true, true, true, true, false, false, false, true, false, true, true, false, false, false, false, false]) (by kernel_rfl) (hN616 _ _ ⟨v1218, S1219, f407, f408, f409, f412, f413, f414, rfl, rfl, rfl, rfl, rfl, hL⟩)
      · intro s_l2 F1220 wd1221 t401 hJ hm hr402
        unfold M.impl_tableOf_l2 at hm
        obtain ⟨v399, S400, f1222, f1223, f1224, f1225, f1226, f1227, f1228, f1229, f1230, f1231, f1232, hL⟩ := hJ
        refine CW.seq ?_
        refine CW.regionL ?_
        refine OW.cons (OP.val (v := (.bool (decide (s_l2.2 < (x344.Finishes.length : Int))))) rfl (x_lss f1232 f1231) ?_)
        refine OW.nil ?_
        refine CW.seq ?_
        refine CW.condM (t := decide (s_l2.2 < (x344.Finishes.length : Int))) rfl hm (fun hb1233 hm => ?_) (fun hb1233 hm => ?_)
        · refine CW.skip ?_
          refine CW.seq ?_
          refine CW.block ?_
          refine CW.seq ?_
          refine CW.regionL ?_
          obtain ⟨x1234, ha1235, hm⟩ := bndE hm
          obtain ⟨hz1236, ha1240⟩ := idxE ha1235
          obtain ⟨b1237, q1238, hix1239⟩ := rdL_ix (hL.rdS 7 rfl hr353) hz1236 ha1240
          refine OW.cons (OP.val (v := (.pointer (some ⟨b1237, q1238, none⟩))) rfl (x_ix Try.underlying27 Try_T88 f1230 f1232 hix1239) ?_)
          refine OW.cons (OP.val (v := (.agg #[(.int .i64 x1234.Boat), (.int .i64 x1234.Code), (.int .i64 x1234.Time)])) rfl (x_loadN (cs := [(.int .i64 x1234.Boat), (.int .i64 x1234.Code), (.int .i64 x1234.Time)]) Try.underlying88 Try_T88 rfl rfl (rdF_cells (hL.rdS 7 rfl hr353) hix1239 ha1240)) ?_)
          refine OW.cons (S_alloc (cs := #[(.int .i64 0), (.int .i64 0), (.int .i64 0)]) hL Try_T88 rfl rfl ?_)
          intro wd1241 b1242 hL
          refine OW.cons (S_storeN (l := [(.int .i64 x1234.Boat), (.int .i64 x1234.Code), (.int .i64 x1234.Time)]) (cs' := #[(.int .i64 x1234.Boat), (.int .i64 x1234.Code), (.int .i64 x1234.Time)]) hL 0 rfl Try_T88 rfl rfl (List.forall_mem_cons.2 ⟨rfl, (List.forall_mem_cons.2 ⟨rfl, (List.forall_mem_cons.2 ⟨rfl, (fun _ h => by cases h)⟩)⟩)⟩) rfl (Nat.le_of_ble_eq_true rfl) rfl ?_)
          intro wd1243 hL
          refine OW.nil ?_
          refine CW.regionL ?_
          refine OW.cons (OP.val (v := v399) rfl (x_mv f1226) ?_)
          refine OW.cons (OP.val (v := (.pointer (some ⟨b1242, 1, none⟩))) rfl (x_fieldAddr (fsz := 1) 0 1 1 Try.underlying88 rfl Try_T2 rfl rfl rfl) ?_)
          refine OW.cons (OP.val (v := (.int .i64 x1234.Code)) rfl (x_load1 Try.underlying2 rfl rfl (hL.cellB 0 rfl rfl)) ?_)
          refine OW.cons (S_lit ([x1234.Code] : List Int) hL Try.underlying53 Try_T2 rfl (by decide) (by first | (simp [Instr.fill, madeCells, Value.cells, ev, upd, Flat.enc, Flat.sz]; done) | rfl | kernel_rfl) rfl rfl ?_)
          intro wd1244 v1245 S1246 hL
          obtain ⟨hc1250, hm⟩ := chkE hm
          refine OW.cons (S_append (ys := ([x1234.Code] : List Int)) hL 2 rfl Try.underlying53 Try_T2 rfl rfl rfl (hL.rdO 0 rfl) hc1250 (by decide) rfl ?_)
          intro wd1247 v1248 S1249 hL
          refine OW.cons (OP.val (v := v1248) rfl (x_assign) ?_)
          refine OW.nil ?_
          refine CW.regionL ?_
          refine OW.cons (OP.val (v := (.int .i64 (w64 (s_l2.2 + 1)))) rfl (x_add f1232 rfl) ?_)
          refine OW.cons (OP.val (v := (.int .i64 (w64 (s_l2.2 + 1)))) rfl (x_move) ?_)
          refine OW.nil ?_
          have hL := hL.sel [2, 3, 4, 5, 6, 7, 8, 9] (by decide) rfl
          obtain rfl := Option.some.inj hm
          exact ⟨_, rfl, ⟨v1248, S1249, f1222, f1223, f1224, f1225, rfl, f1227, f1228, f1229, f1230, f1231, rfl, hL⟩⟩
        · refine CW.exit ?_
          refine XJ.hit ?_
          obtain rfl := Option.some.inj hm
          exact ⟨_, rfl, ⟨v399, S400, f1222, f1223, f1224, f1225, f1226, f1227, f1228, f1229, f1230, f1231, f1232, hL⟩⟩
    · refine CW.exit ?_
      refine XJ.hit ?_
      obtain rfl := Option.some.inj hm
      exact ⟨_, rfl, ⟨v318, S319, v320, S321, f337, f338, f339, f340, f341, f342, hL⟩⟩

theorem M.impl_TableOf_ok (w0 : World) (a0 : Series) {v1 : Value} (h2 : rdL (· < w0.heap.size) w0 v1 a0.Races) {r : Table × Int} (hm : M.impl_TableOf a0 = some r) :
    Calls Try.prog 40 #[(.agg #[(.int .i64 a0.Boats), (.int .i64 a0.Scheme), v1])] w0 fun e w' => ∃ (rv0 : Value) (rS0 : Nat → Prop), ∃ (rv1 : Value) (rS1 : Nat → Prop), e = .returned (.tuple #[(.agg #[(.int .i64 r.1.Boats), rv0, rv1]), (.int .i64 r.2)]) ∧ Fresh w0 w' [Ent.own 53 rS0 rv0 r.1.Points, Ent.own 53 rS1 rv1 r.1.Codes] := by
  unfold M.impl_TableOf at hm
  refine calls_CW (args := [(.agg #[(.int .i64 a0.Boats), (.int .i64 a0.Scheme), v1])]) Try.func40 rfl rfl rfl ?_
  have hL := Hp.start w0
  refine CW.seq ?_
  refine CW.regionL ?_
  refine OW.cons (S_box (cs := #[(.int .i64 a0.Boats), (.int .i64 a0.Scheme), v1]) hL rfl rfl rfl ?_)
  intro wd3 b4 hL
  refine OW.cons (S_alloc (cs := #[(.int .i64 0), (.slice none 0 0), (.slice none 0 0)]) hL Try_T38 rfl rfl ?_)
  intro wd5 b6 hL
  refine OW.cons (OP.val (v := (.int .i64 0)) rfl (x_assign) ?_)
  refine OW.nil ?_
  refine CW.seq ?_
  refine CW.seq ?_
  refine CW.regionL ?_
  refine OW.cons (OP.val (v := (.agg #[(.int .i64 a0.Boats), (.int .i64 a0.Scheme), v1])) rfl (x_loadN (cs := [(.int .i64 a0.Boats), (.int .i64 a0.Scheme), v1]) Try.underlying49 Try_T49 rfl rfl (hL.cellsB 1 rfl (o := 0) (l := [(.int .i64 a0.Boats), (.int .i64 a0.Scheme), v1]) (by intro j u hj; exact (by simpa using hj)))) ?_)
  obtain ⟨x7, hx8, hm⟩ := bndE hm
  refine OW.cons (OP.call rfl (x_call (vs := [(.agg #[(.int .i64 a0.Boats), (.int .i64 a0.Scheme), v1])]) Try_C26 ⟨rfl, trivial⟩) (M.impl_IsSeries_ok _ a0 (hL.rdS 2 rfl h2) hx8) ?_)
  rintro e9 wd10 ⟨rfl, hF11⟩
  refine ⟨_, rfl, ?_⟩
  have hL := hL.pushAll hF11
  simp only [List.cons_append, List.nil_append, List.set_cons_zero, List.set_cons_succ] at hL
  refine OW.cons (OP.val (v := (.bool (!x7))) rfl (x_not rfl) ?_)
  refine OW.nil ?_
  refine CW.condM (t := !x7) rfl hm (fun hb12 hm => ?_) (fun hb12 hm => ?_)
  · refine CW.seq ?_
    refine CW.regionL ?_
    refine OW.cons (OP.val (v := (.agg #[(.int .i64 0), (.slice none 0 0), (.slice none 0 0)])) rfl (x_build Try_B38 (ps := []) trivial (by simp [Instr.fill, cells_int, cells_bool, cells_string, cells_agg, cells_slice, cells_pointer])) ?_)
    refine OW.cons (S_storeN (l := [(.int .i64 0), (.slice none 0 0), (.slice none 0 0)]) (cs' := #[(.int .i64 0), (.slice none 0 0), (.slice none 0 0)]) hL 0 rfl Try_T38 rfl rfl (List.forall_mem_cons.2 ⟨rfl, (List.forall_mem_cons.2 ⟨rfl, (List.forall_mem_cons.2 ⟨rfl, (fun _ h => by cases h)⟩)⟩)⟩) rfl (Nat.le_of_ble_eq_true rfl) rfl ?_)
    intro wd13 hL
    refine OW.cons (OP.val (v := (.int .i64 1)) rfl (x_assign) ?_)
    refine OW.nil ?_
    refine CW.ret ?_
    have hL := hL.pushNil (List Int) 53
    have hL := hL.pushNil (List Int) 53
    obtain rfl := Option.some.inj hm
    exact RRct rfl rfl (run_loadBlk Try.underlying38 Try_T38 (hL.get 2 rfl) rfl) rfl ⟨(.slice none 0 0), None_, (.slice none 0 0), None_, rfl, hL.fresh 4 rfl [1, 0] (by decide) (by decide) rfl⟩
  · refine CW.skip ?_
    refine CW.seq ?_
    refine CW.regionL ?_
    refine OW.cons (OP.val (v := (.agg #[(.int .i64 a0.Boats), (.int .i64 a0.Scheme), v1])) rfl (x_loadN (cs := [(.int .i64 a0.Boats), (.int .i64 a0.Scheme), v1]) Try.underlying49 Try_T49 rfl rfl (hL.cellsB 1 rfl (o := 0) (l := [(.int .i64 a0.Boats), (.int .i64 a0.Scheme), v1]) (by intro j u hj; exact (by simpa using hj)))) ?_)
    obtain ⟨x14, hx15, hm⟩ := bndE hm
    refine OW.cons (OP.call rfl (x_call (vs := [(.agg #[(.int .i64 a0.Boats), (.int .i64 a0.Scheme), v1])]) Try_C76 ⟨rfl, trivial⟩) (M.impl_tableOf_ok _ a0 (hL.rdS 2 rfl h2) hx15) ?_)
    rintro e20 wd21 ⟨v17, S16, v19, S18, rfl, hF22⟩
    refine ⟨_, rfl, ?_⟩
    have hL := hL.pushAll hF22
    simp only [List.cons_append, List.nil_append, List.set_cons_zero, List.set_cons_succ] at hL
    refine OW.cons (S_storeN (l := [(.int .i64 x14.Boats), v17, v19]) (cs' := #[(.int .i64 x14.Boats), v17, v19]) hL 2 rfl Try_T38 rfl rfl (List.forall_mem_cons.2 ⟨rfl, (List.forall_mem_cons.2 ⟨rdL_one (hL.rdO 0 rfl), (List.forall_mem_cons.2 ⟨rdL_one (hL.rdO 1 rfl), (fun _ h => by cases h)⟩)⟩)⟩) rfl (Nat.le_of_ble_eq_true rfl) rfl ?_)
    intro wd23 hL
    refine OW.cons (OP.val (v := (.int .i64 0)) rfl (x_assign) ?_)
    refine OW.nil ?_
    refine CW.ret ?_
    obtain rfl := Option.some.inj hm
    exact RRct rfl rfl (run_loadBlk Try.underlying38 Try_T38 (hL.get 2 rfl) rfl) rfl ⟨v17, S16, v19, S18, rfl, hL.fresh 4 rfl [0, 1] (by decide) (by decide) rfl⟩

theorem M.spec_TableOf_ok (w0 : World) (a0 : Series) {v1 : Value} (h2 : rdL (· < w0.heap.size) w0 v1 a0.Races) {r : Table × Int} (hm : M.spec_TableOf a0 = some r) :
    Calls Try.prog 41 #[(.agg #[(.int .i64 a0.Boats), (.int .i64 a0.Scheme), v1])] w0 fun e w' => ∃ (rv0 : Value) (rS0 : Nat → Prop), ∃ (rv1 : Value) (rS1 : Nat → Prop), e = .returned (.tuple #[(.agg #[(.int .i64 r.1.Boats), rv0, rv1]), (.int .i64 r.2)]) ∧ Fresh w0 w' [Ent.own 53 rS0 rv0 r.1.Points, Ent.own 53 rS1 rv1 r.1.Codes] := by
  unfold M.spec_TableOf at hm
  refine calls_CW (args := [(.agg #[(.int .i64 a0.Boats), (.int .i64 a0.Scheme), v1])]) Try.func41 rfl rfl rfl ?_
  have hL := Hp.start w0
  refine CW.seq ?_
  refine CW.regionL ?_
  refine OW.cons (S_box (cs := #[(.int .i64 a0.Boats), (.int .i64 a0.Scheme), v1]) hL rfl rfl rfl ?_)
  intro wd3 b4 hL
  refine OW.cons (S_alloc (cs := #[(.int .i64 0), (.slice none 0 0), (.slice none 0 0)]) hL Try_T38 rfl rfl ?_)
  intro wd5 b6 hL
  refine OW.cons (OP.val (v := (.int .i64 0)) rfl (x_assign) ?_)
  refine OW.nil ?_
  refine CW.seq ?_
  refine CW.seq ?_
  refine CW.regionL ?_
  refine OW.cons (OP.val (v := (.agg #[(.int .i64 a0.Boats), (.int .i64 a0.Scheme), v1])) rfl (x_loadN (cs := [(.int .i64 a0.Boats), (.int .i64 a0.Scheme), v1]) Try.underlying49 Try_T49 rfl rfl (hL.cellsB 1 rfl (o := 0) (l := [(.int .i64 a0.Boats), (.int .i64 a0.Scheme), v1]) (by intro j u hj; exact (by simpa using hj)))) ?_)
  obtain ⟨x7, hx8, hm⟩ := bndE hm
  refine OW.cons (OP.call rfl (x_call (vs := [(.agg #[(.int .i64 a0.Boats), (.int .i64 a0.Scheme), v1])]) Try_C24 ⟨rfl, trivial⟩) (M.spec_IsSeries_ok _ a0 (hL.rdS 2 rfl h2) hx8) ?_)
  rintro e9 wd10 ⟨rfl, hF11⟩
  refine ⟨_, rfl, ?_⟩
  have hL := hL.pushAll hF11
  simp only [List.cons_append, List.nil_append, List.set_cons_zero, List.set_cons_succ] at hL
  refine OW.cons (OP.val (v := (.bool (!x7))) rfl (x_not rfl) ?_)
  refine OW.nil ?_
  refine CW.condM (t := !x7) rfl hm (fun hb12 hm => ?_) (fun hb12 hm => ?_)
  · refine CW.seq ?_
    refine CW.regionL ?_
    refine OW.cons (OP.val (v := (.agg #[(.int .i64 0), (.slice none 0 0), (.slice none 0 0)])) rfl (x_build Try_B38 (ps := []) trivial (by simp [Instr.fill, cells_int, cells_bool, cells_string, cells_agg, cells_slice, cells_pointer])) ?_)
    refine OW.cons (S_storeN (l := [(.int .i64 0), (.slice none 0 0), (.slice none 0 0)]) (cs' := #[(.int .i64 0), (.slice none 0 0), (.slice none 0 0)]) hL 0 rfl Try_T38 rfl rfl (List.forall_mem_cons.2 ⟨rfl, (List.forall_mem_cons.2 ⟨rfl, (List.forall_mem_cons.2 ⟨rfl, (fun _ h => by cases h)⟩)⟩)⟩) rfl (Nat.le_of_ble_eq_true rfl) rfl ?_)
    intro wd13 hL
    refine OW.cons (OP.val (v := (.int .i64 1)) rfl (x_assign) ?_)
    refine OW.nil ?_
    refine CW.ret ?_
    have hL := hL.pushNil (List Int) 53
    have hL := hL.pushNil (List Int) 53
    obtain rfl := Option.some.inj hm
    exact RRct rfl rfl (run_loadBlk Try.underlying38 Try_T38 (hL.get 2 rfl) rfl) rfl ⟨(.slice none 0 0), None_, (.slice none 0 0), None_, rfl, hL.fresh 4 rfl [1, 0] (by decide) (by decide) rfl⟩
  · refine CW.skip ?_
    refine CW.seq ?_
    refine CW.regionL ?_
    refine OW.cons (OP.val (v := (.pointer (some ⟨b4, 0, none⟩))) rfl (x_fieldAddr (fsz := 1) 0 0 0 Try.underlying49 rfl Try_T2 rfl rfl rfl) ?_)
    refine OW.cons (OP.val (v := (.int .i64 a0.Boats)) rfl (x_load1 Try.underlying2 rfl rfl (hL.cellB 1 rfl rfl)) ?_)
    refine OW.cons (S_lit0 (α := Int) (List Int) hL Try.underlying33 Try_T53 rfl ?_)
    intro wd14 v15 S16 hL
    refine OW.cons (S_lit0 (α := Int) (List Int) hL Try.underlying33 Try_T53 rfl ?_)
    intro wd17 v18 S19 hL
    refine OW.cons (OP.val (v := (.agg #[(.int .i64 a0.Boats), v15, v18])) rfl (x_build Try_B38 (ps := [(0, (.int .i64 a0.Boats)), (1, v15), (2, v18)]) ⟨⟨rfl, rfl⟩, ⟨rfl, rfl⟩, ⟨rfl, rfl⟩, trivial⟩ (by simp [Instr.fill, cells_int, cells_bool, cells_string, cells_agg, cells_slice, cells_pointer, (rdL_cells (hL.rdO 1 rfl)), (rdL_cells (hL.rdO 0 rfl))])) ?_)
    refine OW.cons (S_alloc (cs := #[(.int .i64 0), (.slice none 0 0), (.slice none 0 0)]) hL Try_T38 rfl rfl ?_)
    intro wd20 b21 hL
    refine OW.cons (S_storeN (l := [(.int .i64 a0.Boats), v15, v18]) (cs' := #[(.int .i64 a0.Boats), v15, v18]) hL 0 rfl Try_T38 rfl rfl (List.forall_mem_cons.2 ⟨rfl, (List.forall_mem_cons.2 ⟨rdL_one (hL.rdO 2 rfl), (List.forall_mem_cons.2 ⟨rdL_one (hL.rdO 1 rfl), (fun _ h => by cases h)⟩)⟩)⟩) rfl (Nat.le_of_ble_eq_true rfl) rfl ?_)
    intro wd22 hL
    refine OW.nil ?_
    refine CW.seq ?_
    refine CW.seq ?_
    refine CW.regionL ?_
    refine OW.cons (OP.val (v := (.int .i64 0)) rfl (x_assign) ?_)
    refine OW.nil ?_
    obtain ⟨o451, ho452, hm⟩ := bndE hm
    have hL := hL.sel [2, 1, 0, 3, 4, 5] (by decide) rfl
    refine CW.loopB (fun (s_l1 : (List (List Int)) × (List (List Int)) × Int) (F : Fr) (w : World) => ∃ (v445 : Value) (S446 : Nat → Prop) (v447 : Value) (S448 : Nat → Prop), F 1 = (.pointer (some ⟨b4, 0, none⟩)) ∧ F 2 = (.pointer (some ⟨b6, 0, none⟩)) ∧ F 4 = (.pointer (some ⟨b21, 0, none⟩)) ∧ F 5 = (.int .i64 s_l1.2.2) ∧ Hp w0 [Ent.own 53 S446 v445 s_l1.1, Ent.own 53 S448 v447 s_l1.2.1, Ent.blk b21 38 #[(.int .i64 a0.Boats), v445, v447], Ent.blk b6 38 #[(.int .i64 0), (.slice none 0 0), (.slice none 0 0)], Ent.blk b4 49 #[(.int .i64 a0.Boats), (.int .i64 a0.Scheme), v1], Ent.snap w0 w0.heap.size] w) (fun o => outc o (fun x => some x) (fun s => M.spec_TableOf_a1 a0 s) = some r) ho452 hm ⟨v15, S16, v18, S19, rfl, rfl, rfl, rfl, hL⟩ ?_ ?_
    · intro s_l1 F453 wd454 hJ hm
      have hm := outcE hm
      have hm : M.spec_TableOf_a1 a0 s_l1 = some r := hm
      unfold M.spec_TableOf_a1 at hm
      obtain ⟨v445, S446, v447, S448, f455, f456, f457, f458, hL⟩ := hJ
      refine CW.seq ?_
      refine CW.regionL ?_
      refine OW.cons (OP.val (v := (.agg #[(.int .i64 a0.Boats), v445, v447])) rfl (x_loadN (cs := [(.int .i64 a0.Boats), v445, v447]) Try.underlying38 Try_T38 rfl f457 (hL.cellsB 2 rfl (o := 0) (l := [(.int .i64 a0.Boats), v445, v447]) (by intro j u hj; exact (by simpa using hj)))) ?_)
      refine OW.cons (S_storeN (l := [(.int .i64 a0.Boats), v445, v447]) (cs' := #[(.int .i64 a0.Boats), v445, v447]) hL 3 rfl Try_T38 f456 rfl (List.forall_mem_cons.2 ⟨rfl, (List.forall_mem_cons.2 ⟨rdL_one (hL.rdO 0 rfl), (List.forall_mem_cons.2 ⟨rdL_one (hL.rdO 1 rfl), (fun _ h => by cases h)⟩)⟩)⟩) rfl (Nat.le_of_ble_eq_true rfl) rfl ?_)
      intro wd459 hL
      refine OW.cons (OP.val (v := (.int .i64 0)) rfl (x_assign) ?_)
      refine OW.nil ?_
      refine CW.ret ?_
      obtain rfl := Option.some.inj hm
      exact RRct rfl f456 (run_loadBlk Try.underlying38 Try_T38 (hL.get 3 rfl) rfl) rfl ⟨v445, S446, v447, S448, rfl, hL.fresh 5 rfl [0, 1] (by decide) (by decide) rfl⟩
    · intro s_l1 F460 wd461 t449 hJ hm hr450
      unfold M.spec_TableOf_l1 at hm
      obtain ⟨v445, S446, v447, S448, f462, f463, f464, f465, hL⟩ := hJ
      refine CW.seq ?_
      refine CW.seq ?_
      refine CW.regionL ?_
      refine OW.cons (OP.val (v := (.int .i64 s_l1.2.2)) rfl (x_mv f465) ?_)
      refine OW.cons (OP.val (v := (.pointer (some ⟨b4, 2, none⟩))) rfl (x_fieldAddr (fsz := 1) 0 2 2 Try.underlying49 rfl Try_T47 rfl f462 rfl) ?_)
      refine OW.cons (OP.val (v := v1) rfl (x_load1 Try.underlying47 rfl rfl (hL.cellB 4 rfl rfl)) ?_)
      refine OW.cons (OP.val (v := (.int .i64 (a0.Races.length : Int))) rfl (x_lenR Try.underlying47 rfl (hL.rdS 5 rfl h2)) ?_)
      refine OW.cons (OP.val (v := (.bool (decide (s_l1.2.2 < (a0.Races.length : Int))))) rfl (x_lss rfl rfl) ?_)
      refine OW.nil ?_
      refine CW.condM (t := decide (s_l1.2.2 < (a0.Races.length : Int))) rfl hm (fun hb466 hm => ?_) (fun hb466 hm => ?_)
      · refine CW.skip ?_
        refine CW.seq ?_
        refine CW.block ?_
        refine CW.seq ?_
        refine CW.regionL ?_
        refine OW.cons (S_lit ([] : List Int) hL Try.underlying53 Try_T2 rfl (by decide) (by first | (simp [Instr.fill, madeCells, Value.cells, ev, upd, Flat.enc, Flat.sz]; done) | rfl | kernel_rfl) rfl rfl ?_)
        intro wd467 v468 S469 hL
        refine OW.cons (OP.val (v := v468) rfl (x_assign) ?_)
        refine OW.nil ?_
        refine CW.seq ?_
        refine CW.seq ?_
        refine CW.regionL ?_
        refine OW.cons (OP.val (v := (.int .i64 0)) rfl (x_assign) ?_)
        refine OW.nil ?_
        obtain ⟨o550, ho551, hm⟩ := bndE hm
        refine CW.loopB (fun (s_l2 : (List Int) × Int) (F : Fr) (w : World) => ∃ (v546 : Value) (S547 : Nat → Prop), F 1 = (.pointer (some ⟨b4, 0, none⟩)) ∧ F 2 = (.pointer (some ⟨b6, 0, none⟩)) ∧ F 4 = (.pointer (some ⟨b21, 0, none⟩)) ∧ F 5 = (.int .i64 s_l1.2.2) ∧ F 6 = v546 ∧ F 7 = (.int .i64 s_l2.2) ∧ Hp w0 [Ent.own 2 S547 v546 s_l2.1, Ent.own 53 S446 v445 s_l1.1, Ent.own 53 S448 v447 s_l1.2.1, Ent.blk b21 38 #[(.int .i64 a0.Boats), v445, v447], Ent.blk b6 38 #[(.int .i64 0), (.slice none 0 0), (.slice none 0 0)], Ent.blk b4 49 #[(.int .i64 a0.Boats), (.int .i64 a0.Scheme), v1], Ent.snap w0 w0.heap.size] w) (fun o => outc o (fun x => some (.ret x)) (fun s => M.spec_TableOf_a2 a0 s_l1 s) = some t449) ho551 hm ⟨v468, S469, f462, f463, f464, f465, rfl, rfl, hL⟩ ?_ ?_
        · intro s_l2 F552 wd553 hJ hm
          have hm := outcE hm
          have hm : M.spec_TableOf_a2 a0 s_l1 s_l2 = some t449 := hm
          unfold M.spec_TableOf_a2 at hm
          obtain ⟨v546, S547, f554, f555, f556, f557, f558, f559, hL⟩ := hJ
          obtain ⟨wz560, hL, ho561⟩ := hL.freeze 1 rfl
          simp only [List.set_cons_zero, List.set_cons_succ] at hL
          obtain ⟨wz562, hL, ho563⟩ := hL.freeze 2 rfl
          simp only [List.set_cons_zero, List.set_cons_succ] at hL
          refine CW.drawH (fun w' => Hp w0 [Ent.blk b6 38 #[(.int .i64 0), (.slice none 0 0), (.slice none 0 0)], Ent.blk b4 49 #[(.int .i64 a0.Boats), (.int .i64 a0.Scheme), v1], Ent.snap w0 w0.heap.size] w') Try_mixed ?_
          have hL := hL.call (Mod.drew _)
          have hS := (hL.sel [4, 5, 6] (by decide) rfl)
          refine DH.take 0 rfl (by kernel_rfl) (by kernel_rfl) (by kernel_rfl) rfl rfl hS (YH.val (v := (.pointer (some ⟨b4, 0, none⟩))) (fun w' hS' => x_fieldAddr (fsz := 1) 0 0 0 Try.underlying49 rfl Try_T2 rfl f554 rfl)) ?_
          have hS := (hL.sel [4, 5, 6] (by decide) rfl)
          refine DH.take 1 rfl (by kernel_rfl) (by kernel_rfl) (by kernel_rfl) rfl rfl hS (YH.val (v := (.int .i64 a0.Boats)) (fun w' hS' => x_load1 Try.underlying2 rfl rfl (hS'.cellB 1 rfl rfl))) ?_
          have hS := (hL.sel [4, 5, 6] (by decide) rfl)
          refine DH.take 2 rfl (by kernel_rfl) (by kernel_rfl) (by kernel_rfl) rfl rfl hS (YH.val (v := (.pointer (some ⟨b21, 1, none⟩))) (fun w' hS' => x_fieldAddr (fsz := 1) 0 1 1 Try.underlying38 rfl Try_T33 rfl f556 rfl)) ?_
          have hS := (hL.sel [4, 5, 6] (by decide) rfl)
          refine DH.take 4 rfl (by kernel_rfl) (by kernel_rfl) (by kernel_rfl) rfl rfl hS (YH.val (v := (.pointer (some ⟨b4, 2, none⟩))) (fun w' hS' => x_fieldAddr (fsz := 1) 0 2 2 Try.underlying49 rfl Try_T47 rfl f554 rfl)) ?_
          have hS := (hL.sel [4, 5, 6] (by decide) rfl)
          refine DH.take 5 rfl (by kernel_rfl) (by kernel_rfl) (by kernel_rfl) rfl rfl hS (YH.val (v := v1) (fun w' hS' => x_load1 Try.underlying47 rfl rfl (hS'.cellB 1 rfl rfl))) ?_
          have hS := (hL.sel [4, 5, 6] (by decide) rfl)
          refine DH.take 6 rfl (by kernel_rfl) (by kernel_rfl) (by kernel_rfl) rfl rfl hS (YH.val (v := (.int .i64 s_l1.2.2)) (fun w' hS' => x_mv f557)) ?_
          have hS := (hL.sel [4, 5, 6] (by decide) rfl)
          obtain ⟨x597, ha598, hm⟩ := bndE hm
          obtain ⟨hz599, ha607⟩ := idxE ha598
          obtain ⟨b600, q601, v602, hix603, hs604, hc605, hr606⟩ := rdN_at h2 hz599 ha607
          refine DH.take 7 rfl (by kernel_rfl) (by kernel_rfl) (by kernel_rfl) rfl rfl hS (YH.val (v := (.pointer (some ⟨b600, q601, none⟩))) (fun w' hS' => x_ix Try.underlying47 Try_T29 rfl rfl hix603)) ?_
          have hS := (hL.sel [4, 5, 6] (by decide) rfl)
          refine DH.take 8 rfl (by kernel_rfl) (by kernel_rfl) (by kernel_rfl) rfl rfl hS (YH.val (v := (.agg #[v602])) (fun w' hS' => x_loadN (cs := [v602]) Try.underlying29 Try_T29 rfl rfl (by intro j u hj; match j, hj with | 0, hj => (simp at hj; subst hj; exact (hS'.cellS 2 rfl hs604 hc605))))) ?_
          have hS := (hL.sel [4, 5, 6] (by decide) rfl)
          refine DH.take 9 rfl (by kernel_rfl) (by kernel_rfl) (by kernel_rfl) rfl rfl hS (YH.val (v := (.pointer (some ⟨b4, 1, none⟩))) (fun w' hS' => x_fieldAddr (fsz := 1) 0 1 1 Try.underlying49 rfl Try_T2 rfl f554 rfl)) ?_
          have hS := (hL.sel [4, 5, 6] (by decide) rfl)
          refine DH.take 10 rfl (by kernel_rfl) (by kernel_rfl) (by kernel_rfl) rfl rfl hS (YH.val (v := (.int .i64 a0.Scheme)) (fun w' hS' => x_load1 Try.underlying2 rfl rfl (hS'.cellB 1 rfl rfl))) ?_
          have hS := (hL.sel [4, 5, 6] (by decide) rfl)
          refine DH.take 14 rfl (by kernel_rfl) (by kernel_rfl) (by kernel_rfl) rfl rfl hS (YH.val (v := (.pointer (some ⟨b21, 2, none⟩))) (fun w' hS' => x_fieldAddr (fsz := 1) 0 2 2 Try.underlying38 rfl Try_T33 rfl f556 rfl)) ?_
          have hS := (hL.sel [4, 5, 6] (by decide) rfl)
          refine DH.take 16 rfl (by kernel_rfl) (by kernel_rfl) (by kernel_rfl) rfl rfl hS (YH.val (v := v546) (fun w' hS' => x_mv f558)) ?_
          obtain ⟨x608, hx609, hm⟩ := bndE hm
          obtain ⟨hc621, hm⟩ := chkE hm
          obtain ⟨hc628, hm⟩ := chkE hm
          refine DH.node (listed' := #[true, true, true, true, true, true, true, true, true, true, true, true, true, true, true, true, true, true, true, true, true]) (fuel' := 0) (fun (F : Fr) (w : World) => ∃ (v781 : Value) (S782 : Nat → Prop) (v783 : Value) (S784 : Nat → Prop), F 1 = (.pointer (some ⟨b4, 0, none⟩)) ∧ F 2 = (.pointer (some ⟨b6, 0, none⟩)) ∧ F 4 = (.pointer (some ⟨b21, 0, none⟩)) ∧ F 5 = (.int .i64 s_l1.2.2) ∧ Hp w0 [Ent.own 53 S782 v781 (s_l1.2.1 ++ ([s_l2.1] : List (List Int))), Ent.own 53 S784 v783 (s_l1.1 ++ ([x608] : List (List Int))), Ent.blk b21 38 #[(.int .i64 a0.Boats), v783, v781], Ent.blk b6 38 #[(.int .i64 0), (.slice none 0 0), (.slice none 0 0)], Ent.blk b4 49 #[(.int .i64 a0.Boats), (.int .i64 a0.Scheme), v1], Ent.snap w0 w0.heap.size] w) ?_ (fun hN752 => ?_)
          · intro F857 wd858 hJ
            obtain ⟨v781, S782, v783, S784, f859, f860, f861, f862, hL⟩ := hJ
            refine DH.done (by kernel_rfl) ?_
            refine CW.regionL ?_
            refine OW.cons (OP.val (v := (.int .i64 s_l1.2.2)) rfl (x_mv f862) ?_)
            refine OW.cons (OP.val (v := (.int .i64 (w64 (s_l1.2.2 + 1)))) rfl (x_add rfl rfl) ?_)
            refine OW.cons (OP.val (v := (.int .i64 (w64 (s_l1.2.2 + 1)))) rfl (x_assign) ?_)
            refine OW.nil ?_
            have hL := hL.sel [1, 0, 2, 3, 4, 5] (by decide) rfl
            obtain rfl := Option.some.inj hm
            exact ⟨_, rfl, ⟨v783, S784, v781, S782, f859, f860, f861, rfl, hL⟩⟩
          refine DH.node (listed' := #[true, true, true, true, true, true, true, true, true, true, true, true, true, true, true, true, true, true, true, true, false]) (fuel' := 1) (fun (F : Fr) (w : World) => ∃ (v785 : Value) (S786 : Nat → Prop) (v787 : Value) (S788 : Nat → Prop), F 1 = (.pointer (some ⟨b4, 0, none⟩)) ∧ F 2 = (.pointer (some ⟨b6, 0, none⟩)) ∧ F 4 = (.pointer (some ⟨b21, 0, none⟩)) ∧ F 5 = (.int .i64 s_l1.2.2) ∧ F 68 = (.agg #[(.int .i64 a0.Boats), v787, v785]) ∧ Hp w0 [Ent.own 53 S786 v785 (s_l1.2.1 ++ ([s_l2.1] : List (List Int))), Ent.own 53 S788 v787 (s_l1.1 ++ ([x608] : List (List Int))), Ent.blk b21 38 #[(.int .i64 a0.Boats), v445, v447], Ent.blk b6 38 #[(.int .i64 0), (.slice none 0 0), (.slice none 0 0)], Ent.blk b4 49 #[(.int .i64 a0.Boats), (.int .i64 a0.Scheme), v1], Ent.snap w0 w0.heap.size] w) ?_ (fun hN753 => ?_)
          · intro F863 wd864 hJ
            obtain ⟨v785, S786, v787, S788, f865, f866, f867, f868, f869, hL⟩ := hJ
            refine DH.only 20 rfl (by kernel_rfl) (S_storeN (l := [(.int .i64 a0.Boats), v787, v785]) (cs' := #[(.int .i64 a0.Boats), v787, v785]) hL 2 rfl Try_T38 f867 rfl (List.forall_mem_cons.2 ⟨rfl, (List.forall_mem_cons.2 ⟨rdL_one (hL.rdO 1 rfl), (List.forall_mem_cons.2 ⟨rdL_one (hL.rdO 0 rfl), (fun _ h => by cases h)⟩)⟩)⟩) f869 (Nat.le_of_ble_eq_true rfl) rfl ?_)
            intro wd870 hL
            refine ⟨(hL.sel [3, 4, 5] (by decide) rfl), ?_⟩
            exact DH.relist (listed' := #[true, true, true, true, true, true, true, true, true, true, true, true, true, true, true, true, true, true, true, true, true]) (by kernel_rfl) (hN752 _ _ ⟨v785, S786, v787, S788, f865, f866, f867, f868, hL⟩)
          refine DH.node (listed' := #[true, true, true, true, true, true, true, true, true, true, true, true, true, true, true, true, true, true, false, false, false]) (fuel' := 3) (fun (F : Fr) (w : World) => ∃ (v789 : Value) (S790 : Nat → Prop) (v791 : Value) (S792 : Nat → Prop), F 1 = (.pointer (some ⟨b4, 0, none⟩)) ∧ F 2 = (.pointer (some ⟨b6, 0, none⟩)) ∧ F 4 = (.pointer (some ⟨b21, 0, none⟩)) ∧ F 5 = (.int .i64 s_l1.2.2) ∧ F 50 = (.int .i64 a0.Boats) ∧ F 62 = v791 ∧ F 64 = v447 ∧ F 66 = v789 ∧ Hp w0 [Ent.own 53 S790 v789 ([s_l2.1] : List (List Int)), Ent.own 53 S792 v791 (s_l1.1 ++ ([x608] : List (List Int))), Ent.frzS wz562 S448, Ent.blk b21 38 #[(.int .i64 a0.Boats), v445, v447], Ent.blk b6 38 #[(.int .i64 0), (.slice none 0 0), (.slice none 0 0)], Ent.blk b4 49 #[(.int .i64 a0.Boats), (.int .i64 a0.Scheme), v1], Ent.snap w0 w0.heap.size] w) ?_ (fun hN754 => ?_)
          · intro F871 wd872 hJ
            obtain ⟨v789, S790, v791, S792, f873, f874, f875, f876, f877, f878, f879, f880, hL⟩ := hJ
            have hL := hL.thaw 2 rfl ho563
            have hL := hL.sel [2, 0, 1, 3, 4, 5, 6] (by decide) rfl
            refine DH.only 18 rfl (by kernel_rfl) (S_appendN Int hL Try.underlying33 Try_T53 rfl f879 f880 hc628 (by decide) rfl ?_)
            intro wd881 v882 S883 hL
            refine ⟨(hL.sel [3, 4, 5] (by decide) rfl), ?_⟩
            have hS := (hL.sel [3, 4, 5] (by decide) rfl)
            refine DH.take 19 rfl (by kernel_rfl) (by kernel_rfl) (by kernel_rfl) rfl rfl hS (YH.val (v := (.agg #[(.int .i64 a0.Boats), v791, v882])) (fun w' hS' => x_build Try_B38 (ps := [(0, (.int .i64 a0.Boats)), (1, v791), (2, v882)]) ⟨⟨rfl, f877⟩, ⟨rfl, f878⟩, ⟨rfl, rfl⟩, trivial⟩ (by simp [Instr.fill, cells_int, cells_bool, cells_string, cells_agg, cells_slice, cells_pointer, (rdL_cells (hL.rdO 1 rfl)), (rdL_cells (hL.rdO 0 rfl))]))) ?_
            exact DH.relist (listed' := #[true, true, true, true, true, true, true, true, true, true, true, true, true, true, true, true, true, true, true, true, false]) (by kernel_rfl) (hN753 _ _ ⟨v882, S883, v791, S792, f873, f874, f875, f876, rfl, hL⟩)
          refine DH.node (listed' := #[true, true, true, true, true, true, true, true, true, true, true, true, true, true, true, true, true, false, false, false, false]) (fuel' := 4) (fun (F : Fr) (w : World) => ∃ (v793 : Value) (S794 : Nat → Prop), F 1 = (.pointer (some ⟨b4, 0, none⟩)) ∧ F 2 = (.pointer (some ⟨b6, 0, none⟩)) ∧ F 4 = (.pointer (some ⟨b21, 0, none⟩)) ∧ F 5 = (.int .i64 s_l1.2.2) ∧ F 50 = (.int .i64 a0.Boats) ∧ F 62 = v793 ∧ F 64 = v447 ∧ F 65 = v546 ∧ Hp w0 [Ent.own 53 S794 v793 (s_l1.1 ++ ([x608] : List (List Int))), Ent.own 2 S547 v546 s_l2.1, Ent.frzS wz562 S448, Ent.blk b21 38 #[(.int .i64 a0.Boats), v445, v447], Ent.blk b6 38 #[(.int .i64 0), (.slice none 0 0), (.slice none 0 0)], Ent.blk b4 49 #[(.int .i64 a0.Boats), (.int .i64 a0.Scheme), v1], Ent.snap w0 w0.heap.size] w) ?_ (fun hN755 => ?_)
          · intro F884 wd885 hJ
            obtain ⟨v793, S794, f886, f887, f888, f889, f890, f891, f892, f893, hL⟩ := hJ
            have hL := hL.sel [1, 0, 2, 3, 4, 5, 6] (by decide) rfl
            refine DH.only 17 rfl (by kernel_rfl) (S_lit1 s_l2.1 rfl hL Try.underlying33 Try_T53 ((congrArg Value.cells f893).trans (rdL_cells (hL.rdO 0 rfl))) rfl ?_)
            intro wd894 v895 S896 hL
            refine ⟨(hL.sel [4, 5, 6] (by decide) rfl), ?_⟩
            exact DH.relist (listed' := #[true, true, true, true, true, true, true, true, true, true, true, true, true, true, true, true, true, true, false, false, false]) (by kernel_rfl) (hN754 _ _ ⟨v895, S896, v793, S794, f886, f887, f888, f889, f890, f891, f892, rfl, hL⟩)
          refine DH.node (listed' := #[true, true, true, true, true, true, true, true, true, true, true, true, true, true, true, false, true, true, false, false, false]) (fuel' := 4) (fun (F : Fr) (w : World) => ∃ (v795 : Value) (S796 : Nat → Prop) (v797 : Value) (S798 : Nat → Prop), F 1 = (.pointer (some ⟨b4, 0, none⟩)) ∧ F 2 = (.pointer (some ⟨b6, 0, none⟩)) ∧ F 4 = (.pointer (some ⟨b21, 0, none⟩)) ∧ F 5 = (.int .i64 s_l1.2.2) ∧ F 50 = (.int .i64 a0.Boats) ∧ F 62 = v797 ∧ F 63 = (.pointer (some ⟨b21, 2, none⟩)) ∧ F 66 = v795 ∧ Hp w0 [Ent.own 53 S796 v795 ([s_l2.1] : List (List Int)), Ent.own 53 S798 v797 (s_l1.1 ++ ([x608] : List (List Int))), Ent.frzS wz562 S448, Ent.blk b21 38 #[(.int .i64 a0.Boats), v445, v447], Ent.blk b6 38 #[(.int .i64 0), (.slice none 0 0), (.slice none 0 0)], Ent.blk b4 49 #[(.int .i64 a0.Boats), (.int .i64 a0.Scheme), v1], Ent.snap w0 w0.heap.size] w) ?_ (fun hN756 => ?_)
          · intro F897 wd898 hJ
            obtain ⟨v795, S796, v797, S798, f899, f900, f901, f902, f903, f904, f905, f906, hL⟩ := hJ
            refine DH.only 15 rfl (by kernel_rfl) (OP.val (v := v447) rfl (x_load1 Try.underlying33 rfl f905 (hL.cellB 3 rfl rfl)) ?_)
            refine ⟨(hL.sel [4, 5, 6] (by decide) rfl), ?_⟩
            exact DH.relist (listed' := #[true, true, true, true, true, true, true, true, true, true, true, true, true, true, true, true, true, true, false, false, false]) (by kernel_rfl) (hN754 _ _ ⟨v795, S796, v797, S798, f899, f900, f901, f902, f903, f904, rfl, f906, hL⟩)
          refine DH.node (listed' := #[true, true, true, true, true, true, true, true, true, true, true, true, true, false, true, true, true, true, false, false, false]) (fuel' := 4) (fun (F : Fr) (w : World) => ∃ (v799 : Value) (S800 : Nat → Prop) (v801 : Value) (S802 : Nat → Prop), F 1 = (.pointer (some ⟨b4, 0, none⟩)) ∧ F 2 = (.pointer (some ⟨b6, 0, none⟩)) ∧ F 4 = (.pointer (some ⟨b21, 0, none⟩)) ∧ F 5 = (.int .i64 s_l1.2.2) ∧ F 50 = (.int .i64 a0.Boats) ∧ F 52 = v445 ∧ F 61 = v801 ∧ F 64 = v447 ∧ F 66 = v799 ∧ Hp w0 [Ent.own 53 S800 v799 ([s_l2.1] : List (List Int)), Ent.own 53 S802 v801 ([x608] : List (List Int)), Ent.frzS wz560 S446, Ent.frzS wz562 S448, Ent.blk b21 38 #[(.int .i64 a0.Boats), v445, v447], Ent.blk b6 38 #[(.int .i64 0), (.slice none 0 0), (.slice none 0 0)], Ent.blk b4 49 #[(.int .i64 a0.Boats), (.int .i64 a0.Scheme), v1], Ent.snap w0 w0.heap.size] w) ?_ (fun hN757 => ?_)
          · intro F907 wd908 hJ
            obtain ⟨v799, S800, v801, S802, f909, f910, f911, f912, f913, f914, f915, f916, f917, hL⟩ := hJ
            have hL := hL.thaw 2 rfl ho561
            have hL := hL.sel [2, 1, 0, 3, 4, 5, 6, 7] (by decide) rfl
            refine DH.only 13 rfl (by kernel_rfl) (S_appendN Int hL Try.underlying33 Try_T53 rfl f914 f915 hc621 (by decide) rfl ?_)
            intro wd918 v919 S920 hL
            refine ⟨(hL.sel [4, 5, 6] (by decide) rfl), ?_⟩
            have hL := hL.sel [1, 0, 2, 3, 4, 5, 6] (by decide) rfl
            exact DH.relist (listed' := #[true, true, true, true, true, true, true, true, true, true, true, true, true, true, true, true, true, true, false, false, false]) (by kernel_rfl) (hN754 _ _ ⟨v799, S800, v919, S920, f909, f910, f911, f912, f913, rfl, f916, f917, hL⟩)
          refine DH.node (listed' := #[true, true, true, true, true, true, true, true, true, true, true, true, true, true, true, false, true, false, false, false, false]) (fuel' := 5) (fun (F : Fr) (w : World) => ∃ (v803 : Value) (S804 : Nat → Prop), F 1 = (.pointer (some ⟨b4, 0, none⟩)) ∧ F 2 = (.pointer (some ⟨b6, 0, none⟩)) ∧ F 4 = (.pointer (some ⟨b21, 0, none⟩)) ∧ F 5 = (.int .i64 s_l1.2.2) ∧ F 50 = (.int .i64 a0.Boats) ∧ F 62 = v803 ∧ F 63 = (.pointer (some ⟨b21, 2, none⟩)) ∧ F 65 = v546 ∧ Hp w0 [Ent.own 53 S804 v803 (s_l1.1 ++ ([x608] : List (List Int))), Ent.own 2 S547 v546 s_l2.1, Ent.frzS wz562 S448, Ent.blk b21 38 #[(.int .i64 a0.Boats), v445, v447], Ent.blk b6 38 #[(.int .i64 0), (.slice none 0 0), (.slice none 0 0)], Ent.blk b4 49 #[(.int .i64 a0.Boats), (.int .i64 a0.Scheme), v1], Ent.snap w0 w0.heap.size] w) ?_ (fun hN758 => ?_)
          · intro F921 wd922 hJ
            obtain ⟨v803, S804, f923, f924, f925, f926, f927, f928, f929, f930, hL⟩ := hJ
            refine DH.all (rs := [15, 17]) (by kernel_rfl) (by simp) ?_
            intro i931 hi932
            simp only [List.mem_cons, List.not_mem_nil, or_false] at hi932
            rcases hi932 with rfl | rfl
            · refine ⟨_, rfl, ?_⟩
              refine OP.val (v := v447) rfl (x_load1 Try.underlying33 rfl f929 (hL.cellB 3 rfl rfl)) ?_
              refine ⟨(hL.sel [4, 5, 6] (by decide) rfl), ?_⟩
              exact DH.relist (listed' := #[true, true, true, true, true, true, true, true, true, true, true, true, true, true, true, true, true, false, false, false, false]) (by kernel_rfl) (hN755 _ _ ⟨v803, S804, f923, f924, f925, f926, f927, f928, rfl, f930, hL⟩)
            · refine ⟨_, rfl, ?_⟩
              have hL := hL.sel [1, 0, 2, 3, 4, 5, 6] (by decide) rfl
              refine S_lit1 s_l2.1 rfl hL Try.underlying33 Try_T53 ((congrArg Value.cells f930).trans (rdL_cells (hL.rdO 0 rfl))) rfl ?_
              intro wd933 v934 S935 hL
              refine ⟨(hL.sel [4, 5, 6] (by decide) rfl), ?_⟩
              exact DH.relist (listed' := #[true, true, true, true, true, true, true, true, true, true, true, true, true, true, true, false, true, true, false, false, false]) (by kernel_rfl) (hN756 _ _ ⟨v934, S935, v803, S804, f923, f924, f925, f926, f927, f928, f929, rfl, hL⟩)
          refine DH.node (listed' := #[true, true, true, true, true, true, true, true, true, true, true, true, true, false, true, true, true, false, false, false, false]) (fuel' := 5) (fun (F : Fr) (w : World) => ∃ (v805 : Value) (S806 : Nat → Prop), F 1 = (.pointer (some ⟨b4, 0, none⟩)) ∧ F 2 = (.pointer (some ⟨b6, 0, none⟩)) ∧ F 4 = (.pointer (some ⟨b21, 0, none⟩)) ∧ F 5 = (.int .i64 s_l1.2.2) ∧ F 50 = (.int .i64 a0.Boats) ∧ F 52 = v445 ∧ F 61 = v805 ∧ F 64 = v447 ∧ F 65 = v546 ∧ Hp w0 [Ent.own 53 S806 v805 ([x608] : List (List Int)), Ent.own 2 S547 v546 s_l2.1, Ent.frzS wz560 S446, Ent.frzS wz562 S448, Ent.blk b21 38 #[(.int .i64 a0.Boats), v445, v447], Ent.blk b6 38 #[(.int .i64 0), (.slice none 0 0), (.slice none 0 0)], Ent.blk b4 49 #[(.int .i64 a0.Boats), (.int .i64 a0.Scheme), v1], Ent.snap w0 w0.heap.size] w) ?_ (fun hN759 => ?_)
          · intro F936 wd937 hJ
            obtain ⟨v805, S806, f938, f939, f940, f941, f942, f943, f944, f945, f946, hL⟩ := hJ
            refine DH.all (rs := [13, 17]) (by kernel_rfl) (by simp) ?_
            intro i947 hi948
            simp only [List.mem_cons, List.not_mem_nil, or_false] at hi948
            rcases hi948 with rfl | rfl
            · refine ⟨_, rfl, ?_⟩
              have hL := hL.thaw 2 rfl ho561
              have hL := hL.sel [2, 0, 1, 3, 4, 5, 6, 7] (by decide) rfl
              refine S_appendN Int hL Try.underlying33 Try_T53 rfl f943 f944 hc621 (by decide) rfl ?_
              intro wd949 v950 S951 hL
              refine ⟨(hL.sel [4, 5, 6] (by decide) rfl), ?_⟩
              exact DH.relist (listed' := #[true, true, true, true, true, true, true, true, true, true, true, true, true, true, true, true, true, false, false, false, false]) (by kernel_rfl) (hN755 _ _ ⟨v950, S951, f938, f939, f940, f941, f942, rfl, f945, f946, hL⟩)
            · refine ⟨_, rfl, ?_⟩
              have hL := hL.sel [1, 0, 2, 3, 4, 5, 6, 7] (by decide) rfl
              refine S_lit1 s_l2.1 rfl hL Try.underlying33 Try_T53 ((congrArg Value.cells f946).trans (rdL_cells (hL.rdO 0 rfl))) rfl ?_
              intro wd952 v953 S954 hL
              refine ⟨(hL.sel [5, 6, 7] (by decide) rfl), ?_⟩
              exact DH.relist (listed' := #[true, true, true, true, true, true, true, true, true, true, true, true, true, false, true, true, true, true, false, false, false]) (by kernel_rfl) (hN757 _ _ ⟨v953, S954, v805, S806, f938, f939, f940, f941, f942, f943, f944, f945, rfl, hL⟩)
          refine DH.node (listed' := #[true, true, true, true, true, true, true, true, true, true, true, true, true, false, true, false, true, true, false, false, false]) (fuel' := 5) (fun (F : Fr) (w : World) => ∃ (v807 : Value) (S808 : Nat → Prop) (v809 : Value) (S810 : Nat → Prop), F 1 = (.pointer (some ⟨b4, 0, none⟩)) ∧ F 2 = (.pointer (some ⟨b6, 0, none⟩)) ∧ F 4 = (.pointer (some ⟨b21, 0, none⟩)) ∧ F 5 = (.int .i64 s_l1.2.2) ∧ F 50 = (.int .i64 a0.Boats) ∧ F 52 = v445 ∧ F 61 = v809 ∧ F 63 = (.pointer (some ⟨b21, 2, none⟩)) ∧ F 66 = v807 ∧ Hp w0 [Ent.own 53 S808 v807 ([s_l2.1] : List (List Int)), Ent.own 53 S810 v809 ([x608] : List (List Int)), Ent.frzS wz560 S446, Ent.frzS wz562 S448, Ent.blk b21 38 #[(.int .i64 a0.Boats), v445, v447], Ent.blk b6 38 #[(.int .i64 0), (.slice none 0 0), (.slice none 0 0)], Ent.blk b4 49 #[(.int .i64 a0.Boats), (.int .i64 a0.Scheme), v1], Ent.snap w0 w0.heap.size] w) ?_ (fun hN760 => ?_)
          · intro F955 wd956 hJ
            obtain ⟨v807, S808, v809, S810, f957, f958, f959, f960, f961, f962, f963, f964, f965, hL⟩ := hJ
            refine DH.all (rs := [13, 15]) (by kernel_rfl) (by simp) ?_
            intro i966 hi967
            simp only [List.mem_cons, List.not_mem_nil, or_false] at hi967
            rcases hi967 with rfl | rfl
            · refine ⟨_, rfl, ?_⟩
              have hL := hL.thaw 2 rfl ho561
              have hL := hL.sel [2, 1, 0, 3, 4, 5, 6, 7] (by decide) rfl
              refine S_appendN Int hL Try.underlying33 Try_T53 rfl f962 f963 hc621 (by decide) rfl ?_
              intro wd968 v969 S970 hL
              refine ⟨(hL.sel [4, 5, 6] (by decide) rfl), ?_⟩
              have hL := hL.sel [1, 0, 2, 3, 4, 5, 6] (by decide) rfl
              exact DH.relist (listed' := #[true, true, true, true, true, true, true, true, true, true, true, true, true, true, true, false, true, true, false, false, false]) (by kernel_rfl) (hN756 _ _ ⟨v807, S808, v969, S970, f957, f958, f959, f960, f961, rfl, f964, f965, hL⟩)
            · refine ⟨_, rfl, ?_⟩
              refine OP.val (v := v447) rfl (x_load1 Try.underlying33 rfl f964 (hL.cellB 4 rfl rfl)) ?_
              refine ⟨(hL.sel [5, 6, 7] (by decide) rfl), ?_⟩
              exact DH.relist (listed' := #[true, true, true, true, true, true, true, true, true, true, true, true, true, false, true, true, true, true, false, false, false]) (by kernel_rfl) (hN757 _ _ ⟨v807, S808, v809, S810, f957, f958, f959, f960, f961, f962, f963, rfl, f965, hL⟩)
          refine DH.node (listed' := #[true, true, true, true, true, true, true, true, true, true, true, true, false, false, true, true, true, true, false, false, false]) (fuel' := 5) (fun (F : Fr) (w : World) => ∃ (v811 : Value) (S812 : Nat → Prop) (v813 : Value) (S814 : Nat → Prop), F 1 = (.pointer (some ⟨b4, 0, none⟩)) ∧ F 2 = (.pointer (some ⟨b6, 0, none⟩)) ∧ F 4 = (.pointer (some ⟨b21, 0, none⟩)) ∧ F 5 = (.int .i64 s_l1.2.2) ∧ F 50 = (.int .i64 a0.Boats) ∧ F 52 = v445 ∧ F 60 = v813 ∧ F 64 = v447 ∧ F 66 = v811 ∧ Hp w0 [Ent.own 53 S812 v811 ([s_l2.1] : List (List Int)), Ent.own 2 S814 v813 x608, Ent.frzS wz560 S446, Ent.frzS wz562 S448, Ent.blk b21 38 #[(.int .i64 a0.Boats), v445, v447], Ent.blk b6 38 #[(.int .i64 0), (.slice none 0 0), (.slice none 0 0)], Ent.blk b4 49 #[(.int .i64 a0.Boats), (.int .i64 a0.Scheme), v1], Ent.snap w0 w0.heap.size] w) ?_ (fun hN761 => ?_)
          · intro F971 wd972 hJ
            obtain ⟨v811, S812, v813, S814, f973, f974, f975, f976, f977, f978, f979, f980, f981, hL⟩ := hJ
            have hL := hL.sel [1, 0, 2, 3, 4, 5, 6, 7] (by decide) rfl
            refine DH.only 12 rfl (by kernel_rfl) (S_lit1 x608 rfl hL Try.underlying33 Try_T53 ((congrArg Value.cells f979).trans (rdL_cells (hL.rdO 0 rfl))) rfl ?_)
            intro wd982 v983 S984 hL
            refine ⟨(hL.sel [5, 6, 7] (by decide) rfl), ?_⟩
            have hL := hL.sel [1, 0, 2, 3, 4, 5, 6, 7] (by decide) rfl
            exact DH.relist (listed' := #[true, true, true, true, true, true, true, true, true, true, true, true, true, false, true, true, true, true, false, false, false]) (by kernel_rfl) (hN757 _ _ ⟨v811, S812, v983, S984, f973, f974, f975, f976, f977, f978, rfl, f980, f981, hL⟩)
          refine DH.node (listed' := #[true, true, true, false, true, true, true, true, true, true, true, true, true, false, true, true, true, true, false, false, false]) (fuel' := 5) (fun (F : Fr) (w : World) => ∃ (v815 : Value) (S816 : Nat → Prop) (v817 : Value) (S818 : Nat → Prop), F 1 = (.pointer (some ⟨b4, 0, none⟩)) ∧ F 2 = (.pointer (some ⟨b6, 0, none⟩)) ∧ F 4 = (.pointer (some ⟨b21, 0, none⟩)) ∧ F 5 = (.int .i64 s_l1.2.2) ∧ F 50 = (.int .i64 a0.Boats) ∧ F 51 = (.pointer (some ⟨b21, 1, none⟩)) ∧ F 61 = v817 ∧ F 64 = v447 ∧ F 66 = v815 ∧ Hp w0 [Ent.own 53 S816 v815 ([s_l2.1] : List (List Int)), Ent.own 53 S818 v817 ([x608] : List (List Int)), Ent.frzS wz560 S446, Ent.frzS wz562 S448, Ent.blk b21 38 #[(.int .i64 a0.Boats), v445, v447], Ent.blk b6 38 #[(.int .i64 0), (.slice none 0 0), (.slice none 0 0)], Ent.blk b4 49 #[(.int .i64 a0.Boats), (.int .i64 a0.Scheme), v1], Ent.snap w0 w0.heap.size] w) ?_ (fun hN762 => ?_)
          · intro F985 wd986 hJ
            obtain ⟨v815, S816, v817, S818, f987, f988, f989, f990, f991, f992, f993, f994, f995, hL⟩ := hJ
            refine DH.only 3 rfl (by kernel_rfl) (OP.val (v := v445) rfl (x_load1 Try.underlying33 rfl f992 (hL.cellB 4 rfl rfl)) ?_)
            refine ⟨(hL.sel [5, 6, 7] (by decide) rfl), ?_⟩
            exact DH.relist (listed' := #[true, true, true, true, true, true, true, true, true, true, true, true, true, false, true, true, true, true, false, false, false]) (by kernel_rfl) (hN757 _ _ ⟨v815, S816, v817, S818, f987, f988, f989, f990, f991, rfl, f993, f994, f995, hL⟩)
          refine DH.node (listed' := #[true, true, true, true, true, true, true, true, true, true, true, true, true, false, true, false, true, false, false, false, false]) (fuel' := 6) (fun (F : Fr) (w : World) => ∃ (v819 : Value) (S820 : Nat → Prop), F 1 = (.pointer (some ⟨b4, 0, none⟩)) ∧ F 2 = (.pointer (some ⟨b6, 0, none⟩)) ∧ F 4 = (.pointer (some ⟨b21, 0, none⟩)) ∧ F 5 = (.int .i64 s_l1.2.2) ∧ F 50 = (.int .i64 a0.Boats) ∧ F 52 = v445 ∧ F 61 = v819 ∧ F 63 = (.pointer (some ⟨b21, 2, none⟩)) ∧ F 65 = v546 ∧ Hp w0 [Ent.own 53 S820 v819 ([x608] : List (List Int)), Ent.own 2 S547 v546 s_l2.1, Ent.frzS wz560 S446, Ent.frzS wz562 S448, Ent.blk b21 38 #[(.int .i64 a0.Boats), v445, v447], Ent.blk b6 38 #[(.int .i64 0), (.slice none 0 0), (.slice none 0 0)], Ent.blk b4 49 #[(.int .i64 a0.Boats), (.int .i64 a0.Scheme), v1], Ent.snap w0 w0.heap.size] w) ?_ (fun hN763 => ?_)
          · intro F996 wd997 hJ
            obtain ⟨v819, S820, f998, f999, f1000, f1001, f1002, f1003, f1004, f1005, f1006, hL⟩ := hJ
            refine DH.all (rs := [13, 15, 17]) (by kernel_rfl) (by simp) ?_
            intro i1007 hi1008
            simp only [List.mem_cons, List.not_mem_nil, or_false] at hi1008
            rcases hi1008 with rfl | rfl | rfl
            · refine ⟨_, rfl, ?_⟩
              have hL := hL.thaw 2 rfl ho561
              have hL := hL.sel [2, 0, 1, 3, 4, 5, 6, 7] (by decide) rfl
              refine S_appendN Int hL Try.underlying33 Try_T53 rfl f1003 f1004 hc621 (by decide) rfl ?_
              intro wd1009 v1010 S1011 hL
              refine ⟨(hL.sel [4, 5, 6] (by decide) rfl), ?_⟩
              exact DH.relist (listed' := #[true, true, true, true, true, true, true, true, true, true, true, true, true, true, true, false, true, false, false, false, false]) (by kernel_rfl) (hN758 _ _ ⟨v1010, S1011, f998, f999, f1000, f1001, f1002, rfl, f1005, f1006, hL⟩)
            · refine ⟨_, rfl, ?_⟩
              refine OP.val (v := v447) rfl (x_load1 Try.underlying33 rfl f1005 (hL.cellB 4 rfl rfl)) ?_
              refine ⟨(hL.sel [5, 6, 7] (by decide) rfl), ?_⟩
              exact DH.relist (listed' := #[true, true, true, true, true, true, true, true, true, true, true, true, true, false, true, true, true, false, false, false, false]) (by kernel_rfl) (hN759 _ _ ⟨v819, S820, f998, f999, f1000, f1001, f1002, f1003, f1004, rfl, f1006, hL⟩)
            · refine ⟨_, rfl, ?_⟩
              have hL := hL.sel [1, 0, 2, 3, 4, 5, 6, 7] (by decide) rfl
              refine S_lit1 s_l2.1 rfl hL Try.underlying33 Try_T53 ((congrArg Value.cells f1006).trans (rdL_cells (hL.rdO 0 rfl))) rfl ?_
              intro wd1012 v1013 S1014 hL
              refine ⟨(hL.sel [5, 6, 7] (by decide) rfl), ?_⟩
              exact DH.relist (listed' := #[true, true, true, true, true, true, true, true, true, true, true, true, true, false, true, false, true, true, false, false, false]) (by kernel_rfl) (hN760 _ _ ⟨v1013, S1014, v819, S820, f998, f999, f1000, f1001, f1002, f1003, f1004, f1005, rfl, hL⟩)
          refine DH.node (listed' := #[true, true, true, true, true, true, true, true, true, true, true, true, false, false, true, true, true, false, false, false, false]) (fuel' := 6) (fun (F : Fr) (w : World) => ∃ (v821 : Value) (S822 : Nat → Prop), F 1 = (.pointer (some ⟨b4, 0, none⟩)) ∧ F 2 = (.pointer (some ⟨b6, 0, none⟩)) ∧ F 4 = (.pointer (some ⟨b21, 0, none⟩)) ∧ F 5 = (.int .i64 s_l1.2.2) ∧ F 50 = (.int .i64 a0.Boats) ∧ F 52 = v445 ∧ F 60 = v821 ∧ F 64 = v447 ∧ F 65 = v546 ∧ Hp w0 [Ent.own 2 S822 v821 x608, Ent.own 2 S547 v546 s_l2.1, Ent.frzS wz560 S446, Ent.frzS wz562 S448, Ent.blk b21 38 #[(.int .i64 a0.Boats), v445, v447], Ent.blk b6 38 #[(.int .i64 0), (.slice none 0 0), (.slice none 0 0)], Ent.blk b4 49 #[(.int .i64 a0.Boats), (.int .i64 a0.Scheme), v1], Ent.snap w0 w0.heap.size] w) ?_ (fun hN764 => ?_)
          · intro F1015 wd1016 hJ
            obtain ⟨v821, S822, f1017, f1018, f1019, f1020, f1021, f1022, f1023, f1024, f1025, hL⟩ := hJ
            refine DH.all (rs := [12, 17]) (by kernel_rfl) (by simp) ?_
            intro i1026 hi1027
            simp only [List.mem_cons, List.not_mem_nil, or_false] at hi1027
            rcases hi1027 with rfl | rfl
            · refine ⟨_, rfl, ?_⟩
              refine S_lit1 x608 rfl hL Try.underlying33 Try_T53 ((congrArg Value.cells f1023).trans (rdL_cells (hL.rdO 0 rfl))) rfl ?_
              intro wd1028 v1029 S1030 hL
              refine ⟨(hL.sel [5, 6, 7] (by decide) rfl), ?_⟩
              exact DH.relist (listed' := #[true, true, true, true, true, true, true, true, true, true, true, true, true, false, true, true, true, false, false, false, false]) (by kernel_rfl) (hN759 _ _ ⟨v1029, S1030, f1017, f1018, f1019, f1020, f1021, f1022, rfl, f1024, f1025, hL⟩)
            · refine ⟨_, rfl, ?_⟩
              have hL := hL.sel [1, 0, 2, 3, 4, 5, 6, 7] (by decide) rfl
              refine S_lit1 s_l2.1 rfl hL Try.underlying33 Try_T53 ((congrArg Value.cells f1025).trans (rdL_cells (hL.rdO 0 rfl))) rfl ?_
              intro wd1031 v1032 S1033 hL
              refine ⟨(hL.sel [5, 6, 7] (by decide) rfl), ?_⟩
              exact DH.relist (listed' := #[true, true, true, true, true, true, true, true, true, true, true, true, false, false, true, true, true, true, false, false, false]) (by kernel_rfl) (hN761 _ _ ⟨v1032, S1033, v821, S822, f1017, f1018, f1019, f1020, f1021, f1022, f1023, f1024, rfl, hL⟩)
          refine DH.node (listed' := #[true, true, true, true, true, true, true, true, true, true, true, true, false, false, true, false, true, true, false, false, false]) (fuel' := 6) (fun (F : Fr) (w : World) => ∃ (v823 : Value) (S824 : Nat → Prop) (v825 : Value) (S826 : Nat → Prop), F 1 = (.pointer (some ⟨b4, 0, none⟩)) ∧ F 2 = (.pointer (some ⟨b6, 0, none⟩)) ∧ F 4 = (.pointer (some ⟨b21, 0, none⟩)) ∧ F 5 = (.int .i64 s_l1.2.2) ∧ F 50 = (.int .i64 a0.Boats) ∧ F 52 = v445 ∧ F 60 = v825 ∧ F 63 = (.pointer (some ⟨b21, 2, none⟩)) ∧ F 66 = v823 ∧ Hp w0 [Ent.own 53 S824 v823 ([s_l2.1] : List (List Int)), Ent.own 2 S826 v825 x608, Ent.frzS wz560 S446, Ent.frzS wz562 S448, Ent.blk b21 38 #[(.int .i64 a0.Boats), v445, v447], Ent.blk b6 38 #[(.int .i64 0), (.slice none 0 0), (.slice none 0 0)], Ent.blk b4 49 #[(.int .i64 a0.Boats), (.int .i64 a0.Scheme), v1], Ent.snap w0 w0.heap.size] w) ?_ (fun hN765 => ?_)
          · intro F1034 wd1035 hJ
            obtain ⟨v823, S824, v825, S826, f1036, f1037, f1038, f1039, f1040, f1041, f1042, f1043, f1044, hL⟩ := hJ
            refine DH.all (rs := [12, 15]) (by kernel_rfl) (by simp) ?_
            intro i1045 hi1046
            simp only [List.mem_cons, List.not_mem_nil, or_false] at hi1046
            rcases hi1046 with rfl | rfl
            · refine ⟨_, rfl, ?_⟩
              have hL := hL.sel [1, 0, 2, 3, 4, 5, 6, 7] (by decide) rfl
              refine S_lit1 x608 rfl hL Try.underlying33 Try_T53 ((congrArg Value.cells f1042).trans (rdL_cells (hL.rdO 0 rfl))) rfl ?_
              intro wd1047 v1048 S1049 hL
              refine ⟨(hL.sel [5, 6, 7] (by decide) rfl), ?_⟩
              have hL := hL.sel [1, 0, 2, 3, 4, 5, 6, 7] (by decide) rfl
              exact DH.relist (listed' := #[true, true, true, true, true, true, true, true, true, true, true, true, true, false, true, false, true, true, false, false, false]) (by kernel_rfl) (hN760 _ _ ⟨v823, S824, v1048, S1049, f1036, f1037, f1038, f1039, f1040, f1041, rfl, f1043, f1044, hL⟩)
            · refine ⟨_, rfl, ?_⟩
              refine OP.val (v := v447) rfl (x_load1 Try.underlying33 rfl f1043 (hL.cellB 4 rfl rfl)) ?_
              refine ⟨(hL.sel [5, 6, 7] (by decide) rfl), ?_⟩
              exact DH.relist (listed' := #[true, true, true, true, true, true, true, true, true, true, true, true, false, false, true, true, true, true, false, false, false]) (by kernel_rfl) (hN761 _ _ ⟨v823, S824, v825, S826, f1036, f1037, f1038, f1039, f1040, f1041, f1042, rfl, f1044, hL⟩)
          refine DH.node (listed' := #[true, true, true, true, true, true, true, true, true, true, true, false, false, false, true, true, true, true, false, false, false]) (fuel' := 6) (fun (F : Fr) (w : World) => ∃ (v827 : Value) (S828 : Nat → Prop), F 1 = (.pointer (some ⟨b4, 0, none⟩)) ∧ F 2 = (.pointer (some ⟨b6, 0, none⟩)) ∧ F 4 = (.pointer (some ⟨b21, 0, none⟩)) ∧ F 5 = (.int .i64 s_l1.2.2) ∧ F 50 = (.int .i64 a0.Boats) ∧ F 52 = v445 ∧ F 57 = (.agg #[v602]) ∧ F 59 = (.int .i64 a0.Scheme) ∧ F 64 = v447 ∧ F 66 = v827 ∧ Hp w0 [Ent.own 53 S828 v827 ([s_l2.1] : List (List Int)), Ent.frzS wz560 S446, Ent.frzS wz562 S448, Ent.blk b21 38 #[(.int .i64 a0.Boats), v445, v447], Ent.blk b6 38 #[(.int .i64 0), (.slice none 0 0), (.slice none 0 0)], Ent.blk b4 49 #[(.int .i64 a0.Boats), (.int .i64 a0.Scheme), v1], Ent.snap w0 w0.heap.size] w) ?_ (fun hN766 => ?_)
          · intro F1050 wd1051 hJ
            obtain ⟨v827, S828, f1052, f1053, f1054, f1055, f1056, f1057, f1058, f1059, f1060, f1061, hL⟩ := hJ
            refine DH.only 11 rfl (by kernel_rfl) (OP.call rfl (x_call (vs := [(.agg #[v602]), (.int .i64 a0.Scheme)]) Try_C74 ⟨f1058, f1059, trivial⟩) (M.spec_l26Points_ok _ x597 (hL.rdS 6 rfl hr606) a0.Scheme hx609) ?_)
            rintro e1064 wd1065 ⟨v1063, S1062, rfl, hF1066⟩
            refine ⟨_, rfl, ?_⟩
            have hL := hL.pushAll hF1066
            simp only [List.cons_append, List.nil_append, List.set_cons_zero, List.set_cons_succ] at hL
            refine ⟨(hL.sel [5, 6, 7] (by decide) rfl), ?_⟩
            have hL := hL.sel [1, 0, 2, 3, 4, 5, 6, 7] (by decide) rfl
            exact DH.relist (listed' := #[true, true, true, true, true, true, true, true, true, true, true, true, false, false, true, true, true, true, false, false, false]) (by kernel_rfl) (hN761 _ _ ⟨v827, S828, v1063, S1062, f1052, f1053, f1054, f1055, f1056, f1057, rfl, f1060, f1061, hL⟩)
          refine DH.node (listed' := #[true, true, true, false, true, true, true, true, true, true, true, true, true, false, true, true, true, false, false, false, false]) (fuel' := 6) (fun (F : Fr) (w : World) => ∃ (v829 : Value) (S830 : Nat → Prop), F 1 = (.pointer (some ⟨b4, 0, none⟩)) ∧ F 2 = (.pointer (some ⟨b6, 0, none⟩)) ∧ F 4 = (.pointer (some ⟨b21, 0, none⟩)) ∧ F 5 = (.int .i64 s_l1.2.2) ∧ F 50 = (.int .i64 a0.Boats) ∧ F 51 = (.pointer (some ⟨b21, 1, none⟩)) ∧ F 61 = v829 ∧ F 64 = v447 ∧ F 65 = v546 ∧ Hp w0 [Ent.own 53 S830 v829 ([x608] : List (List Int)), Ent.own 2 S547 v546 s_l2.1, Ent.frzS wz560 S446, Ent.frzS wz562 S448, Ent.blk b21 38 #[(.int .i64 a0.Boats), v445, v447], Ent.blk b6 38 #[(.int .i64 0), (.slice none 0 0), (.slice none 0 0)], Ent.blk b4 49 #[(.int .i64 a0.Boats), (.int .i64 a0.Scheme), v1], Ent.snap w0 w0.heap.size] w) ?_ (fun hN767 => ?_)
          · intro F1067 wd1068 hJ
            obtain ⟨v829, S830, f1069, f1070, f1071, f1072, f1073, f1074, f1075, f1076, f1077, hL⟩ := hJ
            refine DH.all (rs := [3, 17]) (by kernel_rfl) (by simp) ?_
            intro i1078 hi1079
            simp only [List.mem_cons, List.not_mem_nil, or_false] at hi1079
            rcases hi1079 with rfl | rfl
            · refine ⟨_, rfl, ?_⟩
              refine OP.val (v := v445) rfl (x_load1 Try.underlying33 rfl f1074 (hL.cellB 4 rfl rfl)) ?_
              refine ⟨(hL.sel [5, 6, 7] (by decide) rfl), ?_⟩
              exact DH.relist (listed' := #[true, true, true, true, true, true, true, true, true, true, true, true, true, false, true, true, true, false, false, false, false]) (by kernel_rfl) (hN759 _ _ ⟨v829, S830, f1069, f1070, f1071, f1072, f1073, rfl, f1075, f1076, f1077, hL⟩)
            · refine ⟨_, rfl, ?_⟩
              have hL := hL.sel [1, 0, 2, 3, 4, 5, 6, 7] (by decide) rfl
              refine S_lit1 s_l2.1 rfl hL Try.underlying33 Try_T53 ((congrArg Value.cells f1077).trans (rdL_cells (hL.rdO 0 rfl))) rfl ?_
              intro wd1080 v1081 S1082 hL
              refine ⟨(hL.sel [5, 6, 7] (by decide) rfl), ?_⟩
              exact DH.relist (listed' := #[true, true, true, false, true, true, true, true, true, true, true, true, true, false, true, true, true, true, false, false, false]) (by kernel_rfl) (hN762 _ _ ⟨v1081, S1082, v829, S830, f1069, f1070, f1071, f1072, f1073, f1074, f1075, f1076, rfl, hL⟩)
          refine DH.node (listed' := #[true, true, true, false, true, true, true, true, true, true, true, true, true, false, true, false, true, true, false, false, false]) (fuel' := 6) (fun (F : Fr) (w : World) => ∃ (v831 : Value) (S832 : Nat → Prop) (v833 : Value) (S834 : Nat → Prop), F 1 = (.pointer (some ⟨b4, 0, none⟩)) ∧ F 2 = (.pointer (some ⟨b6, 0, none⟩)) ∧ F 4 = (.pointer (some ⟨b21, 0, none⟩)) ∧ F 5 = (.int .i64 s_l1.2.2) ∧ F 50 = (.int .i64 a0.Boats) ∧ F 51 = (.pointer (some ⟨b21, 1, none⟩)) ∧ F 61 = v833 ∧ F 63 = (.pointer (some ⟨b21, 2, none⟩)) ∧ F 66 = v831 ∧ Hp w0 [Ent.own 53 S832 v831 ([s_l2.1] : List (List Int)), Ent.own 53 S834 v833 ([x608] : List (List Int)), Ent.frzS wz560 S446, Ent.frzS wz562 S448, Ent.blk b21 38 #[(.int .i64 a0.Boats), v445, v447], Ent.blk b6 38 #[(.int .i64 0), (.slice none 0 0), (.slice none 0 0)], Ent.blk b4 49 #[(.int .i64 a0.Boats), (.int .i64 a0.Scheme), v1], Ent.snap w0 w0.heap.size] w) ?_ (fun hN768 => ?_)
          · intro F1083 wd1084 hJ
            obtain ⟨v831, S832, v833, S834, f1085, f1086, f1087, f1088, f1089, f1090, f1091, f1092, f1093, hL⟩ := hJ
            refine DH.all (rs := [3, 15]) (by kernel_rfl) (by simp) ?_
            intro i1094 hi1095
            simp only [List.mem_cons, List.not_mem_nil, or_false] at hi1095
            rcases hi1095 with rfl | rfl
            · refine ⟨_, rfl, ?_⟩
              refine OP.val (v := v445) rfl (x_load1 Try.underlying33 rfl f1090 (hL.cellB 4 rfl rfl)) ?_
              refine ⟨(hL.sel [5, 6, 7] (by decide) rfl), ?_⟩
              exact DH.relist (listed' := #[true, true, true, true, true, true, true, true, true, true, true, true, true, false, true, false, true, true, false, false, false]) (by kernel_rfl) (hN760 _ _ ⟨v831, S832, v833, S834, f1085, f1086, f1087, f1088, f1089, rfl, f1091, f1092, f1093, hL⟩)
            · refine ⟨_, rfl, ?_⟩
              refine OP.val (v := v447) rfl (x_load1 Try.underlying33 rfl f1092 (hL.cellB 4 rfl rfl)) ?_
              refine ⟨(hL.sel [5, 6, 7] (by decide) rfl), ?_⟩
              exact DH.relist (listed' := #[true, true, true, false, true, true, true, true, true, true, true, true, true, false, true, true, true, true, false, false, false]) (by kernel_rfl) (hN762 _ _ ⟨v831, S832, v833, S834, f1085, f1086, f1087, f1088, f1089, f1090, f1091, rfl, f1093, hL⟩)
          refine DH.node (listed' := #[true, true, true, false, true, true, true, true, true, true, true, true, false, false, true, true, true, true, false, false, false]) (fuel' := 6) (fun (F : Fr) (w : World) => ∃ (v835 : Value) (S836 : Nat → Prop) (v837 : Value) (S838 : Nat → Prop), F 1 = (.pointer (some ⟨b4, 0, none⟩)) ∧ F 2 = (.pointer (some ⟨b6, 0, none⟩)) ∧ F 4 = (.pointer (some ⟨b21, 0, none⟩)) ∧ F 5 = (.int .i64 s_l1.2.2) ∧ F 50 = (.int .i64 a0.Boats) ∧ F 51 = (.pointer (some ⟨b21, 1, none⟩)) ∧ F 60 = v837 ∧ F 64 = v447 ∧ F 66 = v835 ∧ Hp w0 [Ent.own 53 S836 v835 ([s_l2.1] : List (List Int)), Ent.own 2 S838 v837 x608, Ent.frzS wz560 S446, Ent.frzS wz562 S448, Ent.blk b21 38 #[(.int .i64 a0.Boats), v445, v447], Ent.blk b6 38 #[(.int .i64 0), (.slice none 0 0), (.slice none 0 0)], Ent.blk b4 49 #[(.int .i64 a0.Boats), (.int .i64 a0.Scheme), v1], Ent.snap w0 w0.heap.size] w) ?_ (fun hN769 => ?_)
          · intro F1096 wd1097 hJ
            obtain ⟨v835, S836, v837, S838, f1098, f1099, f1100, f1101, f1102, f1103, f1104, f1105, f1106, hL⟩ := hJ
            refine DH.all (rs := [3, 12]) (by kernel_rfl) (by simp) ?_
            intro i1107 hi1108
            simp only [List.mem_cons, List.not_mem_nil, or_false] at hi1108
            rcases hi1108 with rfl | rfl
            · refine ⟨_, rfl, ?_⟩
              refine OP.val (v := v445) rfl (x_load1 Try.underlying33 rfl f1103 (hL.cellB 4 rfl rfl)) ?_
              refine ⟨(hL.sel [5, 6, 7] (by decide) rfl), ?_⟩
              exact DH.relist (listed' := #[true, true, true, true, true, true, true, true, true, true, true, true, false, false, true, true, true, true, false, false, false]) (by kernel_rfl) (hN761 _ _ ⟨v835, S836, v837, S838, f1098, f1099, f1100, f1101, f1102, rfl, f1104, f1105, f1106, hL⟩)
            · refine ⟨_, rfl, ?_⟩
              have hL := hL.sel [1, 0, 2, 3, 4, 5, 6, 7] (by decide) rfl
              refine S_lit1 x608 rfl hL Try.underlying33 Try_T53 ((congrArg Value.cells f1104).trans (rdL_cells (hL.rdO 0 rfl))) rfl ?_
              intro wd1109 v1110 S1111 hL
              refine ⟨(hL.sel [5, 6, 7] (by decide) rfl), ?_⟩
              have hL := hL.sel [1, 0, 2, 3, 4, 5, 6, 7] (by decide) rfl
              exact DH.relist (listed' := #[true, true, true, false, true, true, true, true, true, true, true, true, true, false, true, true, true, true, false, false, false]) (by kernel_rfl) (hN762 _ _ ⟨v835, S836, v1110, S1111, f1098, f1099, f1100, f1101, f1102, f1103, rfl, f1105, f1106, hL⟩)
          refine DH.node (listed' := #[true, true, true, true, true, true, true, true, true, true, true, true, false, false, true, false, true, false, false, false, false]) (fuel' := 7) (fun (F : Fr) (w : World) => ∃ (v839 : Value) (S840 : Nat → Prop), F 1 = (.pointer (some ⟨b4, 0, none⟩)) ∧ F 2 = (.pointer (some ⟨b6, 0, none⟩)) ∧ F 4 = (.pointer (some ⟨b21, 0, none⟩)) ∧ F 5 = (.int .i64 s_l1.2.2) ∧ F 50 = (.int .i64 a0.Boats) ∧ F 52 = v445 ∧ F 60 = v839 ∧ F 63 = (.pointer (some ⟨b21, 2, none⟩)) ∧ F 65 = v546 ∧ Hp w0 [Ent.own 2 S840 v839 x608, Ent.own 2 S547 v546 s_l2.1, Ent.frzS wz560 S446, Ent.frzS wz562 S448, Ent.blk b21 38 #[(.int .i64 a0.Boats), v445, v447], Ent.blk b6 38 #[(.int .i64 0), (.slice none 0 0), (.slice none 0 0)], Ent.blk b4 49 #[(.int .i64 a0.Boats), (.int .i64 a0.Scheme), v1], Ent.snap w0 w0.heap.size] w) ?_ (fun hN770 => ?_)
          · intro F1112 wd1113 hJ
            obtain ⟨v839, S840, f1114, f1115, f1116, f1117, f1118, f1119, f1120, f1121, f1122, hL⟩ := hJ
            refine DH.all (rs := [12, 15, 17]) (by kernel_rfl) (by simp) ?_
            intro i1123 hi1124
            simp only [List.mem_cons, List.not_mem_nil, or_false] at hi1124
            rcases hi1124 with rfl | rfl | rfl
            · refine ⟨_, rfl, ?_⟩
              refine S_lit1 x608 rfl hL Try.underlying33 Try_T53 ((congrArg Value.cells f1120).trans (rdL_cells (hL.rdO 0 rfl))) rfl ?_
              intro wd1125 v1126 S1127 hL
              refine ⟨(hL.sel [5, 6, 7] (by decide) rfl), ?_⟩
              exact DH.relist (listed' := #[true, true, true, true, true, true, true, true, true, true, true, true, true, false, true, false, true, false, false, false, false]) (by kernel_rfl) (hN763 _ _ ⟨v1126, S1127, f1114, f1115, f1116, f1117, f1118, f1119, rfl, f1121, f1122, hL⟩)
            · refine ⟨_, rfl, ?_⟩
              refine OP.val (v := v447) rfl (x_load1 Try.underlying33 rfl f1121 (hL.cellB 4 rfl rfl)) ?_
              refine ⟨(hL.sel [5, 6, 7] (by decide) rfl), ?_⟩
              exact DH.relist (listed' := #[true, true, true, true, true, true, true, true, true, true, true, true, false, false, true, true, true, false, false, false, false]) (by kernel_rfl) (hN764 _ _ ⟨v839, S840, f1114, f1115, f1116, f1117, f1118, f1119, f1120, rfl, f1122, hL⟩)
            · refine ⟨_, rfl, ?_⟩
              have hL := hL.sel [1, 0, 2, 3, 4, 5, 6, 7] (by decide) rfl
              refine S_lit1 s_l2.1 rfl hL Try.underlying33 Try_T53 ((congrArg Value.cells f1122).trans (rdL_cells (hL.rdO 0 rfl))) rfl ?_
              intro wd1128 v1129 S1130 hL
              refine ⟨(hL.sel [5, 6, 7] (by decide) rfl), ?_⟩
              exact DH.relist (listed' := #[true, true, true, true, true, true, true, true, true, true, true, true, false, false, true, false, true, true, false, false, false]) (by kernel_rfl) (hN765 _ _ ⟨v1129, S1130, v839, S840, f1114, f1115, f1116, f1117, f1118, f1119, f1120, f1121, rfl, hL⟩)
          refine DH.node (listed' := #[true, true, true, true, true, true, true, true, true, true, true, false, false, false, true, true, true, false, false, false, false]) (fuel' := 7) (fun (F : Fr) (w : World) => F 1 = (.pointer (some ⟨b4, 0, none⟩)) ∧ F 2 = (.pointer (some ⟨b6, 0, none⟩)) ∧ F 4 = (.pointer (some ⟨b21, 0, none⟩)) ∧ F 5 = (.int .i64 s_l1.2.2) ∧ F 50 = (.int .i64 a0.Boats) ∧ F 52 = v445 ∧ F 57 = (.agg #[v602]) ∧ F 59 = (.int .i64 a0.Scheme) ∧ F 64 = v447 ∧ F 65 = v546 ∧ Hp w0 [Ent.own 2 S547 v546 s_l2.1, Ent.frzS wz560 S446, Ent.frzS wz562 S448, Ent.blk b21 38 #[(.int .i64 a0.Boats), v445, v447], Ent.blk b6 38 #[(.int .i64 0), (.slice none 0 0), (.slice none 0 0)], Ent.blk b4 49 #[(.int .i64 a0.Boats), (.int .i64 a0.Scheme), v1], Ent.snap w0 w0.heap.size] w) ?_ (fun hN771 => ?_)
          · intro F1131 wd1132 hJ
            obtain ⟨f1133, f1134, f1135, f1136, f1137, f1138, f1139, f1140, f1141, f1142, hL⟩ := hJ
            refine DH.all (rs := [11, 17]) (by kernel_rfl) (by simp) ?_
            intro i1143 hi1144
            simp only [List.mem_cons, List.not_mem_nil, or_false] at hi1144
            rcases hi1144 with rfl | rfl
            · refine ⟨_, rfl, ?_⟩
              refine OP.call rfl (x_call (vs := [(.agg #[v602]), (.int .i64 a0.Scheme)]) Try_C74 ⟨f1139, f1140, trivial⟩) (M.spec_l26Points_ok _ x597 (hL.rdS 6 rfl hr606) a0.Scheme hx609) ?_
              rintro e1147 wd1148 ⟨v1146, S1145, rfl, hF1149⟩
              refine ⟨_, rfl, ?_⟩
              have hL := hL.pushAll hF1149
              simp only [List.cons_append, List.nil_append, List.set_cons_zero, List.set_cons_succ] at hL
              refine ⟨(hL.sel [5, 6, 7] (by decide) rfl), ?_⟩
              exact DH.relist (listed' := #[true, true, true, true, true, true, true, true, true, true, true, true, false, false, true, true, true, false, false, false, false]) (by kernel_rfl) (hN764 _ _ ⟨v1146, S1145, f1133, f1134, f1135, f1136, f1137, f1138, rfl, f1141, f1142, hL⟩)
            · refine ⟨_, rfl, ?_⟩
              refine S_lit1 s_l2.1 rfl hL Try.underlying33 Try_T53 ((congrArg Value.cells f1142).trans (rdL_cells (hL.rdO 0 rfl))) rfl ?_
              intro wd1150 v1151 S1152 hL
              refine ⟨(hL.sel [4, 5, 6] (by decide) rfl), ?_⟩
              exact DH.relist (listed' := #[true, true, true, true, true, true, true, true, true, true, true, false, false, false, true, true, true, true, false, false, false]) (by kernel_rfl) (hN766 _ _ ⟨v1151, S1152, f1133, f1134, f1135, f1136, f1137, f1138, f1139, f1140, f1141, rfl, hL⟩)
          refine DH.node (listed' := #[true, true, true, true, true, true, true, true, true, true, true, false, false, false, true, false, true, true, false, false, false]) (fuel' := 7) (fun (F : Fr) (w : World) => ∃ (v841 : Value) (S842 : Nat → Prop), F 1 = (.pointer (some ⟨b4, 0, none⟩)) ∧ F 2 = (.pointer (some ⟨b6, 0, none⟩)) ∧ F 4 = (.pointer (some ⟨b21, 0, none⟩)) ∧ F 5 = (.int .i64 s_l1.2.2) ∧ F 50 = (.int .i64 a0.Boats) ∧ F 52 = v445 ∧ F 57 = (.agg #[v602]) ∧ F 59 = (.int .i64 a0.Scheme) ∧ F 63 = (.pointer (some ⟨b21, 2, none⟩)) ∧ F 66 = v841 ∧ Hp w0 [Ent.own 53 S842 v841 ([s_l2.1] : List (List Int)), Ent.frzS wz560 S446, Ent.frzS wz562 S448, Ent.blk b21 38 #[(.int .i64 a0.Boats), v445, v447], Ent.blk b6 38 #[(.int .i64 0), (.slice none 0 0), (.slice none 0 0)], Ent.blk b4 49 #[(.int .i64 a0.Boats), (.int .i64 a0.Scheme), v1], Ent.snap w0 w0.heap.size] w) ?_ (fun hN772 => ?_)
          · intro F1153 wd1154 hJ
            obtain ⟨v841, S842, f1155, f1156, f1157, f1158, f1159, f1160, f1161, f1162, f1163, f1164, hL⟩ := hJ
            refine DH.all (rs := [11, 15]) (by kernel_rfl) (by simp) ?_
            intro i1165 hi1166
            simp only [List.mem_cons, List.not_mem_nil, or_false] at hi1166
            rcases hi1166 with rfl | rfl
            · refine ⟨_, rfl, ?_⟩
              refine OP.call rfl (x_call (vs := [(.agg #[v602]), (.int .i64 a0.Scheme)]) Try_C74 ⟨f1161, f1162, trivial⟩) (M.spec_l26Points_ok _ x597 (hL.rdS 6 rfl hr606) a0.Scheme hx609) ?_
              rintro e1169 wd1170 ⟨v1168, S1167, rfl, hF1171⟩
              refine ⟨_, rfl, ?_⟩
              have hL := hL.pushAll hF1171
              simp only [List.cons_append, List.nil_append, List.set_cons_zero, List.set_cons_succ] at hL
              refine ⟨(hL.sel [5, 6, 7] (by decide) rfl), ?_⟩
              have hL := hL.sel [1, 0, 2, 3, 4, 5, 6, 7] (by decide) rfl
              exact DH.relist (listed' := #[true, true, true, true, true, true, true, true, true, true, true, true, false, false, true, false, true, true, false, false, false]) (by kernel_rfl) (hN765 _ _ ⟨v841, S842, v1168, S1167, f1155, f1156, f1157, f1158, f1159, f1160, rfl, f1163, f1164, hL⟩)
            · refine ⟨_, rfl, ?_⟩
              refine OP.val (v := v447) rfl (x_load1 Try.underlying33 rfl f1163 (hL.cellB 3 rfl rfl)) ?_
              refine ⟨(hL.sel [4, 5, 6] (by decide) rfl), ?_⟩
              exact DH.relist (listed' := #[true, true, true, true, true, true, true, true, true, true, true, false, false, false, true, true, true, true, false, false, false]) (by kernel_rfl) (hN766 _ _ ⟨v841, S842, f1155, f1156, f1157, f1158, f1159, f1160, f1161, f1162, rfl, f1164, hL⟩)
          refine DH.node (listed' := #[true, true, true, false, true, true, true, true, true, true, true, true, true, false, true, false, true, false, false, false, false]) (fuel' := 7) (fun (F : Fr) (w : World) => ∃ (v843 : Value) (S844 : Nat → Prop), F 1 = (.pointer (some ⟨b4, 0, none⟩)) ∧ F 2 = (.pointer (some ⟨b6, 0, none⟩)) ∧ F 4 = (.pointer (some ⟨b21, 0, none⟩)) ∧ F 5 = (.int .i64 s_l1.2.2) ∧ F 50 = (.int .i64 a0.Boats) ∧ F 51 = (.pointer (some ⟨b21, 1, none⟩)) ∧ F 61 = v843 ∧ F 63 = (.pointer (some ⟨b21, 2, none⟩)) ∧ F 65 = v546 ∧ Hp w0 [Ent.own 53 S844 v843 ([x608] : List (List Int)), Ent.own 2 S547 v546 s_l2.1, Ent.frzS wz560 S446, Ent.frzS wz562 S448, Ent.blk b21 38 #[(.int .i64 a0.Boats), v445, v447], Ent.blk b6 38 #[(.int .i64 0), (.slice none 0 0), (.slice none 0 0)], Ent.blk b4 49 #[(.int .i64 a0.Boats), (.int .i64 a0.Scheme), v1], Ent.snap w0 w0.heap.size] w) ?_ (fun hN773 => ?_)
          · intro F1172 wd1173 hJ
            obtain ⟨v843, S844, f1174, f1175, f1176, f1177, f1178, f1179, f1180, f1181, f1182, hL⟩ := hJ
            refine DH.all (rs := [3, 15, 17]) (by kernel_rfl) (by simp) ?_
            intro i1183 hi1184
            simp only [List.mem_cons, List.not_mem_nil, or_false] at hi1184
            rcases hi1184 with rfl | rfl | rfl
            · refine ⟨_, rfl, ?_⟩
              refine OP.val (v := v445) rfl (x_load1 Try.underlying33 rfl f1179 (hL.cellB 4 rfl rfl)) ?_
              refine ⟨(hL.sel [5, 6, 7] (by decide) rfl), ?_⟩
              exact DH.relist (listed' := #[true, true, true, true, true, true, true, true, true, true, true, true, true, false, true, false, true, false, false, false, false]) (by kernel_rfl) (hN763 _ _ ⟨v843, S844, f1174, f1175, f1176, f1177, f1178, rfl, f1180, f1181, f1182, hL⟩)
            · refine ⟨_, rfl, ?_⟩
              refine OP.val (v := v447) rfl (x_load1 Try.underlying33 rfl f1181 (hL.cellB 4 rfl rfl)) ?_
              refine ⟨(hL.sel [5, 6, 7] (by decide) rfl), ?_⟩
              exact DH.relist (listed' := #[true, true, true, false, true, true, true, true, true, true, true, true, true, false, true, true, true, false, false, false, false]) (by kernel_rfl) (hN767 _ _ ⟨v843, S844, f1174, f1175, f1176, f1177, f1178, f1179, f1180, rfl, f1182, hL⟩)
            · refine ⟨_, rfl, ?_⟩
              have hL := hL.sel [1, 0, 2, 3, 4, 5, 6, 7] (by decide) rfl
              refine S_lit1 s_l2.1 rfl hL Try.underlying33 Try_T53 ((congrArg Value.cells f1182).trans (rdL_cells (hL.rdO 0 rfl))) rfl ?_
              intro wd1185 v1186 S1187 hL
              refine ⟨(hL.sel [5, 6, 7] (by decide) rfl), ?_⟩
              exact DH.relist (listed' := #[true, true, true, false, true, true, true, true, true, true, true, true, true, false, true, false, true, true, false, false, false]) (by kernel_rfl) (hN768 _ _ ⟨v1186, S1187, v843, S844, f1174, f1175, f1176, f1177, f1178, f1179, f1180, f1181, rfl, hL⟩)
          refine DH.node (listed' := #[true, true, true, false, true, true, true, true, true, true, true, true, false, false, true, true, true, false, false, false, false]) (fuel' := 7) (fun (F : Fr) (w : World) => ∃ (v845 : Value) (S846 : Nat → Prop), F 1 = (.pointer (some ⟨b4, 0, none⟩)) ∧ F 2 = (.pointer (some ⟨b6, 0, none⟩)) ∧ F 4 = (.pointer (some ⟨b21, 0, none⟩)) ∧ F 5 = (.int .i64 s_l1.2.2) ∧ F 50 = (.int .i64 a0.Boats) ∧ F 51 = (.pointer (some ⟨b21, 1, none⟩)) ∧ F 60 = v845 ∧ F 64 = v447 ∧ F 65 = v546 ∧ Hp w0 [Ent.own 2 S846 v845 x608, Ent.own 2 S547 v546 s_l2.1, Ent.frzS wz560 S446, Ent.frzS wz562 S448, Ent.blk b21 38 #[(.int .i64 a0.Boats), v445, v447], Ent.blk b6 38 #[(.int .i64 0), (.slice none 0 0), (.slice none 0 0)], Ent.blk b4 49 #[(.int .i64 a0.Boats), (.int .i64 a0.Scheme), v1], Ent.snap w0 w0.heap.size] w) ?_ (fun hN774 => ?_)
          · intro F1188 wd1189 hJ
            obtain ⟨v845, S846, f1190, f1191, f1192, f1193, f1194, f1195, f1196, f1197, f1198, hL⟩ := hJ
            refine DH.all (rs := [3, 12, 17]) (by kernel_rfl) (by simp) ?_
            intro i1199 hi1200
            simp only [List.mem_cons, List.not_mem_nil, or_false] at hi1200
            rcases hi1200 with rfl | rfl | rfl
            · refine ⟨_, rfl, ?_⟩
              refine OP.val (v := v445) rfl (x_load1 Try.underlying33 rfl f1195 (hL.cellB 4 rfl rfl)) ?_
              refine ⟨(hL.sel [5, 6, 7] (by decide) rfl), ?_⟩
              exact DH.relist (listed' := #[true, true, true, true, true, true, true, true, true, true, true, true, false, false, true, true, true, false, false, false, false]) (by kernel_rfl) (hN764 _ _ ⟨v845, S846, f1190, f1191, f1192, f1193, f1194, rfl, f1196, f1197, f1198, hL⟩)
            · refine ⟨_, rfl, ?_⟩
              refine S_lit1 x608 rfl hL Try.underlying33 Try_T53 ((congrArg Value.cells f1196).trans (rdL_cells (hL.rdO 0 rfl))) rfl ?_
              intro wd1201 v1202 S1203 hL
              refine ⟨(hL.sel [5, 6, 7] (by decide) rfl), ?_⟩
              exact DH.relist (listed' := #[true, true, true, false, true, true, true, true, true, true, true, true, true, false, true, true, true, false, false, false, false]) (by kernel_rfl) (hN767 _ _ ⟨v1202, S1203, f1190, f1191, f1192, f1193, f1194, f1195, rfl, f1197, f1198, hL⟩)
            · refine ⟨_, rfl, ?_⟩
              have hL := hL.sel [1, 0, 2, 3, 4, 5, 6, 7] (by decide) rfl
              refine S_lit1 s_l2.1 rfl hL Try.underlying33 Try_T53 ((congrArg Value.cells f1198).trans (rdL_cells (hL.rdO 0 rfl))) rfl ?_
              intro wd1204 v1205 S1206 hL
              refine ⟨(hL.sel [5, 6, 7] (by decide) rfl), ?_⟩
              exact DH.relist (listed' := #[true, true, true, false, true, true, true, true, true, true, true, true, false, false, true, true, true, true, false, false, false]) (by kernel_rfl) (hN769 _ _ ⟨v1205, S1206, v845, S846, f1190, f1191, f1192, f1193, f1194, f1195, f1196, f1197, rfl, hL⟩)
          refine DH.node (listed' := #[true, true, true, false, true, true, true, true, true, true, true, true, false, false, true, false, true, true, false, false, false]) (fuel' := 7) (fun (F : Fr) (w : World) => ∃ (v847 : Value) (S848 : Nat → Prop) (v849 : Value) (S850 : Nat → Prop), F 1 = (.pointer (some ⟨b4, 0, none⟩)) ∧ F 2 = (.pointer (some ⟨b6, 0, none⟩)) ∧ F 4 = (.pointer (some ⟨b21, 0, none⟩)) ∧ F 5 = (.int .i64 s_l1.2.2) ∧ F 50 = (.int .i64 a0.Boats) ∧ F 51 = (.pointer (some ⟨b21, 1, none⟩)) ∧ F 60 = v849 ∧ F 63 = (.pointer (some ⟨b21, 2, none⟩)) ∧ F 66 = v847 ∧ Hp w0 [Ent.own 53 S848 v847 ([s_l2.1] : List (List Int)), Ent.own 2 S850 v849 x608, Ent.frzS wz560 S446, Ent.frzS wz562 S448, Ent.blk b21 38 #[(.int .i64 a0.Boats), v445, v447], Ent.blk b6 38 #[(.int .i64 0), (.slice none 0 0), (.slice none 0 0)], Ent.blk b4 49 #[(.int .i64 a0.Boats), (.int .i64 a0.Scheme), v1], Ent.snap w0 w0.heap.size] w) ?_ (fun hN775 => ?_)
          · intro F1207 wd1208 hJ
            obtain ⟨v847, S848, v849, S850, f1209, f1210, f1211, f1212, f1213, f1214, f1215, f1216, f1217, hL⟩ := hJ
            refine DH.all (rs := [3, 12, 15]) (by kernel_rfl) (by simp) ?_
            intro i1218 hi1219
            simp only [List.mem_cons, List.not_mem_nil, or_false] at hi1219
            rcases hi1219 with rfl | rfl | rfl
            · refine ⟨_, rfl, ?_⟩
              refine OP.val (v := v445) rfl (x_load1 Try.underlying33 rfl f1214 (hL.cellB 4 rfl rfl)) ?_
              refine ⟨(hL.sel [5, 6, 7] (by decide) rfl), ?_⟩
              exact DH.relist (listed' := #[true, true, true, true, true, true, true, true, true, true, true, true, false, false, true, false, true, true, false, false, false]) (by kernel_rfl) (hN765 _ _ ⟨v847, S848, v849, S850, f1209, f1210, f1211, f1212, f1213, rfl, f1215, f1216, f1217, hL⟩)
            · refine ⟨_, rfl, ?_⟩
              have hL := hL.sel [1, 0, 2, 3, 4, 5, 6, 7] (by decide) rfl
              refine S_lit1 x608 rfl hL Try.underlying33 Try_T53 ((congrArg Value.cells f1215).trans (rdL_cells (hL.rdO 0 rfl))) rfl ?_
              intro wd1220 v1221 S1222 hL
              refine ⟨(hL.sel [5, 6, 7] (by decide) rfl), ?_⟩
              have hL := hL.sel [1, 0, 2, 3, 4, 5, 6, 7] (by decide) rfl
              exact DH.relist (listed' := #[true, true, true, false, true, true, true, true, true, true, true, true, true, false, true, false, true, true, false, false, false]) (by kernel_rfl) (hN768 _ _ ⟨v847, S848, v1221, S1222, f1209, f1210, f1211, f1212, f1213, f1214, rfl, f1216, f1217, hL⟩)
            · refine ⟨_, rfl, ?_⟩
              refine OP.val (v := v447) rfl (x_load1 Try.underlying33 rfl f1216 (hL.cellB 4 rfl rfl)) ?_
              refine ⟨(hL.sel [5, 6, 7] (by decide) rfl), ?_⟩
              exact DH.relist (listed' := #[true, true, true, false, true, true, true, true, true, true, true, true, false, false, true, true, true, true, false, false, false]) (by kernel_rfl) (hN769 _ _ ⟨v847, S848, v849, S850, f1209, f1210, f1211, f1212, f1213, f1214, f1215, rfl, f1217, hL⟩)
          refine DH.node (listed' := #[true, true, true, false, true, true, true, true, true, true, true, false, false, false, true, true, true, true, false, false, false]) (fuel' := 7) (fun (F : Fr) (w : World) => ∃ (v851 : Value) (S852 : Nat → Prop), F 1 = (.pointer (some ⟨b4, 0, none⟩)) ∧ F 2 = (.pointer (some ⟨b6, 0, none⟩)) ∧ F 4 = (.pointer (some ⟨b21, 0, none⟩)) ∧ F 5 = (.int .i64 s_l1.2.2) ∧ F 50 = (.int .i64 a0.Boats) ∧ F 51 = (.pointer (some ⟨b21, 1, none⟩)) ∧ F 57 = (.agg #[v602]) ∧ F 59 = (.int .i64 a0.Scheme) ∧ F 64 = v447 ∧ F 66 = v851 ∧ Hp w0 [Ent.own 53 S852 v851 ([s_l2.1] : List (List Int)), Ent.frzS wz560 S446, Ent.frzS wz562 S448, Ent.blk b21 38 #[(.int .i64 a0.Boats), v445, v447], Ent.blk b6 38 #[(.int .i64 0), (.slice none 0 0), (.slice none 0 0)], Ent.blk b4 49 #[(.int .i64 a0.Boats), (.int .i64 a0.Scheme), v1], Ent.snap w0 w0.heap.size] w) ?_ (fun hN776 => ?_)
          · intro F1223 wd1224 hJ
            obtain ⟨v851, S852, f1225, f1226, f1227, f1228, f1229, f1230, f1231, f1232, f1233, f1234, hL⟩ := hJ
            refine DH.all (rs := [3, 11]) (by kernel_rfl) (by simp) ?_
            intro i1235 hi1236
            simp only [List.mem_cons, List.not_mem_nil, or_false] at hi1236
            rcases hi1236 with rfl | rfl
            · refine ⟨_, rfl, ?_⟩
              refine OP.val (v := v445) rfl (x_load1 Try.underlying33 rfl f1230 (hL.cellB 3 rfl rfl)) ?_
              refine ⟨(hL.sel [4, 5, 6] (by decide) rfl), ?_⟩
              exact DH.relist (listed' := #[true, true, true, true, true, true, true, true, true, true, true, false, false, false, true, true, true, true, false, false, false]) (by kernel_rfl) (hN766 _ _ ⟨v851, S852, f1225, f1226, f1227, f1228, f1229, rfl, f1231, f1232, f1233, f1234, hL⟩)
            · refine ⟨_, rfl, ?_⟩
              refine OP.call rfl (x_call (vs := [(.agg #[v602]), (.int .i64 a0.Scheme)]) Try_C74 ⟨f1231, f1232, trivial⟩) (M.spec_l26Points_ok _ x597 (hL.rdS 6 rfl hr606) a0.Scheme hx609) ?_
              rintro e1239 wd1240 ⟨v1238, S1237, rfl, hF1241⟩
              refine ⟨_, rfl, ?_⟩
              have hL := hL.pushAll hF1241
              simp only [List.cons_append, List.nil_append, List.set_cons_zero, List.set_cons_succ] at hL
              refine ⟨(hL.sel [5, 6, 7] (by decide) rfl), ?_⟩
              have hL := hL.sel [1, 0, 2, 3, 4, 5, 6, 7] (by decide) rfl
              exact DH.relist (listed' := #[true, true, true, false, true, true, true, true, true, true, true, true, false, false, true, true, true, true, false, false, false]) (by kernel_rfl) (hN769 _ _ ⟨v851, S852, v1238, S1237, f1225, f1226, f1227, f1228, f1229, f1230, rfl, f1233, f1234, hL⟩)
          refine DH.node (listed' := #[true, true, true, true, true, true, true, true, true, true, true, false, false, false, true, false, true, false, false, false, false]) (fuel' := 8) (fun (F : Fr) (w : World) => F 1 = (.pointer (some ⟨b4, 0, none⟩)) ∧ F 2 = (.pointer (some ⟨b6, 0, none⟩)) ∧ F 4 = (.pointer (some ⟨b21, 0, none⟩)) ∧ F 5 = (.int .i64 s_l1.2.2) ∧ F 50 = (.int .i64 a0.Boats) ∧ F 52 = v445 ∧ F 57 = (.agg #[v602]) ∧ F 59 = (.int .i64 a0.Scheme) ∧ F 63 = (.pointer (some ⟨b21, 2, none⟩)) ∧ F 65 = v546 ∧ Hp w0 [Ent.own 2 S547 v546 s_l2.1, Ent.frzS wz560 S446, Ent.frzS wz562 S448, Ent.blk b21 38 #[(.int .i64 a0.Boats), v445, v447], Ent.blk b6 38 #[(.int .i64 0), (.slice none 0 0), (.slice none 0 0)], Ent.blk b4 49 #[(.int .i64 a0.Boats), (.int .i64 a0.Scheme), v1], Ent.snap w0 w0.heap.size] w) ?_ (fun hN777 => ?_)
          · intro F1242 wd1243 hJ
            obtain ⟨f1244, f1245, f1246, f1247, f1248, f1249, f1250, f1251, f1252, f1253, hL⟩ := hJ
            refine DH.all (rs := [11, 15, 17]) (by kernel_rfl) (by simp) ?_
            intro i1254 hi1255
            simp only [List.mem_cons, List.not_mem_nil, or_false] at hi1255
            rcases hi1255 with rfl | rfl | rfl
            · refine ⟨_, rfl, ?_⟩
              refine OP.call rfl (x_call (vs := [(.agg #[v602]), (.int .i64 a0.Scheme)]) Try_C74 ⟨f1250, f1251, trivial⟩) (M.spec_l26Points_ok _ x597 (hL.rdS 6 rfl hr606) a0.Scheme hx609) ?_
              rintro e1258 wd1259 ⟨v1257, S1256, rfl, hF1260⟩
              refine ⟨_, rfl, ?_⟩
              have hL := hL.pushAll hF1260
              simp only [List.cons_append, List.nil_append, List.set_cons_zero, List.set_cons_succ] at hL
              refine ⟨(hL.sel [5, 6, 7] (by decide) rfl), ?_⟩
              exact DH.relist (listed' := #[true, true, true, true, true, true, true, true, true, true, true, true, false, false, true, false, true, false, false, false, false]) (by kernel_rfl) (hN770 _ _ ⟨v1257, S1256, f1244, f1245, f1246, f1247, f1248, f1249, rfl, f1252, f1253, hL⟩)
            · refine ⟨_, rfl, ?_⟩
              refine OP.val (v := v447) rfl (x_load1 Try.underlying33 rfl f1252 (hL.cellB 3 rfl rfl)) ?_
              refine ⟨(hL.sel [4, 5, 6] (by decide) rfl), ?_⟩
              exact DH.relist (listed' := #[true, true, true, true, true, true, true, true, true, true, true, false, false, false, true, true, true, false, false, false, false]) (by kernel_rfl) (hN771 _ _ ⟨f1244, f1245, f1246, f1247, f1248, f1249, f1250, f1251, rfl, f1253, hL⟩)
            · refine ⟨_, rfl, ?_⟩
              refine S_lit1 s_l2.1 rfl hL Try.underlying33 Try_T53 ((congrArg Value.cells f1253).trans (rdL_cells (hL.rdO 0 rfl))) rfl ?_
              intro wd1261 v1262 S1263 hL
              refine ⟨(hL.sel [4, 5, 6] (by decide) rfl), ?_⟩
              exact DH.relist (listed' := #[true, true, true, true, true, true, true, true, true, true, true, false, false, false, true, false, true, true, false, false, false]) (by kernel_rfl) (hN772 _ _ ⟨v1262, S1263, f1244, f1245, f1246, f1247, f1248, f1249, f1250, f1251, f1252, rfl, hL⟩)
          refine DH.node (listed' := #[true, true, true, false, true, true, true, true, true, true, true, true, false, false, true, false, true, false, false, false, false]) (fuel' := 8) (fun (F : Fr) (w : World) => ∃ (v853 : Value) (S854 : Nat → Prop), F 1 = (.pointer (some ⟨b4, 0, none⟩)) ∧ F 2 = (.pointer (some ⟨b6, 0, none⟩)) ∧ F 4 = (.pointer (some ⟨b21, 0, none⟩)) ∧ F 5 = (.int .i64 s_l1.2.2) ∧ F 50 = (.int .i64 a0.Boats) ∧ F 51 = (.pointer (some ⟨b21, 1, none⟩)) ∧ F 60 = v853 ∧ F 63 = (.pointer (some ⟨b21, 2, none⟩)) ∧ F 65 = v546 ∧ Hp w0 [Ent.own 2 S854 v853 x608, Ent.own 2 S547 v546 s_l2.1, Ent.frzS wz560 S446, Ent.frzS wz562 S448, Ent.blk b21 38 #[(.int .i64 a0.Boats), v445, v447], Ent.blk b6 38 #[(.int .i64 0), (.slice none 0 0), (.slice none 0 0)], Ent.blk b4 49 #[(.int .i64 a0.Boats), (.int .i64 a0.Scheme), v1], Ent.snap w0 w0.heap.size] w) ?_ (fun hN778 => ?_)
          · intro F1264 wd1265 hJ
            obtain ⟨v853, S854, f1266, f1267, f1268, f1269, f1270, f1271, f1272, f1273, f1274, hL⟩ := hJ
            refine DH.all (rs := [3, 12, 15, 17]) (by kernel_rfl) (by simp) ?_
            intro i1275 hi1276
            simp only [List.mem_cons, List.not_mem_nil, or_false] at hi1276
            rcases hi1276 with rfl | rfl | rfl | rfl
            · refine ⟨_, rfl, ?_⟩
              refine OP.val (v := v445) rfl (x_load1 Try.underlying33 rfl f1271 (hL.cellB 4 rfl rfl)) ?_
              refine ⟨(hL.sel [5, 6, 7] (by decide) rfl), ?_⟩
              exact DH.relist (listed' := #[true, true, true, true, true, true, true, true, true, true, true, true, false, false, true, false, true, false, false, false, false]) (by kernel_rfl) (hN770 _ _ ⟨v853, S854, f1266, f1267, f1268, f1269, f1270, rfl, f1272, f1273, f1274, hL⟩)
            · refine ⟨_, rfl, ?_⟩
              refine S_lit1 x608 rfl hL Try.underlying33 Try_T53 ((congrArg Value.cells f1272).trans (rdL_cells (hL.rdO 0 rfl))) rfl ?_
              intro wd1277 v1278 S1279 hL
              refine ⟨(hL.sel [5, 6, 7] (by decide) rfl), ?_⟩
              exact DH.relist (listed' := #[true, true, true, false, true, true, true, true, true, true, true, true, true, false, true, false, true, false, false, false, false]) (by kernel_rfl) (hN773 _ _ ⟨v1278, S1279, f1266, f1267, f1268, f1269, f1270, f1271, rfl, f1273, f1274, hL⟩)
            · refine ⟨_, rfl, ?_⟩
              refine OP.val (v := v447) rfl (x_load1 Try.underlying33 rfl f1273 (hL.cellB 4 rfl rfl)) ?_
              refine ⟨(hL.sel [5, 6, 7] (by decide) rfl), ?_⟩
              exact DH.relist (listed' := #[true, true, true, false, true, true, true, true, true, true, true, true, false, false, true, true, true, false, false, false, false]) (by kernel_rfl) (hN774 _ _ ⟨v853, S854, f1266, f1267, f1268, f1269, f1270, f1271, f1272, rfl, f1274, hL⟩)
            · refine ⟨_, rfl, ?_⟩
              have hL := hL.sel [1, 0, 2, 3, 4, 5, 6, 7] (by decide) rfl
              refine S_lit1 s_l2.1 rfl hL Try.underlying33 Try_T53 ((congrArg Value.cells f1274).trans (rdL_cells (hL.rdO 0 rfl))) rfl ?_
              intro wd1280 v1281 S1282 hL
              refine ⟨(hL.sel [5, 6, 7] (by decide) rfl), ?_⟩
              exact DH.relist (listed' := #[true, true, true, false, true, true, true, true, true, true, true, true, false, false, true, false, true, true, false, false, false]) (by kernel_rfl) (hN775 _ _ ⟨v1281, S1282, v853, S854, f1266, f1267, f1268, f1269, f1270, f1271, f1272, f1273, rfl, hL⟩)
          refine DH.node (listed' := #[true, true, true, false, true, true, true, true, true, true, true, false, false, false, true, true, true, false, false, false, false]) (fuel' := 8) (fun (F : Fr) (w : World) => F 1 = (.pointer (some ⟨b4, 0, none⟩)) ∧ F 2 = (.pointer (some ⟨b6, 0, none⟩)) ∧ F 4 = (.pointer (some ⟨b21, 0, none⟩)) ∧ F 5 = (.int .i64 s_l1.2.2) ∧ F 50 = (.int .i64 a0.Boats) ∧ F 51 = (.pointer (some ⟨b21, 1, none⟩)) ∧ F 57 = (.agg #[v602]) ∧ F 59 = (.int .i64 a0.Scheme) ∧ F 64 = v447 ∧ F 65 = v546 ∧ Hp w0 [Ent.own 2 S547 v546 s_l2.1, Ent.frzS wz560 S446, Ent.frzS wz562 S448, Ent.blk b21 38 #[(.int .i64 a0.Boats), v445, v447], Ent.blk b6 38 #[(.int .i64 0), (.slice none 0 0), (.slice none 0 0)], Ent.blk b4 49 #[(.int .i64 a0.Boats), (.int .i64 a0.Scheme), v1], Ent.snap w0 w0.heap.size] w) ?_ (fun hN779 => ?_)
          · intro F1283 wd1284 hJ
            obtain ⟨f1285, f1286, f1287, f1288, f1289, f1290, f1291, f1292, f1293, f1294, hL⟩ := hJ
            refine DH.all (rs := [3, 11, 17]) (by kernel_rfl) (by simp) ?_
            intro i1295 hi1296
            simp only [List.mem_cons, List.not_mem_nil, or_false] at hi1296
            rcases hi1296 with rfl | rfl | rfl
            · refine ⟨_, rfl, ?_⟩
              refine OP.val (v := v445) rfl (x_load1 Try.underlying33 rfl f1290 (hL.cellB 3 rfl rfl)) ?_
              refine ⟨(hL.sel [4, 5, 6] (by decide) rfl), ?_⟩
              exact DH.relist (listed' := #[true, true, true, true, true, true, true, true, true, true, true, false, false, false, true, true, true, false, false, false, false]) (by kernel_rfl) (hN771 _ _ ⟨f1285, f1286, f1287, f1288, f1289, rfl, f1291, f1292, f1293, f1294, hL⟩)
            · refine ⟨_, rfl, ?_⟩
              refine OP.call rfl (x_call (vs := [(.agg #[v602]), (.int .i64 a0.Scheme)]) Try_C74 ⟨f1291, f1292, trivial⟩) (M.spec_l26Points_ok _ x597 (hL.rdS 6 rfl hr606) a0.Scheme hx609) ?_
              rintro e1299 wd1300 ⟨v1298, S1297, rfl, hF1301⟩
              refine ⟨_, rfl, ?_⟩
              have hL := hL.pushAll hF1301
              simp only [List.cons_append, List.nil_append, List.set_cons_zero, List.set_cons_succ] at hL
              refine ⟨(hL.sel [5, 6, 7] (by decide) rfl), ?_⟩
              exact DH.relist (listed' := #[true, true, true, false, true, true, true, true, true, true, true, true, false, false, true, true, true, false, false, false, false]) (by kernel_rfl) (hN774 _ _ ⟨v1298, S1297, f1285, f1286, f1287, f1288, f1289, f1290, rfl, f1293, f1294, hL⟩)
            · refine ⟨_, rfl, ?_⟩
              refine S_lit1 s_l2.1 rfl hL Try.underlying33 Try_T53 ((congrArg Value.cells f1294).trans (rdL_cells (hL.rdO 0 rfl))) rfl ?_
              intro wd1302 v1303 S1304 hL
              refine ⟨(hL.sel [4, 5, 6] (by decide) rfl), ?_⟩
              exact DH.relist (listed' := #[true, true, true, false, true, true, true, true, true, true, true, false, false, false, true, true, true, true, false, false, false]) (by kernel_rfl) (hN776 _ _ ⟨v1303, S1304, f1285, f1286, f1287, f1288, f1289, f1290, f1291, f1292, f1293, rfl, hL⟩)
          refine DH.node (listed' := #[true, true, true, false, true, true, true, true, true, true, true, false, false, false, true, false, true, true, false, false, false]) (fuel' := 8) (fun (F : Fr) (w : World) => ∃ (v855 : Value) (S856 : Nat → Prop), F 1 = (.pointer (some ⟨b4, 0, none⟩)) ∧ F 2 = (.pointer (some ⟨b6, 0, none⟩)) ∧ F 4 = (.pointer (some ⟨b21, 0, none⟩)) ∧ F 5 = (.int .i64 s_l1.2.2) ∧ F 50 = (.int .i64 a0.Boats) ∧ F 51 = (.pointer (some ⟨b21, 1, none⟩)) ∧ F 57 = (.agg #[v602]) ∧ F 59 = (.int .i64 a0.Scheme) ∧ F 63 = (.pointer (some ⟨b21, 2, none⟩)) ∧ F 66 = v855 ∧ Hp w0 [Ent.own 53 S856 v855 ([s_l2.1] : List (List Int)), Ent.frzS wz560 S446, Ent.frzS wz562 S448, Ent.blk b21 38 #[(.int .i64 a0.Boats), v445, v447], Ent.blk b6 38 #[(.int .i64 0), (.slice none 0 0), (.slice none 0 0)], Ent.blk b4 49 #[(.int .i64 a0.Boats), (.int .i64 a0.Scheme), v1], Ent.snap w0 w0.heap.size] w) ?_ (fun hN780 => ?_)
          · intro F1305 wd1306 hJ
            obtain ⟨v855, S856, f1307, f1308, f1309, f1310, f1311, f1312, f1313, f1314, f1315, f1316, hL⟩ := hJ
            refine DH.all (rs := [3, 11, 15]) (by kernel_rfl) (by simp) ?_
            intro i1317 hi1318
            simp only [List.mem_cons, List.not_mem_nil, or_false] at hi1318
            rcases hi1318 with rfl | rfl | rfl
            · refine ⟨_, rfl, ?_⟩
              refine OP.val (v := v445) rfl (x_load1 Try.underlying33 rfl f1312 (hL.cellB 3 rfl rfl)) ?_
              refine ⟨(hL.sel [4, 5, 6] (by decide) rfl), ?_⟩
              exact DH.relist (listed' := #[true, true, true, true, true, true, true, true, true, true, true, false, false, false, true, false, true, true, false, false, false]) (by kernel_rfl) (hN772 _ _ ⟨v855, S856, f1307, f1308, f1309, f1310, f1311, rfl, f1313, f1314, f1315, f1316, hL⟩)
            · refine ⟨_, rfl, ?_⟩
              refine OP.call rfl (x_call (vs := [(.agg #[v602]), (.int .i64 a0.Scheme)]) Try_C74 ⟨f1313, f1314, trivial⟩) (M.spec_l26Points_ok _ x597 (hL.rdS 6 rfl hr606) a0.Scheme hx609) ?_
              rintro e1321 wd1322 ⟨v1320, S1319, rfl, hF1323⟩
              refine ⟨_, rfl, ?_⟩
              have hL := hL.pushAll hF1323
              simp only [List.cons_append, List.nil_append, List.set_cons_zero, List.set_cons_succ] at hL
              refine ⟨(hL.sel [5, 6, 7] (by decide) rfl), ?_⟩
              have hL := hL.sel [1, 0, 2, 3, 4, 5, 6, 7] (by decide) rfl
              exact DH.relist (listed' := #[true, true, true, false, true, true, true, true, true, true, true, true, false, false, true, false, true, true, false, false, false]) (by kernel_rfl) (hN775 _ _ ⟨v855, S856, v1320, S1319, f1307, f1308, f1309, f1310, f1311, f1312, rfl, f1315, f1316, hL⟩)
            · refine ⟨_, rfl, ?_⟩
              refine OP.val (v := v447) rfl (x_load1 Try.underlying33 rfl f1315 (hL.cellB 3 rfl rfl)) ?_
              refine ⟨(hL.sel [4, 5, 6] (by decide) rfl), ?_⟩
              exact DH.relist (listed' := #[true, true, true, false, true, true, true, true, true, true, true, false, false, false, true, true, true, true, false, false, false]) (by kernel_rfl) (hN776 _ _ ⟨v855, S856, f1307, f1308, f1309, f1310, f1311, f1312, f1313, f1314, rfl, f1316, hL⟩)
          refine DH.all (rs := [3, 11, 15, 17]) (by kernel_rfl) (by simp) ?_
          intro i1324 hi1325
          simp only [List.mem_cons, List.not_mem_nil, or_false] at hi1325
          rcases hi1325 with rfl | rfl | rfl | rfl
          · refine ⟨_, rfl, ?_⟩
            refine OP.val (v := v445) rfl (x_load1 Try.underlying33 rfl rfl (hL.cellB 3 rfl rfl)) ?_
            refine ⟨(hL.sel [4, 5, 6] (by decide) rfl), ?_⟩
            exact DH.relist (listed' := #[true, true, true, true, true, true, true, true, true, true, true, false, false, false, true, false, true, false, false, false, false]) (by kernel_rfl) (hN777 _ _ ⟨f554, f555, f556, f557, rfl, rfl, rfl, rfl, rfl, rfl, hL⟩)
          · refine ⟨_, rfl, ?_⟩
            refine OP.call rfl (x_call (vs := [(.agg #[v602]), (.int .i64 a0.Scheme)]) Try_C74 ⟨rfl, rfl, trivial⟩) (M.spec_l26Points_ok _ x597 (hL.rdS 6 rfl hr606) a0.Scheme hx609) ?_
            rintro e1328 wd1329 ⟨v1327, S1326, rfl, hF1330⟩
            refine ⟨_, rfl, ?_⟩
            have hL := hL.pushAll hF1330
            simp only [List.cons_append, List.nil_append, List.set_cons_zero, List.set_cons_succ] at hL
            refine ⟨(hL.sel [5, 6, 7] (by decide) rfl), ?_⟩
            exact DH.relist (listed' := #[true, true, true, false, true, true, true, true, true, true, true, true, false, false, true, false, true, false, false, false, false]) (by kernel_rfl) (hN778 _ _ ⟨v1327, S1326, f554, f555, f556, f557, rfl, rfl, rfl, rfl, rfl, hL⟩)
          · refine ⟨_, rfl, ?_⟩
            refine OP.val (v := v447) rfl (x_load1 Try.underlying33 rfl rfl (hL.cellB 3 rfl rfl)) ?_
            refine ⟨(hL.sel [4, 5, 6] (by decide) rfl), ?_⟩
            exact DH.relist (listed' := #[true, true, true, false, true, true, true, true, true, true, true, false, false, false, true, true, true, false, false, false, false]) (by kernel_rfl) (hN779 _ _ ⟨f554, f555, f556, f557, rfl, rfl, rfl, rfl, rfl, rfl, hL⟩)
          · refine ⟨_, rfl, ?_⟩
            refine S_lit1 s_l2.1 rfl hL Try.underlying33 Try_T53 ((congrArg Value.cells (show _ = v546 from rfl)).trans (rdL_cells (hL.rdO 0 rfl))) rfl ?_
            intro wd1331 v1332 S1333 hL
            refine ⟨(hL.sel [4, 5, 6] (by decide) rfl), ?_⟩
            exact DH.relist (listed' := #[true, true, true, false, true, true, true, true, true, true, true, false, false, false, true, false, true, true, false, false, false]) (by kernel_rfl) (hN780 _ _ ⟨v1332, S1333, f554, f555, f556, f557, rfl, rfl, rfl, rfl, rfl, rfl, hL⟩)
        · intro s_l2 F1334 wd1335 t548 hJ hm hr549
          unfold M.spec_TableOf_l2 at hm
          obtain ⟨v546, S547, f1336, f1337, f1338, f1339, f1340, f1341, hL⟩ := hJ
          refine CW.seq ?_
          refine CW.seq ?_
          refine CW.regionL ?_
          refine OW.cons (OP.val (v := (.int .i64 s_l2.2)) rfl (x_mv f1341) ?_)
          refine OW.cons (OP.val (v := (.pointer (some ⟨b4, 2, none⟩))) rfl (x_fieldAddr (fsz := 1) 0 2 2 Try.underlying49 rfl Try_T47 rfl f1336 rfl) ?_)
          refine OW.cons (OP.val (v := v1) rfl (x_load1 Try.underlying47 rfl rfl (hL.cellB 5 rfl rfl)) ?_)
          refine OW.cons (OP.val (v := (.int .i64 s_l1.2.2)) rfl (x_mv f1339) ?_)
          obtain ⟨x1342, ha1343, hm⟩ := bndE hm
          obtain ⟨hz1344, ha1352⟩ := idxE ha1343
          obtain ⟨b1345, q1346, v1347, hix1348, hs1349, hc1350, hr1351⟩ := rdN_at h2 hz1344 ha1352
          refine OW.cons (OP.val (v := (.pointer (some ⟨b1345, q1346, none⟩))) rfl (x_ix Try.underlying47 Try_T29 rfl rfl hix1348) ?_)
          refine OW.cons (OP.val (v := (.pointer (some ⟨b1345, q1346, none⟩))) rfl (x_fieldAddr (fsz := 1) q1346 0 q1346 Try.underlying29 rfl Try_T27 rfl rfl rfl) ?_)
          refine OW.cons (OP.val (v := v1347) rfl (x_load1 Try.underlying27 rfl rfl (hL.cellS 6 rfl hs1349 hc1350)) ?_)
          refine OW.cons (OP.val (v := (.int .i64 (x1342.Finishes.length : Int))) rfl (x_lenR Try.underlying27 rfl (hL.rdS 6 rfl hr1351)) ?_)
          refine OW.cons (OP.val (v := (.bool (decide (s_l2.2 < (x1342.Finishes.length : Int))))) rfl (x_lss rfl rfl) ?_)
          refine OW.nil ?_
          refine CW.condM (t := decide (s_l2.2 < (x1342.Finishes.length : Int))) rfl hm (fun hb1353 hm => ?_) (fun hb1353 hm => ?_)
          · refine CW.skip ?_
            refine CW.seq ?_
            refine CW.block ?_
            refine CW.regionL ?_
            refine OW.cons (OP.val (v := v546) rfl (x_mv f1340) ?_)
            refine OW.cons (OP.val (v := (.pointer (some ⟨b4, 2, none⟩))) rfl (x_fieldAddr (fsz := 1) 0 2 2 Try.underlying49 rfl Try_T47 rfl f1336 rfl) ?_)
            refine OW.cons (OP.val (v := v1) rfl (x_load1 Try.underlying47 rfl rfl (hL.cellB 5 rfl rfl)) ?_)
            refine OW.cons (OP.val (v := (.int .i64 s_l1.2.2)) rfl (x_mv f1339) ?_)
            obtain ⟨x1354, ha1355, hm⟩ := bndE hm
            obtain ⟨hz1356, ha1364⟩ := idxE ha1355
            obtain ⟨b1357, q1358, v1359, hix1360, hs1361, hc1362, hr1363⟩ := rdN_at h2 hz1356 ha1364
            refine OW.cons (OP.val (v := (.pointer (some ⟨b1357, q1358, none⟩))) rfl (x_ix Try.underlying47 Try_T29 rfl rfl hix1360) ?_)
            refine OW.cons (OP.val (v := (.pointer (some ⟨b1357, q1358, none⟩))) rfl (x_fieldAddr (fsz := 1) q1358 0 q1358 Try.underlying29 rfl Try_T27 rfl rfl rfl) ?_)
            refine OW.cons (OP.val (v := v1359) rfl (x_load1 Try.underlying27 rfl rfl (hL.cellS 6 rfl hs1361 hc1362)) ?_)
            refine OW.cons (OP.val (v := (.int .i64 s_l2.2)) rfl (x_mv f1341) ?_)
            obtain ⟨x1365, ha1366, hm⟩ := bndE hm
            obtain ⟨hz1367, ha1371⟩ := idxE ha1366
            obtain ⟨b1368, q1369, hix1370⟩ := rdL_ix (hL.rdS 6 rfl hr1363) hz1367 ha1371
            refine OW.cons (OP.val (v := (.pointer (some ⟨b1368, q1369, none⟩))) rfl (x_ix Try.underlying27 Try_T88 rfl rfl hix1370) ?_)
            refine OW.cons (OP.val (v := (.pointer (some ⟨b1368, q1369 + 1, none⟩))) rfl (x_fieldAddr (fsz := 1) q1369 1 (q1369 + 1) Try.underlying88 rfl Try_T2 rfl rfl rfl) ?_)
            refine OW.cons (OP.val (v := (.int .i64 x1365.Code)) rfl (x_load1 Try.underlying2 rfl rfl (rdF_cells (hL.rdS 6 rfl hr1363) hix1370 ha1371 1 _ rfl)) ?_)
            refine OW.cons (S_lit ([x1365.Code] : List Int) hL Try.underlying53 Try_T2 rfl (by decide) (by first | (simp [Instr.fill, madeCells, Value.cells, ev, upd, Flat.enc, Flat.sz]; done) | rfl | kernel_rfl) rfl rfl ?_)
            intro wd1372 v1373 S1374 hL
            obtain ⟨hc1378, hm⟩ := chkE hm
            refine OW.cons (S_append (ys := ([x1365.Code] : List Int)) hL 1 rfl Try.underlying53 Try_T2 rfl rfl rfl (hL.rdO 0 rfl) hc1378 (by decide) rfl ?_)
            intro wd1375 v1376 S1377 hL
            refine OW.cons (OP.val (v := v1376) rfl (x_assign) ?_)
            refine OW.nil ?_
            refine CW.regionL ?_
            refine OW.cons (OP.val (v := (.int .i64 s_l2.2)) rfl (x_mv f1341) ?_)
            refine OW.cons (OP.val (v := (.int .i64 (w64 (s_l2.2 + 1)))) rfl (x_add rfl rfl) ?_)
            refine OW.cons (OP.val (v := (.int .i64 (w64 (s_l2.2 + 1)))) rfl (x_assign) ?_)
            refine OW.nil ?_
            have hL := hL.sel [1, 2, 3, 4, 5, 6, 7] (by decide) rfl
            obtain rfl := Option.some.inj hm
            exact ⟨_, rfl, ⟨v1376, S1377, f1336, f1337, f1338, f1339, rfl, rfl, hL⟩⟩
          · refine CW.exit ?_
            refine XJ.hit ?_
            obtain rfl := Option.some.inj hm
            exact ⟨_, rfl, ⟨v546, S547, f1336, f1337, f1338, f1339, f1340, f1341, hL⟩⟩
      · refine CW.exit ?_
        refine XJ.hit ?_
        obtain rfl := Option.some.inj hm
        exact ⟨_, rfl, ⟨v445, S446, v447, S448, f462, f463, f464, f465, hL⟩⟩

theorem M.laws_likeRows_ok (w0 : World) (a0 : List (List Int)) {v1 : Value} (h2 : rdL (· < w0.heap.size) w0 v1 a0) (a1 : List (List Int)) {v3 : Value} (h4 : rdL (· < w0.heap.size) w0 v3 a1) {r : Bool} (hm : M.laws_likeRows a0 a1 = some r) :
    Calls Try.prog 77 #[v1, v3] w0 fun e w' => e = .returned (.bool r) ∧ Fresh w0 w' [] := by
  unfold M.laws_likeRows at hm
  refine calls_CW (args := [v1, v3]) Try.func77 rfl rfl rfl ?_
  have hL := Hp.start w0
  refine CW.seq ?_
  refine CW.regionL ?_
  refine OW.cons (OP.val (v := (.bool false)) rfl (x_assign) ?_)
  refine OW.nil ?_
  refine CW.seq ?_
  refine CW.seq ?_
  refine CW.regionL ?_
  refine OW.cons (OP.val (v := v1) rfl (x_move) ?_)
  refine OW.cons (OP.val (v := (.int .i64 (a0.length : Int))) rfl (x_lenR Try.underlying33 rfl (hL.rdS 0 rfl h2)) ?_)
  refine OW.cons (OP.val (v := v3) rfl (x_move) ?_)
  refine OW.cons (OP.val (v := (.int .i64 (a1.length : Int))) rfl (x_lenR Try.underlying33 rfl (hL.rdS 0 rfl h4)) ?_)
  refine OW.cons (OP.val (v := (.bool ((a0.length : Int) != (a1.length : Int)))) rfl (x_neq rfl rfl) ?_)
  refine OW.nil ?_
  refine CW.condM (t := (a0.length : Int) != (a1.length : Int)) rfl hm (fun hb5 hm => ?_) (fun hb5 hm => ?_)
  · refine CW.seq ?_
    refine CW.regionL ?_
    refine OW.cons (OP.val (v := (.bool false)) rfl (x_assign) ?_)
    refine OW.nil ?_
    refine CW.ret ?_
    obtain rfl := Option.some.inj hm
    exact RR1 rfl rfl ⟨rfl, hL.fresh 0 rfl [] (by decide) (by decide) rfl⟩
  · refine CW.skip ?_
    refine CW.seq ?_
    refine CW.seq ?_
    refine CW.regionL ?_
    refine OW.cons (OP.val (v := (.int .i64 0)) rfl (x_assign) ?_)
    refine OW.nil ?_
    obtain ⟨o62, ho63, hm⟩ := bndE hm
    refine CW.loopB (fun (s_l1 : Int) (F : Fr) (w : World) => F 0 = v1 ∧ F 1 = v3 ∧ F 5 = (.int .i64 s_l1) ∧ Hp w0 [Ent.snap w0 w0.heap.size] w) (fun o => outc o (fun x => some x) (fun s => M.laws_likeRows_a1 s) = some r) ho63 hm ⟨rfl, rfl, rfl, hL⟩ ?_ ?_
    · intro s_l1 F64 wd65 hJ hm
      have hm := outcE hm
      have hm : M.laws_likeRows_a1 s_l1 = some r := hm
      unfold M.laws_likeRows_a1 at hm
      obtain ⟨f66, f67, f68, hL⟩ := hJ
      refine CW.seq ?_
      refine CW.regionL ?_
      refine OW.cons (OP.val (v := (.bool true)) rfl (x_assign) ?_)
      refine OW.nil ?_
      refine CW.ret ?_
      obtain rfl := Option.some.inj hm
      exact RR1 rfl rfl ⟨rfl, hL.fresh 0 rfl [] (by decide) (by decide) rfl⟩
    · intro s_l1 F69 wd70 t60 hJ hm hr61
      unfold M.laws_likeRows_l1 at hm
      obtain ⟨f71, f72, f73, hL⟩ := hJ
      refine CW.seq ?_
      refine CW.seq ?_
      refine CW.regionL ?_
      refine OW.cons (OP.val (v := (.int .i64 s_l1)) rfl (x_mv f73) ?_)
      refine OW.cons (OP.val (v := v1) rfl (x_mv f71) ?_)
      refine OW.cons (OP.val (v := (.int .i64 (a0.length : Int))) rfl (x_lenR Try.underlying33 rfl (hL.rdS 0 rfl h2)) ?_)
      refine OW.cons (OP.val (v := (.bool (decide (s_l1 < (a0.length : Int))))) rfl (x_lss rfl rfl) ?_)
      refine OW.nil ?_
      refine CW.condM (t := decide (s_l1 < (a0.length : Int))) rfl hm (fun hb74 hm => ?_) (fun hb74 hm => ?_)
      · refine CW.skip ?_
        refine CW.seq ?_
        refine CW.block ?_
        refine CW.seq ?_
        refine CW.draw Try_mixed ?_
        have hL := hL.call (Mod.drew _)
        refine DW.pre (fuel := 0) (fin := (((((((((((Array.replicate 10 false).setIfInBounds 0 true).setIfInBounds 1 true).setIfInBounds 2 true).setIfInBounds 3 true).setIfInBounds 4 true).setIfInBounds 5 true).setIfInBounds 6 true).setIfInBounds 7 true).setIfInBounds 8 true).setIfInBounds 9 true)) (C := fun w' => Mod None_ _ w') [0, 1, 2, 3, 4, 5, 6, 7, 8, 9] (Mod.refl _ _) (by kernel_rfl) (by kernel_rfl) ?_
        refine QW.cons rfl (QP.val (v := v1) rfl (fun w' hm' => x_mv f71) ?_)
        refine QW.cons rfl (QP.val (v := (.int .i64 s_l1)) rfl (fun w' hm' => x_mv f73) ?_)
        obtain ⟨x75, ha76, hm⟩ := bndE hm
        obtain ⟨hz77, ha85⟩ := idxE ha76
        obtain ⟨b78, q79, v80, hix81, hs82, hc83, hr84⟩ := rdN_at h2 hz77 ha85
        refine QW.cons rfl (QP.val (v := (.pointer (some ⟨b78, q79, none⟩))) rfl (fun w' hm' => x_ix Try.underlying33 Try_T53 rfl rfl hix81) ?_)
        refine QW.cons rfl (QP.val (v := v80) rfl (fun w' hm' => x_load1 Try.underlying53 rfl rfl ((hL.call hm').cellS 0 rfl hs82 hc83)) ?_)
        refine QW.cons rfl (QP.val (v := v3) rfl (fun w' hm' => x_mv f72) ?_)
        refine QW.cons rfl (QP.val (v := (.int .i64 s_l1)) rfl (fun w' hm' => x_mv f73) ?_)
        obtain ⟨x86, ha87, hm⟩ := bndE hm
        obtain ⟨hz88, ha96⟩ := idxE ha87
        obtain ⟨b89, q90, v91, hix92, hs93, hc94, hr95⟩ := rdN_at h4 hz88 ha96
        refine QW.cons rfl (QP.val (v := (.pointer (some ⟨b89, q90, none⟩))) rfl (fun w' hm' => x_ix Try.underlying33 Try_T53 rfl rfl hix92) ?_)
        refine QW.cons rfl (QP.val (v := v91) rfl (fun w' hm' => x_load1 Try.underlying53 rfl rfl ((hL.call hm').cellS 0 rfl hs93 hc94)) ?_)
        obtain ⟨x97, hx98, hm⟩ := bndE hm
        refine QW.cons rfl (QP.call (v := (.bool x97)) rfl (fun w' hm' => x_call (vs := [v80, v91]) Try_C38 ⟨rfl, rfl, trivial⟩) (fun w' hm' => (M.laws_likeInts_ok w' x75 ((hL.call hm').rdS 0 rfl hr84) x86 ((hL.call hm').rdS 0 rfl hr95) hx98).mono (fun e w'' h => ⟨h.1, hm'.trans h.2.mod⟩)) ?_)
        refine QW.cons rfl (QP.val (v := (.bool (!x97))) rfl (fun w' hm' => x_not rfl) ?_)
        refine QW.nil ?_
        intro wd99 hmod
        have hL := hL.call hmod
        refine DW.done (by kernel_rfl) ?_
        refine CW.condM (t := !x97) rfl hm (fun hb100 hm => ?_) (fun hb100 hm => ?_)
        · refine CW.seq ?_
          refine CW.regionL ?_
          refine OW.cons (OP.val (v := (.bool false)) rfl (x_assign) ?_)
          refine OW.nil ?_
          refine CW.ret ?_
          obtain rfl := Option.some.inj hm
          have hm := hr61 _ rfl
          obtain rfl := Option.some.inj hm
          exact RR1 rfl rfl ⟨rfl, hL.fresh 0 rfl [] (by decide) (by decide) rfl⟩
        · refine CW.skip ?_
          refine CW.regionL ?_
          refine OW.cons (OP.val (v := (.int .i64 s_l1)) rfl (x_mv f73) ?_)
          refine OW.cons (OP.val (v := (.int .i64 (w64 (s_l1 + 1)))) rfl (x_add rfl rfl) ?_)
          refine OW.cons (OP.val (v := (.int .i64 (w64 (s_l1 + 1)))) rfl (x_assign) ?_)
          refine OW.nil ?_
          obtain rfl := Option.some.inj hm
          exact ⟨_, rfl, ⟨f71, f72, rfl, hL⟩⟩
      · refine CW.exit ?_
        refine XJ.hit ?_
        obtain rfl := Option.some.inj hm
        exact ⟨_, rfl, ⟨f71, f72, f73, hL⟩⟩

theorem M.laws_w6Tables_ok (w0 : World) (a0 : Table) {v1 : Value} {v3 : Value} (h2 : rdL (· < w0.heap.size) w0 v1 a0.Points) (h4 : rdL (· < w0.heap.size) w0 v3 a0.Codes) (a1 : Table) {v5 : Value} {v7 : Value} (h6 : rdL (· < w0.heap.size) w0 v5 a1.Points) (h8 : rdL (· < w0.heap.size) w0 v7 a1.Codes) {r : Bool} (hm : M.laws_w6Tables a0 a1 = some r) :
    Calls Try.prog 42 #[(.agg #[(.int .i64 a0.Boats), v1, v3]), (.agg #[(.int .i64 a1.Boats), v5, v7])] w0 fun e w' => e = .returned (.bool r) ∧ Fresh w0 w' [] := by
  unfold M.laws_w6Tables at hm
  refine calls_CW (args := [(.agg #[(.int .i64 a0.Boats), v1, v3]), (.agg #[(.int .i64 a1.Boats), v5, v7])]) Try.func42 rfl rfl rfl ?_
  have hL := Hp.start w0
  refine CW.seq ?_
  refine CW.regionL ?_
  refine OW.cons (S_box (cs := #[(.int .i64 a0.Boats), v1, v3]) hL rfl rfl rfl ?_)
  intro wd9 b10 hL
  refine OW.cons (S_box (cs := #[(.int .i64 a1.Boats), v5, v7]) hL rfl rfl rfl ?_)
  intro wd11 b12 hL
  refine OW.cons (OP.val (v := (.bool false)) rfl (x_assign) ?_)
  refine OW.nil ?_
  refine CW.seqJ (fun (s_j1 : Bool) (F : Fr) (w : World) => F 4 = (.bool s_j1) ∧ Hp w0 [Ent.blk b12 38 #[(.int .i64 a1.Boats), v5, v7], Ent.blk b10 38 #[(.int .i64 a0.Boats), v1, v3], Ent.snap w0 w0.heap.size] w) (fun s_j1 => M.laws_w6Tables_j1 s_j1 = some r) ?_ ?_
  · refine CW.regionL ?_
    refine OW.cons (OP.val (v := (.pointer (some ⟨b10, 0, none⟩))) rfl (x_fieldAddr (fsz := 1) 0 0 0 Try.underlying38 rfl Try_T2 rfl rfl rfl) ?_)
    refine OW.cons (OP.val (v := (.int .i64 a0.Boats)) rfl (x_load1 Try.underlying2 rfl rfl (hL.cellB 1 rfl rfl)) ?_)
    refine OW.cons (OP.val (v := (.pointer (some ⟨b12, 0, none⟩))) rfl (x_fieldAddr (fsz := 1) 0 0 0 Try.underlying38 rfl Try_T2 rfl rfl rfl) ?_)
    refine OW.cons (OP.val (v := (.int .i64 a1.Boats)) rfl (x_load1 Try.underlying2 rfl rfl (hL.cellB 0 rfl rfl)) ?_)
    refine OW.cons (OP.val (v := (.bool (a0.Boats == a1.Boats))) rfl (x_eql rfl rfl) ?_)
    refine OW.cons (OP.val (v := (.bool (a0.Boats == a1.Boats))) rfl (x_move) ?_)
    refine ifB_elim hm (fun hb28 hm => ?_) (fun hb28 hm => ?_)
    · refine OW.cons (OP.yes' rfl rfl hb28 (OP.val (v := (.pointer (some ⟨b10, 1, none⟩))) rfl (x_fieldAddr (fsz := 1) 0 1 1 Try.underlying38 rfl Try_T33 rfl rfl rfl) ?_))
      refine OW.cons (OP.yes' rfl rfl hb28 (OP.val (v := v1) rfl (x_load1 Try.underlying33 rfl rfl (hL.cellB 1 rfl rfl)) ?_))
      refine OW.cons (OP.yes' rfl rfl hb28 (OP.val (v := (.pointer (some ⟨b12, 1, none⟩))) rfl (x_fieldAddr (fsz := 1) 0 1 1 Try.underlying38 rfl Try_T33 rfl rfl rfl) ?_))
      refine OW.cons (OP.yes' rfl rfl hb28 (OP.val (v := v5) rfl (x_load1 Try.underlying33 rfl rfl (hL.cellB 0 rfl rfl)) ?_))
      obtain ⟨x29, hx30, hm⟩ := bndE hm
      refine OW.cons (OP.yes' rfl rfl hb28 (OP.call rfl (x_call (vs := [v1, v5]) Try_C77 ⟨rfl, rfl, trivial⟩) (M.laws_likeRows_ok _ a0.Points (hL.rdS 2 rfl h2) a1.Points (hL.rdS 2 rfl h6) hx30) ?_))
      rintro e31 wd32 ⟨rfl, hF33⟩
      refine ⟨_, rfl, ?_⟩
      have hL := hL.pushAll hF33
      simp only [List.cons_append, List.nil_append, List.set_cons_zero, List.set_cons_succ] at hL
      refine OW.cons (OP.val (v := (.bool x29)) rfl (x_pickT' rfl hb28 rfl) ?_)
      refine OW.cons (OP.val (v := (.bool x29)) rfl (x_move) ?_)
      refine ifB_elim hm (fun hb34 hm => ?_) (fun hb34 hm => ?_)
      · refine OW.cons (OP.yes' rfl rfl hb34 (OP.val (v := (.pointer (some ⟨b10, 2, none⟩))) rfl (x_fieldAddr (fsz := 1) 0 2 2 Try.underlying38 rfl Try_T33 rfl rfl rfl) ?_))
        refine OW.cons (OP.yes' rfl rfl hb34 (OP.val (v := v3) rfl (x_load1 Try.underlying33 rfl rfl (hL.cellB 1 rfl rfl)) ?_))
        refine OW.cons (OP.yes' rfl rfl hb34 (OP.val (v := (.pointer (some ⟨b12, 2, none⟩))) rfl (x_fieldAddr (fsz := 1) 0 2 2 Try.underlying38 rfl Try_T33 rfl rfl rfl) ?_))
        refine OW.cons (OP.yes' rfl rfl hb34 (OP.val (v := v7) rfl (x_load1 Try.underlying33 rfl rfl (hL.cellB 0 rfl rfl)) ?_))
        obtain ⟨x35, hx36, hm⟩ := bndE hm
        refine OW.cons (OP.yes' rfl rfl hb34 (OP.call rfl (x_call (vs := [v3, v7]) Try_C77 ⟨rfl, rfl, trivial⟩) (M.laws_likeRows_ok _ a0.Codes (hL.rdS 2 rfl h4) a1.Codes (hL.rdS 2 rfl h8) hx36) ?_))
        rintro e37 wd38 ⟨rfl, hF39⟩
        refine ⟨_, rfl, ?_⟩
        have hL := hL.pushAll hF39
        simp only [List.cons_append, List.nil_append, List.set_cons_zero, List.set_cons_succ] at hL
        refine OW.cons (OP.val (v := (.bool x35)) rfl (x_pickT' rfl hb34 rfl) ?_)
        refine OW.cons (OP.val (v := (.bool x35)) rfl (x_assign) ?_)
        refine OW.nil ?_
        exact ⟨x35, hm, ⟨rfl, hL⟩⟩
      · refine OW.cons (OP.no' rfl rfl hb34 rfl ?_)
        refine OW.cons (OP.no' rfl rfl hb34 rfl ?_)
        refine OW.cons (OP.no' rfl rfl hb34 rfl ?_)
        refine OW.cons (OP.no' rfl rfl hb34 rfl ?_)
        refine OW.cons (OP.no' rfl rfl hb34 rfl ?_)
        refine OW.cons (OP.val (v := (.bool false)) rfl (x_pickF' rfl hb34 rfl) ?_)
        refine OW.cons (OP.val (v := (.bool false)) rfl (x_assign) ?_)
        refine OW.nil ?_
        exact ⟨false, hm, ⟨rfl, hL⟩⟩
    · refine OW.cons (OP.no' rfl rfl hb28 rfl ?_)
      refine OW.cons (OP.no' rfl rfl hb28 rfl ?_)
      refine OW.cons (OP.no' rfl rfl hb28 rfl ?_)
      refine OW.cons (OP.no' rfl rfl hb28 rfl ?_)
      refine OW.cons (OP.no' rfl rfl hb28 rfl ?_)
      refine OW.cons (OP.val (v := (.bool false)) rfl (x_pickF' rfl hb28 rfl) ?_)
      refine OW.cons (OP.val (v := (.bool false)) rfl (x_move) ?_)
      refine OW.cons (OP.no' rfl rfl rfl rfl ?_)
      refine OW.cons (OP.no' rfl rfl rfl rfl ?_)
      refine OW.cons (OP.no' rfl rfl rfl rfl ?_)
      refine OW.cons (OP.no' rfl rfl rfl rfl ?_)
      refine OW.cons (OP.no' rfl rfl rfl rfl ?_)
      refine OW.cons (OP.val (v := (.bool false)) rfl (x_pickF' rfl rfl rfl) ?_)
      refine OW.cons (OP.val (v := (.bool false)) rfl (x_assign) ?_)
      refine OW.nil ?_
      exact ⟨false, hm, ⟨rfl, hL⟩⟩
  · intro s_j1 F25 wd26 hJ hm
    unfold M.laws_w6Tables_j1 at hm
    obtain ⟨f27, hL⟩ := hJ
    refine CW.ret ?_
    obtain rfl := Option.some.inj hm
    exact RR1 rfl f27 ⟨rfl, hL.fresh 2 rfl [] (by decide) (by decide) rfl⟩

end Go.Proofs.Ytblljgcbffkahaa
