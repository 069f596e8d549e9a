/- Links: each Go function returns what its model computes and leaves what was there. Printed by my generator. -/
import Derived.Test.YtbkpfcpbpnmjaaaLnkFnProgressSeriesA
namespace Go.Proofs.Ytbkpfcpbpnmjaaa
set_option maxRecDepth 10000
open Go Go.RowKit Go.ChangeShapes Go.WideShapes
set_option linter.unusedVariables false
set_option linter.unusedSimpArgs false

theorem M.spec_l25Draw_ok (w0 : World) {b1 : Nat} {v2 : Value} (a0 : Src) (h3 : rdL (fun k => k < w0.heap.size ∧ ¬ (Ent.blk b1 111 #[v2, .int .i64 a0.at_, .int .i64 a0.seed]).S k) w0 v2 a0.code) (he4 : (Ent.blk b1 111 #[v2, .int .i64 a0.at_, .int .i64 a0.seed]).H w0) {r : (ProgressRules) × (Int × Int)} (hm : M.spec_l25Draw a0 = some r) :
    Calls Try.prog 64 #[(.pointer (some ⟨b1, 0, none⟩))] w0 fun e w' => e = .returned (.agg #[(.int .i64 r.1.Gain), (.int .i64 r.1.Step), (.int .i64 r.1.Low), (.int .i64 r.1.High)]) ∧ Mut w0 w' (Ent.blk b1 111 #[v2, .int .i64 a0.at_, .int .i64 a0.seed]).S [Ent.blk b1 111 #[v2, .int .i64 r.2.1, .int .i64 r.2.2]] := by
  unfold M.spec_l25Draw at hm
  refine calls_CW (args := [(.pointer (some ⟨b1, 0, none⟩))]) Try.func64 rfl rfl rfl ?_
  have hL := Hp.startIO he4
  refine CW.seq ?_
  refine CW.regionL ?_
  refine OW.cons (S_alloc (cs := #[(.int .i64 0), (.int .i64 0), (.int .i64 0), (.int .i64 0)]) hL Try_T46 rfl rfl ?_)
  intro wd5 b6 hL
  refine OW.nil ?_
  refine CW.seq ?_
  refine CW.regionL ?_
  refine OW.cons (OP.val (v := (.pointer (some ⟨b1, 0, none⟩))) rfl (x_move) ?_)
  obtain ⟨x7, hx8, hm⟩ := bndE hm
  refine OW.cons (OP.call rfl (x_call (vs := [(.pointer (some ⟨b1, 0, none⟩)), (.int .i64 1001)]) Try_C84 ⟨rfl, rfl, trivial⟩) (M.spec_l01Next_ok _ (Src.mk a0.code a0.at_ a0.seed) (hL.exZ 2 1 (by decide) rfl rfl h3) (hL.get 1 rfl) 1001 hx8) ?_)
  rintro e9 wd10 ⟨rfl, hF11⟩
  refine ⟨_, rfl, ?_⟩
  have hL := hL.mut 1 rfl hF11
  simp only [lA, lB, lC, lD] at hL
  refine OW.cons (OP.val (v := (.pointer (some ⟨b1, 0, none⟩))) rfl (x_move) ?_)
  obtain ⟨x12, hx13, hm⟩ := bndE hm
  refine OW.cons (OP.call rfl (x_call (vs := [(.pointer (some ⟨b1, 0, none⟩)), (.int .i64 60)]) Try_C84 ⟨rfl, rfl, trivial⟩) (M.spec_l01Next_ok _ (Src.mk a0.code x7.2.1 x7.2.2) (hL.exZ 2 1 (by decide) rfl rfl h3) (hL.get 1 rfl) 60 hx13) ?_)
  rintro e14 wd15 ⟨rfl, hF16⟩
  refine ⟨_, rfl, ?_⟩
  have hL := hL.mut 1 rfl hF16
  simp only [lA, lB, lC, lD] at hL
  refine OW.cons (OP.val (v := (.pointer (some ⟨b1, 0, none⟩))) rfl (x_move) ?_)
  obtain ⟨x17, hx18, hm⟩ := bndE hm
  refine OW.cons (OP.call rfl (x_call (vs := [(.pointer (some ⟨b1, 0, none⟩)), (.int .i64 300)]) Try_C84 ⟨rfl, rfl, trivial⟩) (M.spec_l01Next_ok _ (Src.mk a0.code x12.2.1 x12.2.2) (hL.exZ 2 1 (by decide) rfl rfl h3) (hL.get 1 rfl) 300 hx18) ?_)
  rintro e19 wd20 ⟨rfl, hF21⟩
  refine ⟨_, rfl, ?_⟩
  have hL := hL.mut 1 rfl hF21
  simp only [lA, lB, lC, lD] at hL
  refine OW.cons (OP.val (v := (.int .i64 (w64 (600 + x17.1)))) rfl (x_add rfl rfl) ?_)
  refine OW.cons (OP.val (v := (.pointer (some ⟨b1, 0, none⟩))) rfl (x_move) ?_)
  obtain ⟨x22, hx23, hm⟩ := bndE hm
  refine OW.cons (OP.call rfl (x_call (vs := [(.pointer (some ⟨b1, 0, none⟩)), (.int .i64 500)]) Try_C84 ⟨rfl, rfl, trivial⟩) (M.spec_l01Next_ok _ (Src.mk a0.code x17.2.1 x17.2.2) (hL.exZ 2 1 (by decide) rfl rfl h3) (hL.get 1 rfl) 500 hx23) ?_)
  rintro e24 wd25 ⟨rfl, hF26⟩
  refine ⟨_, rfl, ?_⟩
  have hL := hL.mut 1 rfl hF26
  simp only [lA, lB, lC, lD] at hL
  refine OW.cons (OP.val (v := (.int .i64 (w64 (1000 + x22.1)))) rfl (x_add rfl rfl) ?_)
  refine OW.cons (OP.val (v := (.agg #[(.int .i64 x7.1), (.int .i64 x12.1), (.int .i64 (w64 (600 + x17.1))), (.int .i64 (w64 (1000 + x22.1)))])) rfl (x_build Try_B46 (ps := [(0, (.int .i64 x7.1)), (1, (.int .i64 x12.1)), (2, (.int .i64 (w64 (600 + x17.1)))), (3, (.int .i64 (w64 (1000 + x22.1))))]) ⟨⟨rfl, rfl⟩, ⟨rfl, rfl⟩, ⟨rfl, rfl⟩, ⟨rfl, rfl⟩, trivial⟩ (by simp [Instr.fill, cells_int, cells_bool, cells_string, cells_agg, cells_slice, cells_pointer])) ?_)
  refine OW.cons (S_alloc (cs := #[(.int .i64 0), (.int .i64 0), (.int .i64 0), (.int .i64 0)]) hL Try_T46 rfl rfl ?_)
  intro wd27 b28 hL
  refine OW.cons (S_storeN (l := [(.int .i64 x7.1), (.int .i64 x12.1), (.int .i64 (w64 (600 + x17.1))), (.int .i64 (w64 (1000 + x22.1)))]) (cs' := #[(.int .i64 x7.1), (.int .i64 x12.1), (.int .i64 (w64 (600 + x17.1))), (.int .i64 (w64 (1000 + x22.1)))]) hL 0 rfl Try_T46 rfl rfl (List.forall_mem_cons.2 ⟨rfl, (List.forall_mem_cons.2 ⟨rfl, (List.forall_mem_cons.2 ⟨rfl, (List.forall_mem_cons.2 ⟨rfl, (fun _ h => by cases h)⟩)⟩)⟩)⟩) rfl (Nat.le_of_ble_eq_true rfl) rfl ?_)
  intro wd29 hL
  refine OW.nil ?_
  refine CW.seqJ (fun (s_j1 : Int × Int × Int × Int × Int × Int) (F : Fr) (w : World) => F 2 = (.pointer (some ⟨b6, 0, none⟩)) ∧ F 3 = (.pointer (some ⟨b28, 0, none⟩)) ∧ Hp w0 [Ent.blk b28 46 #[(.int .i64 s_j1.2.2.1), (.int .i64 s_j1.2.2.2.1), (.int .i64 s_j1.2.2.2.2.1), (.int .i64 s_j1.2.2.2.2.2)], Ent.blk b6 46 #[(.int .i64 0), (.int .i64 0), (.int .i64 0), (.int .i64 0)], Ent.blk b1 111 #[v2, (.int .i64 s_j1.1), (.int .i64 s_j1.2.1)], Ent.frz w0 (Ent.blk b1 111 #[v2, .int .i64 a0.at_, .int .i64 a0.seed]).S] w) (fun s_j1 => M.spec_l25Draw_j1 s_j1 = some r) ?_ ?_
  · refine CW.seq ?_
    refine CW.regionL ?_
    refine OW.cons (OP.val (v := (.pointer (some ⟨b1, 0, none⟩))) rfl (x_move) ?_)
    obtain ⟨x450, hx451, hm⟩ := bndE hm
    refine OW.cons (OP.call rfl (x_call (vs := [(.pointer (some ⟨b1, 0, none⟩)), (.int .i64 30)]) Try_C84 ⟨rfl, rfl, trivial⟩) (M.spec_l01Next_ok _ (Src.mk a0.code x22.2.1 x22.2.2) (hL.exZ 3 2 (by decide) rfl rfl h3) (hL.get 2 rfl) 30 hx451) ?_)
    rintro e452 wd453 ⟨rfl, hF454⟩
    refine ⟨_, rfl, ?_⟩
    have hL := hL.mut 2 rfl hF454
    simp only [lA, lB, lC, lD] at hL
    refine OW.nil ?_
    refine CW.blockJ (fun (s_j2 : Int × Int × Int × Int × Int × Int) (F : Fr) (w : World) => F 2 = (.pointer (some ⟨b6, 0, none⟩)) ∧ F 3 = (.pointer (some ⟨b28, 0, none⟩)) ∧ Hp w0 [Ent.blk b28 46 #[(.int .i64 s_j2.2.2.1), (.int .i64 s_j2.2.2.2.1), (.int .i64 s_j2.2.2.2.2.1), (.int .i64 s_j2.2.2.2.2.2)], Ent.blk b6 46 #[(.int .i64 0), (.int .i64 0), (.int .i64 0), (.int .i64 0)], Ent.blk b1 111 #[v2, (.int .i64 s_j2.1), (.int .i64 s_j2.2.1)], Ent.frz w0 (Ent.blk b1 111 #[v2, .int .i64 a0.at_, .int .i64 a0.seed]).S] w) (fun s_j2 => M.spec_l25Draw_j2 s_j2 = some r) ?_ ?_
    · refine CW.seq ?_
      refine CW.regionL ?_
      refine OW.cons (OP.val (v := (.bool (x450.1 == 0))) rfl (x_eql rfl rfl) ?_)
      refine OW.cons (OP.val (v := (.bool (x450.1 == 0))) rfl (x_assign) ?_)
      refine OW.nil ?_
      refine CW.condM (t := x450.1 == 0) rfl hm (fun hb662 hm => ?_) (fun hb662 hm => ?_)
      · refine CW.regionL ?_
        refine OW.cons (S_lit ([(-1), 1001] : List Int) hL Try.underlying35 Try_T2 rfl (by decide) (by first | (simp [Instr.fill, madeCells, Value.cells, ev, upd, Flat.enc, Flat.sz]; done) | rfl | kernel_rfl) rfl rfl ?_)
        intro wd663 v664 S665 hL
        refine OW.cons (OP.val (v := (.pointer (some ⟨b1, 0, none⟩))) rfl (x_move) ?_)
        obtain ⟨x666, hx667, hm⟩ := bndE hm
        refine OW.cons (OP.call rfl (x_call (vs := [(.pointer (some ⟨b1, 0, none⟩)), (.int .i64 2)]) Try_C84 ⟨rfl, rfl, trivial⟩) (M.spec_l01Next_ok _ (Src.mk a0.code x450.2.1 x450.2.2) (hL.exZ 4 3 (by decide) rfl rfl h3) (hL.get 3 rfl) 2 hx667) ?_)
        rintro e668 wd669 ⟨rfl, hF670⟩
        refine ⟨_, rfl, ?_⟩
        have hL := hL.mut 3 rfl hF670
        simp only [lA, lB, lC, lD] at hL
        obtain ⟨x671, ha672, hm⟩ := bndE hm
        obtain ⟨hz673, ha677⟩ := idxE ha672
        obtain ⟨b674, q675, hix676⟩ := rdL_ix (hL.rdO 0 rfl) hz673 ha677
        refine OW.cons (OP.val (v := (.pointer (some ⟨b674, q675, none⟩))) rfl (x_ix Try.underlying35 Try_T2 rfl rfl hix676) ?_)
        refine OW.cons (OP.val (v := (.int .i64 x671)) rfl (x_load1 Try.underlying2 rfl rfl (rdF_cells (hL.rdO 0 rfl) hix676 ha677 0 _ rfl)) ?_)
        refine OW.cons (OP.val (v := (.pointer (some ⟨b28, 0, none⟩))) rfl (x_fieldAddr (fsz := 1) 0 0 0 Try.underlying46 rfl Try_T2 rfl rfl rfl) ?_)
        refine OW.cons (S_store (cs' := #[(.int .i64 x671), (.int .i64 x12.1), (.int .i64 (w64 (600 + x17.1))), (.int .i64 (w64 (1000 + x22.1)))]) hL 1 rfl Try_T2 rfl rfl rfl rfl rfl ?_)
        intro wd678 hL
        refine OW.nil ?_
        have hL := hL.sel [1, 2, 3, 4] (by decide) rfl
        exact ⟨(x666.2.1, x666.2.2, x671, x12.1, w64 (600 + x17.1), w64 (1000 + x22.1)), hm, ⟨rfl, rfl, hL⟩⟩
      · refine CW.seq ?_
        refine CW.regionL ?_
        refine OW.cons (OP.val (v := (.bool (x450.1 == 1))) rfl (x_eql rfl rfl) ?_)
        refine OW.cons (OP.val (v := (.bool (x450.1 == 1))) rfl (x_assign) ?_)
        refine OW.nil ?_
        refine CW.condM (t := x450.1 == 1) rfl hm (fun hb679 hm => ?_) (fun hb679 hm => ?_)
        · refine CW.drawH (fun w' => Hp w0 [Ent.blk b6 46 #[(.int .i64 0), (.int .i64 0), (.int .i64 0), (.int .i64 0)], Ent.frz w0 (Ent.blk b1 111 #[v2, .int .i64 a0.at_, .int .i64 a0.seed]).S] w') Try_mixed ?_
          have hL := hL.call (Mod.drew _)
          have hS := (hL.sel [1, 3] (by decide) rfl)
          refine DH.take 0 rfl (by kernel_rfl) (by kernel_rfl) (by kernel_rfl) rfl rfl hS (YH.val (v := (.pointer (some ⟨b28, 3, none⟩))) (fun w' hS' => x_fieldAddr (fsz := 1) 0 3 3 Try.underlying46 rfl Try_T2 rfl rfl rfl)) ?_
          have hS := (hL.sel [1, 3] (by decide) rfl)
          refine DH.take 2 rfl (by kernel_rfl) (by kernel_rfl) (by kernel_rfl) rfl rfl hS (YH.val (v := (.pointer (some ⟨b28, 3, none⟩))) (fun w' hS' => x_fieldAddr (fsz := 1) 0 3 3 Try.underlying46 rfl Try_T2 rfl rfl rfl)) ?_
          have hS := (hL.sel [1, 3] (by decide) rfl)
          refine DH.take 6 rfl (by kernel_rfl) (by kernel_rfl) (by kernel_rfl) rfl rfl hS (YH.val (v := (.pointer (some ⟨b1, 0, none⟩))) (fun w' hS' => x_move)) ?_
          refine DH.all (rs := [1, 3, 7]) (by kernel_rfl) (by simp) ?_
          intro i696 hi697
          simp only [List.mem_cons, List.not_mem_nil, or_false] at hi697
          rcases hi697 with rfl | rfl | rfl
          · refine ⟨_, rfl, ?_⟩
            refine OP.val (v := (.int .i64 (w64 (1000 + x22.1)))) rfl (x_load1 Try.underlying2 rfl rfl (hL.cellB 0 rfl rfl)) ?_
            refine ⟨(hL.sel [1, 3] (by decide) rfl), ?_⟩
            refine DH.all (rs := [3, 7]) (by kernel_rfl) (by simp) ?_
            intro i698 hi699
            simp only [List.mem_cons, List.not_mem_nil, or_false] at hi699
            rcases hi699 with rfl | rfl
            · refine ⟨_, rfl, ?_⟩
              refine OP.val (v := (.int .i64 (w64 (1000 + x22.1)))) rfl (x_load1 Try.underlying2 rfl rfl (hL.cellB 0 rfl rfl)) ?_
              refine ⟨(hL.sel [1, 3] (by decide) rfl), ?_⟩
              have hS := (hL.sel [1, 3] (by decide) rfl)
              refine DH.take 4 rfl (by kernel_rfl) (by kernel_rfl) (by kernel_rfl) rfl rfl hS (YH.val (v := (.int .i64 (w64 ((w64 (1000 + x22.1)) + 1)))) (fun w' hS' => x_add rfl rfl)) ?_
              refine DH.all (rs := [5, 7]) (by kernel_rfl) (by simp) ?_
              intro i700 hi701
              simp only [List.mem_cons, List.not_mem_nil, or_false] at hi701
              rcases hi701 with rfl | rfl
              · refine ⟨_, rfl, ?_⟩
                refine S_lit ([0, w64 (1000 + x22.1), w64 ((w64 (1000 + x22.1)) + 1)] : List Int) hL Try.underlying35 Try_T2 rfl (by decide) (by first | (simp [Instr.fill, madeCells, Value.cells, ev, upd, Flat.enc, Flat.sz]; done) | rfl | kernel_rfl) rfl rfl ?_
                intro wd702 v703 S704 hL
                refine ⟨(hL.sel [2, 4] (by decide) rfl), ?_⟩
                obtain ⟨x705, hx706, hm⟩ := bndE hm
                refine DH.only 7 rfl (by kernel_rfl) (OP.call rfl (x_call (vs := [(.pointer (some ⟨b1, 0, none⟩)), (.int .i64 3)]) Try_C84 ⟨rfl, rfl, trivial⟩) (M.spec_l01Next_ok _ (Src.mk a0.code x450.2.1 x450.2.2) (hL.exZ 4 3 (by decide) rfl rfl h3) (hL.get 3 rfl) 3 hx706) ?_)
                rintro e707 wd708 ⟨rfl, hF709⟩
                refine ⟨_, rfl, ?_⟩
                have hL := hL.mut 3 rfl hF709
                simp only [lA, lB, lC, lD] at hL
                refine ⟨(hL.sel [2, 4] (by decide) rfl), ?_⟩
                have hS := (hL.sel [2, 4] (by decide) rfl)
                obtain ⟨x710, ha711, hm⟩ := bndE hm
                obtain ⟨hz712, ha716⟩ := idxE ha711
                obtain ⟨b713, q714, hix715⟩ := rdL_ix (hL.rdO 0 rfl) hz712 ha716
                refine DH.take 8 rfl (by kernel_rfl) (by kernel_rfl) (by kernel_rfl) rfl rfl hS (YH.val (v := (.pointer (some ⟨b713, q714, none⟩))) (fun w' hS' => x_ix Try.underlying35 Try_T2 rfl rfl hix715)) ?_
                refine DH.only 9 rfl (by kernel_rfl) (OP.val (v := (.int .i64 x710)) rfl (x_load1 Try.underlying2 rfl rfl (rdF_cells (hL.rdO 0 rfl) hix715 ha716 0 _ rfl)) ?_)
                refine ⟨(hL.sel [2, 4] (by decide) rfl), ?_⟩
                have hS := (hL.sel [2, 4] (by decide) rfl)
                refine DH.take 10 rfl (by kernel_rfl) (by kernel_rfl) (by kernel_rfl) rfl rfl hS (YH.val (v := (.pointer (some ⟨b28, 2, none⟩))) (fun w' hS' => x_fieldAddr (fsz := 1) 0 2 2 Try.underlying46 rfl Try_T2 rfl rfl rfl)) ?_
                refine DH.only 11 rfl (by kernel_rfl) (S_store (cs' := #[(.int .i64 x7.1), (.int .i64 x12.1), (.int .i64 x710), (.int .i64 (w64 (1000 + x22.1)))]) hL 1 rfl Try_T2 rfl rfl rfl rfl rfl ?_)
                intro wd717 hL
                refine ⟨(hL.sel [2, 4] (by decide) rfl), ?_⟩
                refine DH.done (by kernel_rfl) ?_
                have hL := hL.sel [1, 2, 3, 4] (by decide) rfl
                exact ⟨(x705.2.1, x705.2.2, x7.1, x12.1, x710, w64 (1000 + x22.1)), hm, ⟨rfl, rfl, hL⟩⟩
              · refine ⟨_, rfl, ?_⟩
                obtain ⟨x718, hx719, hm⟩ := bndE hm
                refine OP.call rfl (x_call (vs := [(.pointer (some ⟨b1, 0, none⟩)), (.int .i64 3)]) Try_C84 ⟨rfl, rfl, trivial⟩) (M.spec_l01Next_ok _ (Src.mk a0.code x450.2.1 x450.2.2) (hL.exZ 3 2 (by decide) rfl rfl h3) (hL.get 2 rfl) 3 hx719) ?_
                rintro e720 wd721 ⟨rfl, hF722⟩
                refine ⟨_, rfl, ?_⟩
                have hL := hL.mut 2 rfl hF722
                simp only [lA, lB, lC, lD] at hL
                refine ⟨(hL.sel [1, 3] (by decide) rfl), ?_⟩
                refine DH.only 5 rfl (by kernel_rfl) (S_lit ([0, w64 (1000 + x22.1), w64 ((w64 (1000 + x22.1)) + 1)] : List Int) hL Try.underlying35 Try_T2 rfl (by decide) (by first | (simp [Instr.fill, madeCells, Value.cells, ev, upd, Flat.enc, Flat.sz]; done) | rfl | kernel_rfl) rfl rfl ?_)
                intro wd723 v724 S725 hL
                refine ⟨(hL.sel [2, 4] (by decide) rfl), ?_⟩
                have hS := (hL.sel [2, 4] (by decide) rfl)
                obtain ⟨x726, ha727, hm⟩ := bndE hm
                obtain ⟨hz728, ha732⟩ := idxE ha727
                obtain ⟨b729, q730, hix731⟩ := rdL_ix (hL.rdO 0 rfl) hz728 ha732
                refine DH.take 8 rfl (by kernel_rfl) (by kernel_rfl) (by kernel_rfl) rfl rfl hS (YH.val (v := (.pointer (some ⟨b729, q730, none⟩))) (fun w' hS' => x_ix Try.underlying35 Try_T2 rfl rfl hix731)) ?_
                refine DH.only 9 rfl (by kernel_rfl) (OP.val (v := (.int .i64 x726)) rfl (x_load1 Try.underlying2 rfl rfl (rdF_cells (hL.rdO 0 rfl) hix731 ha732 0 _ rfl)) ?_)
                refine ⟨(hL.sel [2, 4] (by decide) rfl), ?_⟩
                have hS := (hL.sel [2, 4] (by decide) rfl)
                refine DH.take 10 rfl (by kernel_rfl) (by kernel_rfl) (by kernel_rfl) rfl rfl hS (YH.val (v := (.pointer (some ⟨b28, 2, none⟩))) (fun w' hS' => x_fieldAddr (fsz := 1) 0 2 2 Try.underlying46 rfl Try_T2 rfl rfl rfl)) ?_
                refine DH.only 11 rfl (by kernel_rfl) (S_store (cs' := #[(.int .i64 x7.1), (.int .i64 x12.1), (.int .i64 x726), (.int .i64 (w64 (1000 + x22.1)))]) hL 1 rfl Try_T2 rfl rfl rfl rfl rfl ?_)
                intro wd733 hL
                refine ⟨(hL.sel [2, 4] (by decide) rfl), ?_⟩
                refine DH.done (by kernel_rfl) ?_
                have hL := hL.sel [1, 2, 3, 4] (by decide) rfl
                exact ⟨(x718.2.1, x718.2.2, x7.1, x12.1, x726, w64 (1000 + x22.1)), hm, ⟨rfl, rfl, hL⟩⟩
            · refine ⟨_, rfl, ?_⟩
              obtain ⟨x734, hx735, hm⟩ := bndE hm
              refine OP.call rfl (x_call (vs := [(.pointer (some ⟨b1, 0, none⟩)), (.int .i64 3)]) Try_C84 ⟨rfl, rfl, trivial⟩) (M.spec_l01Next_ok _ (Src.mk a0.code x450.2.1 x450.2.2) (hL.exZ 3 2 (by decide) rfl rfl h3) (hL.get 2 rfl) 3 hx735) ?_
              rintro e736 wd737 ⟨rfl, hF738⟩
              refine ⟨_, rfl, ?_⟩
              have hL := hL.mut 2 rfl hF738
              simp only [lA, lB, lC, lD] at hL
              refine ⟨(hL.sel [1, 3] (by decide) rfl), ?_⟩
              refine DH.only 3 rfl (by kernel_rfl) (OP.val (v := (.int .i64 (w64 (1000 + x22.1)))) rfl (x_load1 Try.underlying2 rfl rfl (hL.cellB 0 rfl rfl)) ?_)
              refine ⟨(hL.sel [1, 3] (by decide) rfl), ?_⟩
              have hS := (hL.sel [1, 3] (by decide) rfl)
              refine DH.take 4 rfl (by kernel_rfl) (by kernel_rfl) (by kernel_rfl) rfl rfl hS (YH.val (v := (.int .i64 (w64 ((w64 (1000 + x22.1)) + 1)))) (fun w' hS' => x_add rfl rfl)) ?_
              refine DH.only 5 rfl (by kernel_rfl) (S_lit ([0, w64 (1000 + x22.1), w64 ((w64 (1000 + x22.1)) + 1)] : List Int) hL Try.underlying35 Try_T2 rfl (by decide) (by first | (simp [Instr.fill, madeCells, Value.cells, ev, upd, Flat.enc, Flat.sz]; done) | rfl | kernel_rfl) rfl rfl ?_)
              intro wd739 v740 S741 hL
              refine ⟨(hL.sel [2, 4] (by decide) rfl), ?_⟩
              have hS := (hL.sel [2, 4] (by decide) rfl)
              obtain ⟨x742, ha743, hm⟩ := bndE hm
              obtain ⟨hz744, ha748⟩ := idxE ha743
              obtain ⟨b745, q746, hix747⟩ := rdL_ix (hL.rdO 0 rfl) hz744 ha748
              refine DH.take 8 rfl (by kernel_rfl) (by kernel_rfl) (by kernel_rfl) rfl rfl hS (YH.val (v := (.pointer (some ⟨b745, q746, none⟩))) (fun w' hS' => x_ix Try.underlying35 Try_T2 rfl rfl hix747)) ?_
              refine DH.only 9 rfl (by kernel_rfl) (OP.val (v := (.int .i64 x742)) rfl (x_load1 Try.underlying2 rfl rfl (rdF_cells (hL.rdO 0 rfl) hix747 ha748 0 _ rfl)) ?_)
              refine ⟨(hL.sel [2, 4] (by decide) rfl), ?_⟩
              have hS := (hL.sel [2, 4] (by decide) rfl)
              refine DH.take 10 rfl (by kernel_rfl) (by kernel_rfl) (by kernel_rfl) rfl rfl hS (YH.val (v := (.pointer (some ⟨b28, 2, none⟩))) (fun w' hS' => x_fieldAddr (fsz := 1) 0 2 2 Try.underlying46 rfl Try_T2 rfl rfl rfl)) ?_
              refine DH.only 11 rfl (by kernel_rfl) (S_store (cs' := #[(.int .i64 x7.1), (.int .i64 x12.1), (.int .i64 x742), (.int .i64 (w64 (1000 + x22.1)))]) hL 1 rfl Try_T2 rfl rfl rfl rfl rfl ?_)
              intro wd749 hL
              refine ⟨(hL.sel [2, 4] (by decide) rfl), ?_⟩
              refine DH.done (by kernel_rfl) ?_
              have hL := hL.sel [1, 2, 3, 4] (by decide) rfl
              exact ⟨(x734.2.1, x734.2.2, x7.1, x12.1, x742, w64 (1000 + x22.1)), hm, ⟨rfl, rfl, hL⟩⟩
          · refine ⟨_, rfl, ?_⟩
            refine OP.val (v := (.int .i64 (w64 (1000 + x22.1)))) rfl (x_load1 Try.underlying2 rfl rfl (hL.cellB 0 rfl rfl)) ?_
            refine ⟨(hL.sel [1, 3] (by decide) rfl), ?_⟩
            have hS := (hL.sel [1, 3] (by decide) rfl)
            refine DH.take 4 rfl (by kernel_rfl) (by kernel_rfl) (by kernel_rfl) rfl rfl hS (YH.val (v := (.int .i64 (w64 ((w64 (1000 + x22.1)) + 1)))) (fun w' hS' => x_add rfl rfl)) ?_
            refine DH.all (rs := [1, 7]) (by kernel_rfl) (by simp) ?_
            intro i750 hi751
            simp only [List.mem_cons, List.not_mem_nil, or_false] at hi751
            rcases hi751 with rfl | rfl
            · refine ⟨_, rfl, ?_⟩
              refine OP.val (v := (.int .i64 (w64 (1000 + x22.1)))) rfl (x_load1 Try.underlying2 rfl rfl (hL.cellB 0 rfl rfl)) ?_
              refine ⟨(hL.sel [1, 3] (by decide) rfl), ?_⟩
              refine DH.all (rs := [5, 7]) (by kernel_rfl) (by simp) ?_
              intro i752 hi753
              simp only [List.mem_cons, List.not_mem_nil, or_false] at hi753
              rcases hi753 with rfl | rfl
              · refine ⟨_, rfl, ?_⟩
                refine S_lit ([0, w64 (1000 + x22.1), w64 ((w64 (1000 + x22.1)) + 1)] : List Int) hL Try.underlying35 Try_T2 rfl (by decide) (by first | (simp [Instr.fill, madeCells, Value.cells, ev, upd, Flat.enc, Flat.sz]; done) | rfl | kernel_rfl) rfl rfl ?_
                intro wd754 v755 S756 hL
                refine ⟨(hL.sel [2, 4] (by decide) rfl), ?_⟩
                obtain ⟨x757, hx758, hm⟩ := bndE hm
                refine DH.only 7 rfl (by kernel_rfl) (OP.call rfl (x_call (vs := [(.pointer (some ⟨b1, 0, none⟩)), (.int .i64 3)]) Try_C84 ⟨rfl, rfl, trivial⟩) (M.spec_l01Next_ok _ (Src.mk a0.code x450.2.1 x450.2.2) (hL.exZ 4 3 (by decide) rfl rfl h3) (hL.get 3 rfl) 3 hx758) ?_)
                rintro e759 wd760 ⟨rfl, hF761⟩
                refine ⟨_, rfl, ?_⟩
                have hL := hL.mut 3 rfl hF761
                simp only [lA, lB, lC, lD] at hL
                refine ⟨(hL.sel [2, 4] (by decide) rfl), ?_⟩
                have hS := (hL.sel [2, 4] (by decide) rfl)
                obtain ⟨x762, ha763, hm⟩ := bndE hm
                obtain ⟨hz764, ha768⟩ := idxE ha763
                obtain ⟨b765, q766, hix767⟩ := rdL_ix (hL.rdO 0 rfl) hz764 ha768
                refine DH.take 8 rfl (by kernel_rfl) (by kernel_rfl) (by kernel_rfl) rfl rfl hS (YH.val (v := (.pointer (some ⟨b765, q766, none⟩))) (fun w' hS' => x_ix Try.underlying35 Try_T2 rfl rfl hix767)) ?_
                refine DH.only 9 rfl (by kernel_rfl) (OP.val (v := (.int .i64 x762)) rfl (x_load1 Try.underlying2 rfl rfl (rdF_cells (hL.rdO 0 rfl) hix767 ha768 0 _ rfl)) ?_)
                refine ⟨(hL.sel [2, 4] (by decide) rfl), ?_⟩
                have hS := (hL.sel [2, 4] (by decide) rfl)
                refine DH.take 10 rfl (by kernel_rfl) (by kernel_rfl) (by kernel_rfl) rfl rfl hS (YH.val (v := (.pointer (some ⟨b28, 2, none⟩))) (fun w' hS' => x_fieldAddr (fsz := 1) 0 2 2 Try.underlying46 rfl Try_T2 rfl rfl rfl)) ?_
                refine DH.only 11 rfl (by kernel_rfl) (S_store (cs' := #[(.int .i64 x7.1), (.int .i64 x12.1), (.int .i64 x762), (.int .i64 (w64 (1000 + x22.1)))]) hL 1 rfl Try_T2 rfl rfl rfl rfl rfl ?_)
                intro wd769 hL
                refine ⟨(hL.sel [2, 4] (by decide) rfl), ?_⟩
                refine DH.done (by kernel_rfl) ?_
                have hL := hL.sel [1, 2, 3, 4] (by decide) rfl
                exact ⟨(x757.2.1, x757.2.2, x7.1, x12.1, x762, w64 (1000 + x22.1)), hm, ⟨rfl, rfl, hL⟩⟩
              · refine ⟨_, rfl, ?_⟩
                obtain ⟨x770, hx771, hm⟩ := bndE hm
                refine OP.call rfl (x_call (vs := [(.pointer (some ⟨b1, 0, none⟩)), (.int .i64 3)]) Try_C84 ⟨rfl, rfl, trivial⟩) (M.spec_l01Next_ok _ (Src.mk a0.code x450.2.1 x450.2.2) (hL.exZ 3 2 (by decide) rfl rfl h3) (hL.get 2 rfl) 3 hx771) ?_
                rintro e772 wd773 ⟨rfl, hF774⟩
                refine ⟨_, rfl, ?_⟩
                have hL := hL.mut 2 rfl hF774
                simp only [lA, lB, lC, lD] at hL
                refine ⟨(hL.sel [1, 3] (by decide) rfl), ?_⟩
                refine DH.only 5 rfl (by kernel_rfl) (S_lit ([0, w64 (1000 + x22.1), w64 ((w64 (1000 + x22.1)) + 1)] : List Int) hL Try.underlying35 Try_T2 rfl (by decide) (by first | (simp [Instr.fill, madeCells, Value.cells, ev, upd, Flat.enc, Flat.sz]; done) | rfl | kernel_rfl) rfl rfl ?_)
                intro wd775 v776 S777 hL
                refine ⟨(hL.sel [2, 4] (by decide) rfl), ?_⟩
                have hS := (hL.sel [2, 4] (by decide) rfl)
                obtain ⟨x778, ha779, hm⟩ := bndE hm
                obtain ⟨hz780, ha784⟩ := idxE ha779
                obtain ⟨b781, q782, hix783⟩ := rdL_ix (hL.rdO 0 rfl) hz780 ha784
                refine DH.take 8 rfl (by kernel_rfl) (by kernel_rfl) (by kernel_rfl) rfl rfl hS (YH.val (v := (.pointer (some ⟨b781, q782, none⟩))) (fun w' hS' => x_ix Try.underlying35 Try_T2 rfl rfl hix783)) ?_
                refine DH.only 9 rfl (by kernel_rfl) (OP.val (v := (.int .i64 x778)) rfl (x_load1 Try.underlying2 rfl rfl (rdF_cells (hL.rdO 0 rfl) hix783 ha784 0 _ rfl)) ?_)
                refine ⟨(hL.sel [2, 4] (by decide) rfl), ?_⟩
                have hS := (hL.sel [2, 4] (by decide) rfl)
                refine DH.take 10 rfl (by kernel_rfl) (by kernel_rfl) (by kernel_rfl) rfl rfl hS (YH.val (v := (.pointer (some ⟨b28, 2, none⟩))) (fun w' hS' => x_fieldAddr (fsz := 1) 0 2 2 Try.underlying46 rfl Try_T2 rfl rfl rfl)) ?_
                refine DH.only 11 rfl (by kernel_rfl) (S_store (cs' := #[(.int .i64 x7.1), (.int .i64 x12.1), (.int .i64 x778), (.int .i64 (w64 (1000 + x22.1)))]) hL 1 rfl Try_T2 rfl rfl rfl rfl rfl ?_)
                intro wd785 hL
                refine ⟨(hL.sel [2, 4] (by decide) rfl), ?_⟩
                refine DH.done (by kernel_rfl) ?_
                have hL := hL.sel [1, 2, 3, 4] (by decide) rfl
                exact ⟨(x770.2.1, x770.2.2, x7.1, x12.1, x778, w64 (1000 + x22.1)), hm, ⟨rfl, rfl, hL⟩⟩
            · refine ⟨_, rfl, ?_⟩
              obtain ⟨x786, hx787, hm⟩ := bndE hm
              refine OP.call rfl (x_call (vs := [(.pointer (some ⟨b1, 0, none⟩)), (.int .i64 3)]) Try_C84 ⟨rfl, rfl, trivial⟩) (M.spec_l01Next_ok _ (Src.mk a0.code x450.2.1 x450.2.2) (hL.exZ 3 2 (by decide) rfl rfl h3) (hL.get 2 rfl) 3 hx787) ?_
              rintro e788 wd789 ⟨rfl, hF790⟩
              refine ⟨_, rfl, ?_⟩
              have hL := hL.mut 2 rfl hF790
              simp only [lA, lB, lC, lD] at hL
              refine ⟨(hL.sel [1, 3] (by decide) rfl), ?_⟩
              refine DH.only 1 rfl (by kernel_rfl) (OP.val (v := (.int .i64 (w64 (1000 + x22.1)))) rfl (x_load1 Try.underlying2 rfl rfl (hL.cellB 0 rfl rfl)) ?_)
              refine ⟨(hL.sel [1, 3] (by decide) rfl), ?_⟩
              refine DH.only 5 rfl (by kernel_rfl) (S_lit ([0, w64 (1000 + x22.1), w64 ((w64 (1000 + x22.1)) + 1)] : List Int) hL Try.underlying35 Try_T2 rfl (by decide) (by first | (simp [Instr.fill, madeCells, Value.cells, ev, upd, Flat.enc, Flat.sz]; done) | rfl | kernel_rfl) rfl rfl ?_)
              intro wd791 v792 S793 hL
              refine ⟨(hL.sel [2, 4] (by decide) rfl), ?_⟩
              have hS := (hL.sel [2, 4] (by decide) rfl)
              obtain ⟨x794, ha795, hm⟩ := bndE hm
              obtain ⟨hz796, ha800⟩ := idxE ha795
              obtain ⟨b797, q798, hix799⟩ := rdL_ix (hL.rdO 0 rfl) hz796 ha800
              refine DH.take 8 rfl (by kernel_rfl) (by kernel_rfl) (by kernel_rfl) rfl rfl hS (YH.val (v := (.pointer (some ⟨b797, q798, none⟩))) (fun w' hS' => x_ix Try.underlying35 Try_T2 rfl rfl hix799)) ?_
              refine DH.only 9 rfl (by kernel_rfl) (OP.val (v := (.int .i64 x794)) rfl (x_load1 Try.underlying2 rfl rfl (rdF_cells (hL.rdO 0 rfl) hix799 ha800 0 _ rfl)) ?_)
              refine ⟨(hL.sel [2, 4] (by decide) rfl), ?_⟩
              have hS := (hL.sel [2, 4] (by decide) rfl)
              refine DH.take 10 rfl (by kernel_rfl) (by kernel_rfl) (by kernel_rfl) rfl rfl hS (YH.val (v := (.pointer (some ⟨b28, 2, none⟩))) (fun w' hS' => x_fieldAddr (fsz := 1) 0 2 2 Try.underlying46 rfl Try_T2 rfl rfl rfl)) ?_
              refine DH.only 11 rfl (by kernel_rfl) (S_store (cs' := #[(.int .i64 x7.1), (.int .i64 x12.1), (.int .i64 x794), (.int .i64 (w64 (1000 + x22.1)))]) hL 1 rfl Try_T2 rfl rfl rfl rfl rfl ?_)
              intro wd801 hL
              refine ⟨(hL.sel [2, 4] (by decide) rfl), ?_⟩
              refine DH.done (by kernel_rfl) ?_
              have hL := hL.sel [1, 2, 3, 4] (by decide) rfl
              exact ⟨(x786.2.1, x786.2.2, x7.1, x12.1, x794, w64 (1000 + x22.1)), hm, ⟨rfl, rfl, hL⟩⟩
          · refine ⟨_, rfl, ?_⟩
            obtain ⟨x802, hx803, hm⟩ := bndE hm
            refine OP.call rfl (x_call (vs := [(.pointer (some ⟨b1, 0, none⟩)), (.int .i64 3)]) Try_C84 ⟨rfl, rfl, trivial⟩) (M.spec_l01Next_ok _ (Src.mk a0.code x450.2.1 x450.2.2) (hL.exZ 3 2 (by decide) rfl rfl h3) (hL.get 2 rfl) 3 hx803) ?_
            rintro e804 wd805 ⟨rfl, hF806⟩
            refine ⟨_, rfl, ?_⟩
            have hL := hL.mut 2 rfl hF806
            simp only [lA, lB, lC, lD] at hL
            refine ⟨(hL.sel [1, 3] (by decide) rfl), ?_⟩
            refine DH.all (rs := [1, 3]) (by kernel_rfl) (by simp) ?_
            intro i807 hi808
            simp only [List.mem_cons, List.not_mem_nil, or_false] at hi808
            rcases hi808 with rfl | rfl
            · refine ⟨_, rfl, ?_⟩
              refine OP.val (v := (.int .i64 (w64 (1000 + x22.1)))) rfl (x_load1 Try.underlying2 rfl rfl (hL.cellB 0 rfl rfl)) ?_
              refine ⟨(hL.sel [1, 3] (by decide) rfl), ?_⟩
              refine DH.only 3 rfl (by kernel_rfl) (OP.val (v := (.int .i64 (w64 (1000 + x22.1)))) rfl (x_load1 Try.underlying2 rfl rfl (hL.cellB 0 rfl rfl)) ?_)
              refine ⟨(hL.sel [1, 3] (by decide) rfl), ?_⟩
              have hS := (hL.sel [1, 3] (by decide) rfl)
              refine DH.take 4 rfl (by kernel_rfl) (by kernel_rfl) (by kernel_rfl) rfl rfl hS (YH.val (v := (.int .i64 (w64 ((w64 (1000 + x22.1)) + 1)))) (fun w' hS' => x_add rfl rfl)) ?_
              refine DH.only 5 rfl (by kernel_rfl) (S_lit ([0, w64 (1000 + x22.1), w64 ((w64 (1000 + x22.1)) + 1)] : List Int) hL Try.underlying35 Try_T2 rfl (by decide) (by first | (simp [Instr.fill, madeCells, Value.cells, ev, upd, Flat.enc, Flat.sz]; done) | rfl | kernel_rfl) rfl rfl ?_)
              intro wd809 v810 S811 hL
              refine ⟨(hL.sel [2, 4] (by decide) rfl), ?_⟩
              have hS := (hL.sel [2, 4] (by decide) rfl)
              obtain ⟨x812, ha813, hm⟩ := bndE hm
              obtain ⟨hz814, ha818⟩ := idxE ha813
              obtain ⟨b815, q816, hix817⟩ := rdL_ix (hL.rdO 0 rfl) hz814 ha818
              refine DH.take 8 rfl (by kernel_rfl) (by kernel_rfl) (by kernel_rfl) rfl rfl hS (YH.val (v := (.pointer (some ⟨b815, q816, none⟩))) (fun w' hS' => x_ix Try.underlying35 Try_T2 rfl rfl hix817)) ?_
              refine DH.only 9 rfl (by kernel_rfl) (OP.val (v := (.int .i64 x812)) rfl (x_load1 Try.underlying2 rfl rfl (rdF_cells (hL.rdO 0 rfl) hix817 ha818 0 _ rfl)) ?_)
              refine ⟨(hL.sel [2, 4] (by decide) rfl), ?_⟩
              have hS := (hL.sel [2, 4] (by decide) rfl)
              refine DH.take 10 rfl (by kernel_rfl) (by kernel_rfl) (by kernel_rfl) rfl rfl hS (YH.val (v := (.pointer (some ⟨b28, 2, none⟩))) (fun w' hS' => x_fieldAddr (fsz := 1) 0 2 2 Try.underlying46 rfl Try_T2 rfl rfl rfl)) ?_
              refine DH.only 11 rfl (by kernel_rfl) (S_store (cs' := #[(.int .i64 x7.1), (.int .i64 x12.1), (.int .i64 x812), (.int .i64 (w64 (1000 + x22.1)))]) hL 1 rfl Try_T2 rfl rfl rfl rfl rfl ?_)
              intro wd819 hL
              refine ⟨(hL.sel [2, 4] (by decide) rfl), ?_⟩
              refine DH.done (by kernel_rfl) ?_
              have hL := hL.sel [1, 2, 3, 4] (by decide) rfl
              exact ⟨(x802.2.1, x802.2.2, x7.1, x12.1, x812, w64 (1000 + x22.1)), hm, ⟨rfl, rfl, hL⟩⟩
            · refine ⟨_, rfl, ?_⟩
              refine OP.val (v := (.int .i64 (w64 (1000 + x22.1)))) rfl (x_load1 Try.underlying2 rfl rfl (hL.cellB 0 rfl rfl)) ?_
              refine ⟨(hL.sel [1, 3] (by decide) rfl), ?_⟩
              have hS := (hL.sel [1, 3] (by decide) rfl)
              refine DH.take 4 rfl (by kernel_rfl) (by kernel_rfl) (by kernel_rfl) rfl rfl hS (YH.val (v := (.int .i64 (w64 ((w64 (1000 + x22.1)) + 1)))) (fun w' hS' => x_add rfl rfl)) ?_
              refine DH.only 1 rfl (by kernel_rfl) (OP.val (v := (.int .i64 (w64 (1000 + x22.1)))) rfl (x_load1 Try.underlying2 rfl rfl (hL.cellB 0 rfl rfl)) ?_)
              refine ⟨(hL.sel [1, 3] (by decide) rfl), ?_⟩
              refine DH.only 5 rfl (by kernel_rfl) (S_lit ([0, w64 (1000 + x22.1), w64 ((w64 (1000 + x22.1)) + 1)] : List Int) hL Try.underlying35 Try_T2 rfl (by decide) (by first | (simp [Instr.fill, madeCells, Value.cells, ev, upd, Flat.enc, Flat.sz]; done) | rfl | kernel_rfl) rfl rfl ?_)
              intro wd820 v821 S822 hL
              refine ⟨(hL.sel [2, 4] (by decide) rfl), ?_⟩
              have hS := (hL.sel [2, 4] (by decide) rfl)
              obtain ⟨x823, ha824, hm⟩ := bndE hm
              obtain ⟨hz825, ha829⟩ := idxE ha824
              obtain ⟨b826, q827, hix828⟩ := rdL_ix (hL.rdO 0 rfl) hz825 ha829
              refine DH.take 8 rfl (by kernel_rfl) (by kernel_rfl) (by kernel_rfl) rfl rfl hS (YH.val (v := (.pointer (some ⟨b826, q827, none⟩))) (fun w' hS' => x_ix Try.underlying35 Try_T2 rfl rfl hix828)) ?_
              refine DH.only 9 rfl (by kernel_rfl) (OP.val (v := (.int .i64 x823)) rfl (x_load1 Try.underlying2 rfl rfl (rdF_cells (hL.rdO 0 rfl) hix828 ha829 0 _ rfl)) ?_)
              refine ⟨(hL.sel [2, 4] (by decide) rfl), ?_⟩
              have hS := (hL.sel [2, 4] (by decide) rfl)
              refine DH.take 10 rfl (by kernel_rfl) (by kernel_rfl) (by kernel_rfl) rfl rfl hS (YH.val (v := (.pointer (some ⟨b28, 2, none⟩))) (fun w' hS' => x_fieldAddr (fsz := 1) 0 2 2 Try.underlying46 rfl Try_T2 rfl rfl rfl)) ?_
              refine DH.only 11 rfl (by kernel_rfl) (S_store (cs' := #[(.int .i64 x7.1), (.int .i64 x12.1), (.int .i64 x823), (.int .i64 (w64 (1000 + x22.1)))]) hL 1 rfl Try_T2 rfl rfl rfl rfl rfl ?_)
              intro wd830 hL
              refine ⟨(hL.sel [2, 4] (by decide) rfl), ?_⟩
              refine DH.done (by kernel_rfl) ?_
              have hL := hL.sel [1, 2, 3, 4] (by decide) rfl
              exact ⟨(x802.2.1, x802.2.2, x7.1, x12.1, x823, w64 (1000 + x22.1)), hm, ⟨rfl, rfl, hL⟩⟩
        · refine CW.seq ?_
          refine CW.regionL ?_
          refine OW.cons (OP.val (v := (.bool (x450.1 == 2))) rfl (x_eql rfl rfl) ?_)
          refine OW.cons (OP.val (v := (.bool (x450.1 == 2))) rfl (x_assign) ?_)
          refine OW.nil ?_
          refine CW.condM (t := x450.1 == 2) rfl hm (fun hb831 hm => ?_) (fun hb831 hm => ?_)
          · refine CW.regionL ?_
            refine OW.cons (S_lit ([3000, 3001] : List Int) hL Try.underlying35 Try_T2 rfl (by decide) (by first | (simp [Instr.fill, madeCells, Value.cells, ev, upd, Flat.enc, Flat.sz]; done) | rfl | kernel_rfl) rfl rfl ?_)
            intro wd832 v833 S834 hL
            refine OW.cons (OP.val (v := (.pointer (some ⟨b1, 0, none⟩))) rfl (x_move) ?_)
            obtain ⟨x835, hx836, hm⟩ := bndE hm
            refine OW.cons (OP.call rfl (x_call (vs := [(.pointer (some ⟨b1, 0, none⟩)), (.int .i64 2)]) Try_C84 ⟨rfl, rfl, trivial⟩) (M.spec_l01Next_ok _ (Src.mk a0.code x450.2.1 x450.2.2) (hL.exZ 4 3 (by decide) rfl rfl h3) (hL.get 3 rfl) 2 hx836) ?_)
            rintro e837 wd838 ⟨rfl, hF839⟩
            refine ⟨_, rfl, ?_⟩
            have hL := hL.mut 3 rfl hF839
            simp only [lA, lB, lC, lD] at hL
            obtain ⟨x840, ha841, hm⟩ := bndE hm
            obtain ⟨hz842, ha846⟩ := idxE ha841
            obtain ⟨b843, q844, hix845⟩ := rdL_ix (hL.rdO 0 rfl) hz842 ha846
            refine OW.cons (OP.val (v := (.pointer (some ⟨b843, q844, none⟩))) rfl (x_ix Try.underlying35 Try_T2 rfl rfl hix845) ?_)
            refine OW.cons (OP.val (v := (.int .i64 x840)) rfl (x_load1 Try.underlying2 rfl rfl (rdF_cells (hL.rdO 0 rfl) hix845 ha846 0 _ rfl)) ?_)
            refine OW.cons (OP.val (v := (.pointer (some ⟨b28, 3, none⟩))) rfl (x_fieldAddr (fsz := 1) 0 3 3 Try.underlying46 rfl Try_T2 rfl rfl rfl) ?_)
            refine OW.cons (S_store (cs' := #[(.int .i64 x7.1), (.int .i64 x12.1), (.int .i64 (w64 (600 + x17.1))), (.int .i64 x840)]) hL 1 rfl Try_T2 rfl rfl rfl rfl rfl ?_)
            intro wd847 hL
            refine OW.nil ?_
            have hL := hL.sel [1, 2, 3, 4] (by decide) rfl
            exact ⟨(x835.2.1, x835.2.2, x7.1, x12.1, w64 (600 + x17.1), x840), hm, ⟨rfl, rfl, hL⟩⟩
          · refine CW.seq ?_
            refine CW.regionL ?_
            refine OW.cons (OP.val (v := (.bool (x450.1 == 3))) rfl (x_eql rfl rfl) ?_)
            refine OW.cons (OP.val (v := (.bool (x450.1 == 3))) rfl (x_assign) ?_)
            refine OW.nil ?_
            refine CW.condM (t := x450.1 == 3) rfl hm (fun hb848 hm => ?_) (fun hb848 hm => ?_)
            · refine CW.regionL ?_
              refine OW.cons (S_lit ([(-1), 3000, 3001] : List Int) hL Try.underlying35 Try_T2 rfl (by decide) (by first | (simp [Instr.fill, madeCells, Value.cells, ev, upd, Flat.enc, Flat.sz]; done) | rfl | kernel_rfl) rfl rfl ?_)
              intro wd849 v850 S851 hL
              refine OW.cons (OP.val (v := (.pointer (some ⟨b1, 0, none⟩))) rfl (x_move) ?_)
              obtain ⟨x852, hx853, hm⟩ := bndE hm
              refine OW.cons (OP.call rfl (x_call (vs := [(.pointer (some ⟨b1, 0, none⟩)), (.int .i64 3)]) Try_C84 ⟨rfl, rfl, trivial⟩) (M.spec_l01Next_ok _ (Src.mk a0.code x450.2.1 x450.2.2) (hL.exZ 4 3 (by decide) rfl rfl h3) (hL.get 3 rfl) 3 hx853) ?_)
              rintro e854 wd855 ⟨rfl, hF856⟩
              refine ⟨_, rfl, ?_⟩
              have hL := hL.mut 3 rfl hF856
              simp only [lA, lB, lC, lD] at hL
              obtain ⟨x857, ha858, hm⟩ := bndE hm
              obtain ⟨hz859, ha863⟩ := idxE ha858
              obtain ⟨b860, q861, hix862⟩ := rdL_ix (hL.rdO 0 rfl) hz859 ha863
              refine OW.cons (OP.val (v := (.pointer (some ⟨b860, q861, none⟩))) rfl (x_ix Try.underlying35 Try_T2 rfl rfl hix862) ?_)
              refine OW.cons (OP.val (v := (.int .i64 x857)) rfl (x_load1 Try.underlying2 rfl rfl (rdF_cells (hL.rdO 0 rfl) hix862 ha863 0 _ rfl)) ?_)
              refine OW.cons (OP.val (v := (.pointer (some ⟨b28, 1, none⟩))) rfl (x_fieldAddr (fsz := 1) 0 1 1 Try.underlying46 rfl Try_T2 rfl rfl rfl) ?_)
              refine OW.cons (S_store (cs' := #[(.int .i64 x7.1), (.int .i64 x857), (.int .i64 (w64 (600 + x17.1))), (.int .i64 (w64 (1000 + x22.1)))]) hL 1 rfl Try_T2 rfl rfl rfl rfl rfl ?_)
              intro wd864 hL
              refine OW.nil ?_
              have hL := hL.sel [1, 2, 3, 4] (by decide) rfl
              exact ⟨(x852.2.1, x852.2.2, x7.1, x857, w64 (600 + x17.1), w64 (1000 + x22.1)), hm, ⟨rfl, rfl, hL⟩⟩
            · refine CW.skip ?_
              exact ⟨(x450.2.1, x450.2.2, x7.1, x12.1, w64 (600 + x17.1), w64 (1000 + x22.1)), hm, ⟨rfl, rfl, hL⟩⟩
    · intro s_j2 F658 wd659 hJ hm
      unfold M.spec_l25Draw_j2 at hm
      obtain ⟨f660, f661, hL⟩ := hJ
      exact ⟨(s_j2.1, s_j2.2.1, s_j2.2.2.1, s_j2.2.2.2.1, s_j2.2.2.2.2.1, s_j2.2.2.2.2.2), hm, ⟨f660, f661, hL⟩⟩
  · intro s_j1 F445 wd446 hJ hm
    unfold M.spec_l25Draw_j1 at hm
    obtain ⟨f447, f448, hL⟩ := hJ
    refine CW.seq ?_
    refine CW.regionL ?_
    refine OW.cons (OP.val (v := (.agg #[(.int .i64 s_j1.2.2.1), (.int .i64 s_j1.2.2.2.1), (.int .i64 s_j1.2.2.2.2.1), (.int .i64 s_j1.2.2.2.2.2)])) rfl (x_loadN (cs := [(.int .i64 s_j1.2.2.1), (.int .i64 s_j1.2.2.2.1), (.int .i64 s_j1.2.2.2.2.1), (.int .i64 s_j1.2.2.2.2.2)]) Try.underlying46 Try_T46 rfl f448 (hL.cellsB 0 rfl (o := 0) (l := [(.int .i64 s_j1.2.2.1), (.int .i64 s_j1.2.2.2.1), (.int .i64 s_j1.2.2.2.2.1), (.int .i64 s_j1.2.2.2.2.2)]) (by intro j u hj; exact (by simpa using hj)))) ?_)
    refine OW.cons (S_storeN (l := [(.int .i64 s_j1.2.2.1), (.int .i64 s_j1.2.2.2.1), (.int .i64 s_j1.2.2.2.2.1), (.int .i64 s_j1.2.2.2.2.2)]) (cs' := #[(.int .i64 s_j1.2.2.1), (.int .i64 s_j1.2.2.2.1), (.int .i64 s_j1.2.2.2.2.1), (.int .i64 s_j1.2.2.2.2.2)]) hL 1 rfl Try_T46 f447 rfl (List.forall_mem_cons.2 ⟨rfl, (List.forall_mem_cons.2 ⟨rfl, (List.forall_mem_cons.2 ⟨rfl, (List.forall_mem_cons.2 ⟨rfl, (fun _ h => by cases h)⟩)⟩)⟩)⟩) rfl (Nat.le_of_ble_eq_true rfl) rfl ?_)
    intro wd449 hL
    refine OW.nil ?_
    refine CW.ret ?_
    obtain rfl := Option.some.inj hm
    exact RRc rfl f447 (run_loadBlk Try.underlying46 Try_T46 (hL.get 1 rfl) rfl) ⟨rfl, hL.mutOut 3 rfl [2] (by decide) (by decide) rfl⟩

theorem M.spec_l22Time_ok (w0 : World) (a0 : Int) {r : Bool} (hm : M.spec_l22Time a0 = some r) :
    Calls Try.prog 87 #[(.int .i64 a0)] w0 fun e w' => e = .returned (.bool r) ∧ Fresh w0 w' [] := by
  unfold M.spec_l22Time at hm
  refine calls_CW (args := [(.int .i64 a0)]) Try.func87 rfl rfl rfl ?_
  have hL := Hp.start w0
  refine CW.seq ?_
  refine CW.regionL ?_
  refine OW.cons (OP.val (v := (.bool false)) rfl (x_assign) ?_)
  refine OW.nil ?_
  refine CW.seq ?_
  refine CW.regionL ?_
  refine OW.cons (OP.val (v := (.int .i64 a0)) rfl (x_move) ?_)
  obtain ⟨x1, hx2, hm⟩ := bndE hm
  refine OW.cons (OP.call rfl (x_call (vs := [(.int .i64 a0), (.int .i64 1), (.int .i64 1000000000)]) Try_C75 ⟨rfl, rfl, rfl, trivial⟩) (M.spec_l01In_ok _ a0 1 1000000000 hx2) ?_)
  rintro e3 wd4 ⟨rfl, hF5⟩
  refine ⟨_, rfl, ?_⟩
  have hL := hL.pushAll hF5
  simp only [lA, lB, lC, lD] at hL
  refine OW.cons (OP.val (v := (.bool x1)) rfl (x_assign) ?_)
  refine OW.nil ?_
  refine CW.ret ?_
  obtain rfl := Option.some.inj hm
  exact RR1 rfl rfl ⟨rfl, hL.fresh 0 rfl [] (by decide) (by decide) rfl⟩

theorem M.spec_l25DrawSeries_ok (w0 : World) {b1 : Nat} {v2 : Value} (a0 : Src) (h3 : rdL (fun k => k < w0.heap.size ∧ ¬ (Ent.blk b1 111 #[v2, .int .i64 a0.at_, .int .i64 a0.seed]).S k) w0 v2 a0.code) (he4 : (Ent.blk b1 111 #[v2, .int .i64 a0.at_, .int .i64 a0.seed]).H w0) {r : (Int × (List (List Finish))) × (Int × Int)} (hm : M.spec_l25DrawSeries a0 = some r) :
    Calls Try.prog 70 #[(.pointer (some ⟨b1, 0, none⟩))] w0 fun e w' => ∃ (rv0 : Value) (rS0 : Nat → Prop), e = .returned (.tuple #[(.int .i64 r.1.1), rv0]) ∧ Mut w0 w' (Ent.blk b1 111 #[v2, .int .i64 a0.at_, .int .i64 a0.seed]).S [Ent.blk b1 111 #[v2, .int .i64 r.2.1, .int .i64 r.2.2], Ent.own 28 rS0 rv0 r.1.2] := by
  unfold M.spec_l25DrawSeries at hm
  refine calls_CW (args := [(.pointer (some ⟨b1, 0, none⟩))]) Try.func70 rfl rfl rfl ?_
  have hL := Hp.startIO he4
  refine CW.seq ?_
  refine CW.regionL ?_
  refine OW.cons (OP.val (v := (.int .i64 0)) rfl (x_assign) ?_)
  refine OW.cons (OP.val (v := (.slice none 0 0)) rfl (x_assign) ?_)
  refine OW.nil ?_
  refine CW.seq ?_
  refine CW.regionL ?_
  refine OW.cons (OP.val (v := (.pointer (some ⟨b1, 0, none⟩))) rfl (x_move) ?_)
  obtain ⟨x5, hx6, hm⟩ := bndE hm
  refine OW.cons (OP.call rfl (x_call (vs := [(.pointer (some ⟨b1, 0, none⟩))]) Try_C65 ⟨rfl, trivial⟩) (M.spec_l22DrawRace_ok _ (Src.mk a0.code a0.at_ a0.seed) (hL.exZ 1 0 (by decide) rfl rfl h3) (hL.get 0 rfl) hx6) ?_)
  rintro e9 wd10 ⟨v8, S7, rfl, hF11⟩
  refine ⟨_, rfl, ?_⟩
  have hL := hL.mut 0 rfl hF11
  simp only [lA, lB, lC, lD] at hL
  refine OW.cons (OP.val (v := (.tuple #[(.int .i64 x5.1.1), v8])) rfl (x_move) ?_)
  refine OW.cons (OP.val (v := (.int .i64 x5.1.1)) rfl (x_extract rfl rfl) ?_)
  refine OW.cons (OP.val (v := v8) rfl (x_extract rfl rfl) ?_)
  refine OW.cons (OP.val (v := (.int .i64 x5.1.1)) rfl (x_assign) ?_)
  refine OW.cons (OP.val (v := v8) rfl (x_assign) ?_)
  refine OW.nil ?_
  refine CW.seq ?_
  refine CW.regionL ?_
  refine OW.cons (S_lit0 (α := Finish) (List Finish) hL Try.underlying63 Try_T28 rfl ?_)
  intro wd12 v13 S14 hL
  refine OW.cons (OP.val (v := v13) rfl (x_assign) ?_)
  refine OW.nil ?_
  refine CW.seq ?_
  refine CW.seq ?_
  refine CW.regionL ?_
  refine OW.cons (OP.val (v := (.pointer (some ⟨b1, 0, none⟩))) rfl (x_move) ?_)
  obtain ⟨x15, hx16, hm⟩ := bndE hm
  refine OW.cons (OP.call rfl (x_call (vs := [(.pointer (some ⟨b1, 0, none⟩)), (.int .i64 4)]) Try_C84 ⟨rfl, rfl, trivial⟩) (M.spec_l01Next_ok _ (Src.mk a0.code x5.2.1 x5.2.2) (hL.exZ 3 2 (by decide) rfl rfl h3) (hL.get 2 rfl) 4 hx16) ?_)
  rintro e17 wd18 ⟨rfl, hF19⟩
  refine ⟨_, rfl, ?_⟩
  have hL := hL.mut 2 rfl hF19
  simp only [lA, lB, lC, lD] at hL
  refine OW.cons (OP.val (v := (.int .i64 x15.1)) rfl (x_assign) ?_)
  refine OW.nil ?_
  obtain ⟨o2790, ho2791, hm⟩ := bndE hm
  refine CW.loopB (fun (s_l1 : Int × Int × (List Finish) × (List (List Finish)) × Int) (F : Fr) (w : World) => ∃ (S2785 : Nat → Prop) (v2786 : Value) (S2787 : Nat → Prop), F 0 = (.pointer (some ⟨b1, 0, none⟩)) ∧ F 4 = (.int .i64 x5.1.1) ∧ F 5 = v8 ∧ F 6 = v2786 ∧ F 7 = (.int .i64 s_l1.2.2.2.2) ∧ Hp w0 [Ent.own 28 S2787 v2786 s_l1.2.2.2.1, Ent.own 56 S2785 v8 s_l1.2.2.1, Ent.blk b1 111 #[v2, (.int .i64 s_l1.1), (.int .i64 s_l1.2.1)], Ent.frz w0 (Ent.blk b1 111 #[v2, .int .i64 a0.at_, .int .i64 a0.seed]).S] w) (fun o => outc o (fun x => some x) (fun s => M.spec_l25DrawSeries_a1 a0 x5 s) = some r) ho2791 hm ⟨S7, v13, S14, rfl, rfl, rfl, rfl, rfl, hL⟩ ?_ ?_
  · intro s_l1 F2792 wd2793 hJ hm
    have hm := outcE hm
    have hm : M.spec_l25DrawSeries_a1 a0 x5 s_l1 = some r := hm
    unfold M.spec_l25DrawSeries_a1 at hm
    obtain ⟨S2785, v2786, S2787, f2794, f2795, f2796, f2797, f2798, hL⟩ := hJ
    refine CW.seqJ (fun (s_j1 : Int × Int × (List (List Finish))) (F : Fr) (w : World) => ∃ (v2974 : Value) (S2975 : Nat → Prop), F 4 = (.int .i64 x5.1.1) ∧ F 6 = v2974 ∧ Hp w0 [Ent.own 28 S2975 v2974 s_j1.2.2, Ent.blk b1 111 #[v2, (.int .i64 s_j1.1), (.int .i64 s_j1.2.1)], Ent.frz w0 (Ent.blk b1 111 #[v2, .int .i64 a0.at_, .int .i64 a0.seed]).S] w) (fun s_j1 => M.spec_l25DrawSeries_j1 x5 s_j1 = some r) ?_ ?_
    · refine CW.seq ?_
      refine CW.regionL ?_
      refine OW.cons (OP.val (v := (.pointer (some ⟨b1, 0, none⟩))) rfl (x_mv f2794) ?_)
      obtain ⟨x2980, hx2981, hm⟩ := bndE hm
      refine OW.cons (OP.call rfl (x_call (vs := [(.pointer (some ⟨b1, 0, none⟩)), (.int .i64 30)]) Try_C84 ⟨rfl, rfl, trivial⟩) (M.spec_l01Next_ok _ (Src.mk a0.code s_l1.1 s_l1.2.1) (hL.exZ 3 2 (by decide) rfl rfl h3) (hL.get 2 rfl) 30 hx2981) ?_)
      rintro e2982 wd2983 ⟨rfl, hF2984⟩
      refine ⟨_, rfl, ?_⟩
      have hL := hL.mut 2 rfl hF2984
      simp only [lA, lB, lC, lD] at hL
      refine OW.nil ?_
      refine CW.blockJ (fun (s_j2 : Int × Int × (List (List Finish))) (F : Fr) (w : World) => ∃ (v3067 : Value) (S3068 : Nat → Prop), F 4 = (.int .i64 x5.1.1) ∧ F 6 = v3067 ∧ Hp w0 [Ent.own 28 S3068 v3067 s_j2.2.2, Ent.blk b1 111 #[v2, (.int .i64 s_j2.1), (.int .i64 s_j2.2.1)], Ent.frz w0 (Ent.blk b1 111 #[v2, .int .i64 a0.at_, .int .i64 a0.seed]).S] w) (fun s_j2 => M.spec_l25DrawSeries_j2 x5 s_j2 = some r) ?_ ?_
      · refine CW.seq ?_
        refine CW.regionL ?_
        refine OW.cons (OP.val (v := (.bool (x2980.1 == 0))) rfl (x_eql rfl rfl) ?_)
        refine OW.cons (OP.val (v := (.bool (x2980.1 == 0))) rfl (x_assign) ?_)
        refine OW.nil ?_
        refine CW.condM (t := x2980.1 == 0) rfl hm (fun hb3073 hm => ?_) (fun hb3073 hm => ?_)
        · refine CW.seq ?_
          refine CW.regionL ?_
          refine OW.cons (OP.val (v := (.int .i64 x5.1.1)) rfl (x_mv f2795) ?_)
          refine OW.cons (OP.val (v := (.int .i64 (w64 (x5.1.1 + 1)))) rfl (x_add rfl rfl) ?_)
          refine OW.cons (OP.val (v := v2786) rfl (x_mv f2797) ?_)
          refine OW.cons (OP.val (v := (.int .i64 (w64 (x5.1.1 + 1)))) rfl (x_assign) ?_)
          refine OW.cons (OP.val (v := v2786) rfl (x_assign) ?_)
          refine OW.nil ?_
          refine CW.ret ?_
          obtain rfl := Option.some.inj hm
          exact RR2 rfl rfl rfl ⟨v2786, S2787, rfl, hL.mutOut 3 rfl [2, 0] (by decide) (by decide) rfl⟩
        · refine CW.seq ?_
          refine CW.regionL ?_
          refine OW.cons (OP.val (v := (.bool (x2980.1 == 1))) rfl (x_eql rfl rfl) ?_)
          refine OW.cons (OP.val (v := (.bool (x2980.1 == 1))) rfl (x_assign) ?_)
          refine OW.nil ?_
          refine CW.condM (t := x2980.1 == 1) rfl hm (fun hb3074 hm => ?_) (fun hb3074 hm => ?_)
          · obtain ⟨o3121, ho3122, hm⟩ := bndE hm
            refine CW.loopB (fun (s_l2 : Int × Int × (List (List Finish))) (F : Fr) (w : World) => ∃ (v3117 : Value) (S3118 : Nat → Prop), F 0 = (.pointer (some ⟨b1, 0, none⟩)) ∧ F 4 = (.int .i64 x5.1.1) ∧ F 5 = v8 ∧ F 6 = v3117 ∧ Hp w0 [Ent.own 28 S3118 v3117 s_l2.2.2, Ent.own 56 S2785 v8 s_l1.2.2.1, Ent.blk b1 111 #[v2, (.int .i64 s_l2.1), (.int .i64 s_l2.2.1)], Ent.frz w0 (Ent.blk b1 111 #[v2, .int .i64 a0.at_, .int .i64 a0.seed]).S] w) (fun o => outc o (fun x => some x) (fun s => M.spec_l25DrawSeries_a2 x5 s) = some r) ho3122 hm ⟨v2786, S2787, f2794, f2795, f2796, f2797, hL⟩ ?_ ?_
            · intro s_l2 F3123 wd3124 hJ hm
              have hm := outcE hm
              have hm : M.spec_l25DrawSeries_a2 x5 s_l2 = some r := hm
              unfold M.spec_l25DrawSeries_a2 at hm
              obtain ⟨v3117, S3118, f3125, f3126, f3127, f3128, hL⟩ := hJ
              have hL := hL.sel [0, 2, 3] (by decide) rfl
              exact ⟨(s_l2.1, s_l2.2.1, s_l2.2.2), hm, ⟨v3117, S3118, f3126, f3128, hL⟩⟩
            · intro s_l2 F3129 wd3130 t3119 hJ hm hr3120
              unfold M.spec_l25DrawSeries_l2 at hm
              obtain ⟨v3117, S3118, f3131, f3132, f3133, f3134, hL⟩ := hJ
              refine CW.seq ?_
              refine CW.seq ?_
              refine CW.regionL ?_
              refine OW.cons (OP.val (v := v3117) rfl (x_mv f3134) ?_)
              refine OW.cons (OP.val (v := (.int .i64 (s_l2.2.2.length : Int))) rfl (x_lenR Try.underlying63 rfl (hL.rdO 0 rfl)) ?_)
              refine OW.cons (OP.val (v := (.pointer (some ⟨b1, 0, none⟩))) rfl (x_mv f3131) ?_)
              obtain ⟨x3135, hx3136, hm⟩ := bndE hm
              refine OW.cons (OP.call rfl (x_call (vs := [(.pointer (some ⟨b1, 0, none⟩)), (.int .i64 2)]) Try_C84 ⟨rfl, rfl, trivial⟩) (M.spec_l01Next_ok _ (Src.mk a0.code s_l2.1 s_l2.2.1) (hL.exZ 3 2 (by decide) rfl rfl h3) (hL.get 2 rfl) 2 hx3136) ?_)
              rintro e3137 wd3138 ⟨rfl, hF3139⟩
              refine ⟨_, rfl, ?_⟩
              have hL := hL.mut 2 rfl hF3139
              simp only [lA, lB, lC, lD] at hL
              refine OW.cons (OP.val (v := (.int .i64 (w64 (20 + x3135.1)))) rfl (x_add rfl rfl) ?_)
              refine OW.cons (OP.val (v := (.bool (decide ((s_l2.2.2.length : Int) < (w64 (20 + x3135.1)))))) rfl (x_lss rfl rfl) ?_)
              refine OW.nil ?_
              refine CW.condM (t := decide ((s_l2.2.2.length : Int) < (w64 (20 + x3135.1)))) rfl hm (fun hb3140 hm => ?_) (fun hb3140 hm => ?_)
              · refine CW.skip ?_
                refine CW.block ?_
                refine CW.regionL ?_
                refine OW.cons (OP.val (v := v3117) rfl (x_mv f3134) ?_)
                refine OW.cons (S_lit ([] : List Finish) hL Try.underlying28 Try_T56 rfl (by decide) (by first | (simp [Instr.fill, madeCells, Value.cells, ev, upd, Flat.enc, Flat.sz]; done) | rfl | kernel_rfl) rfl rfl ?_)
                intro wd3141 v3142 S3143 hL
                refine OW.cons (OP.val (v := v8) rfl (x_mv f3133) ?_)
                obtain ⟨hc3147, hm⟩ := chkE hm
                refine OW.cons (S_append (ys := s_l1.2.2.1) hL 0 rfl Try.underlying28 Try_T56 rfl rfl rfl (hL.rdO 2 rfl) hc3147 (by decide) rfl ?_)
                intro wd3144 v3145 S3146 hL
                refine OW.cons (S_lit1 (([] : List Finish) ++ s_l1.2.2.1) rfl hL Try.underlying63 Try_T28 ((congrArg Value.cells (show _ = v3145 from rfl)).trans (rdL_cells (hL.rdO 0 rfl))) rfl ?_)
                intro wd3148 v3149 S3150 hL
                obtain ⟨hc3154, hm⟩ := chkE hm
                have hL := hL.sel [1, 0, 2, 3, 4] (by decide) rfl
                refine OW.cons (S_appendN Finish hL Try.underlying63 Try_T28 rfl rfl rfl hc3154 (by decide) rfl ?_)
                intro wd3151 v3152 S3153 hL
                refine OW.cons (OP.val (v := v3152) rfl (x_assign) ?_)
                refine OW.nil ?_
                obtain rfl := Option.some.inj hm
                exact ⟨_, rfl, ⟨v3152, S3153, f3131, f3132, f3133, rfl, hL⟩⟩
              · refine CW.exit ?_
                refine XJ.hit ?_
                obtain rfl := Option.some.inj hm
                exact ⟨_, rfl, ⟨v3117, S3118, f3131, f3132, f3133, f3134, hL⟩⟩
          · refine CW.skip ?_
            have hL := hL.sel [0, 2, 3] (by decide) rfl
            exact ⟨(x2980.2.1, x2980.2.2, s_l1.2.2.2.1), hm, ⟨v2786, S2787, f2795, f2797, hL⟩⟩
      · intro s_j2 F3069 wd3070 hJ hm
        unfold M.spec_l25DrawSeries_j2 at hm
        obtain ⟨v3067, S3068, f3071, f3072, hL⟩ := hJ
        exact ⟨(s_j2.1, s_j2.2.1, s_j2.2.2), hm, ⟨v3067, S3068, f3071, f3072, hL⟩⟩
    · intro s_j1 F2976 wd2977 hJ hm
      unfold M.spec_l25DrawSeries_j1 at hm
      obtain ⟨v2974, S2975, f2978, f2979, hL⟩ := hJ
      refine CW.seq ?_
      refine CW.regionL ?_
      refine OW.cons (OP.val (v := (.int .i64 x5.1.1)) rfl (x_mv f2978) ?_)
      refine OW.cons (OP.val (v := v2974) rfl (x_mv f2979) ?_)
      refine OW.cons (OP.val (v := (.int .i64 x5.1.1)) rfl (x_assign) ?_)
      refine OW.cons (OP.val (v := v2974) rfl (x_assign) ?_)
      refine OW.nil ?_
      refine CW.ret ?_
      obtain rfl := Option.some.inj hm
      exact RR2 rfl rfl rfl ⟨v2974, S2975, rfl, hL.mutOut 2 rfl [1, 0] (by decide) (by decide) rfl⟩
  · intro s_l1 F3155 wd3156 t2788 hJ hm hr2789
    unfold M.spec_l25DrawSeries_l1 at hm
    obtain ⟨S2785, v2786, S2787, f3157, f3158, f3159, f3160, f3161, hL⟩ := hJ
    refine CW.seq ?_
    refine CW.seq ?_
    refine CW.regionL ?_
    refine OW.cons (OP.val (v := (.int .i64 s_l1.2.2.2.2)) rfl (x_mv f3161) ?_)
    refine OW.cons (OP.val (v := (.bool (decide (0 < s_l1.2.2.2.2)))) rfl (x_gtr rfl rfl) ?_)
    refine OW.nil ?_
    refine CW.condM (t := decide (0 < s_l1.2.2.2.2)) rfl hm (fun hb3162 hm => ?_) (fun hb3162 hm => ?_)
    · refine CW.skip ?_
      refine CW.seq ?_
      refine CW.block ?_
      refine CW.seq ?_
      refine CW.regionL ?_
      refine OW.cons (OP.val (v := v2786) rfl (x_mv f3160) ?_)
      refine OW.cons (S_lit ([] : List Finish) hL Try.underlying28 Try_T56 rfl (by decide) (by first | (simp [Instr.fill, madeCells, Value.cells, ev, upd, Flat.enc, Flat.sz]; done) | rfl | kernel_rfl) rfl rfl ?_)
      intro wd3163 v3164 S3165 hL
      refine OW.cons (OP.val (v := v8) rfl (x_mv f3159) ?_)
      obtain ⟨hc3169, hm⟩ := chkE hm
      refine OW.cons (S_append (ys := s_l1.2.2.1) hL 0 rfl Try.underlying28 Try_T56 rfl rfl rfl (hL.rdO 2 rfl) hc3169 (by decide) rfl ?_)
      intro wd3166 v3167 S3168 hL
      refine OW.cons (S_lit1 (([] : List Finish) ++ s_l1.2.2.1) rfl hL Try.underlying63 Try_T28 ((congrArg Value.cells (show _ = v3167 from rfl)).trans (rdL_cells (hL.rdO 0 rfl))) rfl ?_)
      intro wd3170 v3171 S3172 hL
      obtain ⟨hc3176, hm⟩ := chkE hm
      have hL := hL.sel [1, 0, 2, 3, 4] (by decide) rfl
      refine OW.cons (S_appendN Finish hL Try.underlying63 Try_T28 rfl rfl rfl hc3176 (by decide) rfl ?_)
      intro wd3173 v3174 S3175 hL
      refine OW.cons (OP.val (v := v3174) rfl (x_assign) ?_)
      refine OW.nil ?_
      refine CW.seq ?_
      refine CW.regionL ?_
      refine OW.cons (OP.val (v := (.int .i64 0)) rfl (x_assign) ?_)
      refine OW.nil ?_
      obtain ⟨o4077, ho4078, hm⟩ := bndE hm
      refine CW.loopB (fun (s_l3 : Int × Int × (List Finish) × Int) (F : Fr) (w : World) => ∃ (S4074 : Nat → Prop), F 0 = (.pointer (some ⟨b1, 0, none⟩)) ∧ F 4 = (.int .i64 x5.1.1) ∧ F 5 = v8 ∧ F 6 = v3174 ∧ F 7 = (.int .i64 s_l1.2.2.2.2) ∧ F 8 = (.int .i64 s_l3.2.2.2) ∧ Hp w0 [Ent.own 28 S3175 v3174 (s_l1.2.2.2.1 ++ ([([] : List Finish) ++ s_l1.2.2.1] : List (List Finish))), Ent.own 56 S4074 v8 s_l3.2.2.1, Ent.blk b1 111 #[v2, (.int .i64 s_l3.1), (.int .i64 s_l3.2.1)], Ent.frz w0 (Ent.blk b1 111 #[v2, .int .i64 a0.at_, .int .i64 a0.seed]).S] w) (fun o => outc o (fun x => some (.ret x)) (fun s => M.spec_l25DrawSeries_a3 s_l1 s) = some t2788) ho4078 hm ⟨S2785, f3157, f3158, f3159, rfl, f3161, rfl, hL⟩ ?_ ?_
      · intro s_l3 F4079 wd4080 hJ hm
        have hm := outcE hm
        have hm : M.spec_l25DrawSeries_a3 s_l1 s_l3 = some t2788 := hm
        unfold M.spec_l25DrawSeries_a3 at hm
        obtain ⟨S4074, f4081, f4082, f4083, f4084, f4085, f4086, hL⟩ := hJ
        refine CW.regionL ?_
        refine OW.cons (OP.val (v := (.int .i64 s_l1.2.2.2.2)) rfl (x_mv f4085) ?_)
        refine OW.cons (OP.val (v := (.int .i64 (w64 (s_l1.2.2.2.2 - 1)))) rfl (x_sub rfl rfl) ?_)
        refine OW.cons (OP.val (v := (.int .i64 (w64 (s_l1.2.2.2.2 - 1)))) rfl (x_assign) ?_)
        refine OW.nil ?_
        obtain rfl := Option.some.inj hm
        exact ⟨_, rfl, ⟨S4074, v3174, S3175, f4081, f4082, f4083, f4084, rfl, hL⟩⟩
      · intro s_l3 F4087 wd4088 t4075 hJ hm hr4076
        unfold M.spec_l25DrawSeries_l3 at hm
        obtain ⟨S4074, f4089, f4090, f4091, f4092, f4093, f4094, hL⟩ := hJ
        refine CW.seq ?_
        refine CW.seq ?_
        refine CW.regionL ?_
        refine OW.cons (OP.val (v := (.int .i64 s_l3.2.2.2)) rfl (x_mv f4094) ?_)
        refine OW.cons (OP.val (v := v8) rfl (x_mv f4091) ?_)
        refine OW.cons (OP.val (v := (.int .i64 (s_l3.2.2.1.length : Int))) rfl (x_lenR Try.underlying28 rfl (hL.rdO 1 rfl)) ?_)
        refine OW.cons (OP.val (v := (.bool (decide (s_l3.2.2.2 < (s_l3.2.2.1.length : Int))))) rfl (x_lss rfl rfl) ?_)
        refine OW.nil ?_
        refine CW.condM (t := decide (s_l3.2.2.2 < (s_l3.2.2.1.length : Int))) rfl hm (fun hb4095 hm => ?_) (fun hb4095 hm => ?_)
        · refine CW.skip ?_
          refine CW.seqJ (fun (s_j3 : Int × Int × (List Finish)) (F : Fr) (w : World) => ∃ (S4315 : Nat → Prop), F 0 = (.pointer (some ⟨b1, 0, none⟩)) ∧ F 4 = (.int .i64 x5.1.1) ∧ F 5 = v8 ∧ F 6 = v3174 ∧ F 7 = (.int .i64 s_l1.2.2.2.2) ∧ F 8 = (.int .i64 s_l3.2.2.2) ∧ Hp w0 [Ent.own 28 S3175 v3174 (s_l1.2.2.2.1 ++ ([([] : List Finish) ++ s_l1.2.2.1] : List (List Finish))), Ent.own 56 S4315 v8 s_j3.2.2, Ent.blk b1 111 #[v2, (.int .i64 s_j3.1), (.int .i64 s_j3.2.1)], Ent.frz w0 (Ent.blk b1 111 #[v2, .int .i64 a0.at_, .int .i64 a0.seed]).S] w) (fun s_j3 => M.spec_l25DrawSeries_j3 s_l3 s_j3 = some t4075) ?_ ?_
          · refine CW.blockJ (fun (s_j4 : Int × Int × (List Finish)) (F : Fr) (w : World) => ∃ (S4429 : Nat → Prop), F 0 = (.pointer (some ⟨b1, 0, none⟩)) ∧ F 4 = (.int .i64 x5.1.1) ∧ F 5 = v8 ∧ F 6 = v3174 ∧ F 7 = (.int .i64 s_l1.2.2.2.2) ∧ F 8 = (.int .i64 s_l3.2.2.2) ∧ Hp w0 [Ent.own 28 S3175 v3174 (s_l1.2.2.2.1 ++ ([([] : List Finish) ++ s_l1.2.2.1] : List (List Finish))), Ent.own 56 S4429 v8 s_j4.2.2, Ent.blk b1 111 #[v2, (.int .i64 s_j4.1), (.int .i64 s_j4.2.1)], Ent.frz w0 (Ent.blk b1 111 #[v2, .int .i64 a0.at_, .int .i64 a0.seed]).S] w) (fun s_j4 => M.spec_l25DrawSeries_j4 s_l3 s_j4 = some t4075) ?_ ?_
            · refine CW.seqJ (fun (s_j5 : Bool) (F : Fr) (w : World) => F 0 = (.pointer (some ⟨b1, 0, none⟩)) ∧ F 4 = (.int .i64 x5.1.1) ∧ F 5 = v8 ∧ F 6 = v3174 ∧ F 7 = (.int .i64 s_l1.2.2.2.2) ∧ F 8 = (.int .i64 s_l3.2.2.2) ∧ F 47 = (.bool s_j5) ∧ Hp w0 [Ent.own 28 S3175 v3174 (s_l1.2.2.2.1 ++ ([([] : List Finish) ++ s_l1.2.2.1] : List (List Finish))), Ent.own 56 S4074 v8 s_l3.2.2.1, Ent.blk b1 111 #[v2, (.int .i64 s_l3.1), (.int .i64 s_l3.2.1)], Ent.frz w0 (Ent.blk b1 111 #[v2, .int .i64 a0.at_, .int .i64 a0.seed]).S] w) (fun s_j5 => M.spec_l25DrawSeries_j5 a0 s_l3 s_j5 = some t4075) ?_ ?_
              · refine CW.regionL ?_
                refine OW.cons (OP.val (v := v8) rfl (x_mv f4091) ?_)
                refine OW.cons (OP.val (v := (.int .i64 s_l3.2.2.2)) rfl (x_mv f4094) ?_)
                obtain ⟨x4523, ha4524, hm⟩ := bndE hm
                obtain ⟨hz4525, ha4529⟩ := idxE ha4524
                obtain ⟨b4526, q4527, hix4528⟩ := rdL_ix (hL.rdO 1 rfl) hz4525 ha4529
                refine OW.cons (OP.val (v := (.pointer (some ⟨b4526, q4527, none⟩))) rfl (x_ix Try.underlying28 Try_T56 rfl rfl hix4528) ?_)
                refine OW.cons (OP.val (v := (.pointer (some ⟨b4526, q4527 + 1, none⟩))) rfl (x_fieldAddr (fsz := 1) q4527 1 (q4527 + 1) Try.underlying56 rfl Try_T2 rfl rfl rfl) ?_)
                refine OW.cons (OP.val (v := (.int .i64 x4523.Code)) rfl (x_load1 Try.underlying2 rfl rfl (rdF_cells (hL.rdO 1 rfl) hix4528 ha4529 1 _ rfl)) ?_)
                refine OW.cons (OP.val (v := (.bool (x4523.Code == 0))) rfl (x_eql rfl rfl) ?_)
                refine OW.cons (OP.val (v := (.bool (x4523.Code == 0))) rfl (x_move) ?_)
                refine ifB_elim hm (fun hb4530 hm => ?_) (fun hb4530 hm => ?_)
                · refine OW.cons (OP.yes' rfl rfl hb4530 (OP.val (v := v8) rfl (x_mv f4091) ?_))
                  refine OW.cons (OP.yes' rfl rfl hb4530 (OP.val (v := (.int .i64 s_l3.2.2.2)) rfl (x_mv f4094) ?_))
                  obtain ⟨x4531, ha4532, hm⟩ := bndE hm
                  obtain ⟨hz4533, ha4537⟩ := idxE ha4532
                  obtain ⟨b4534, q4535, hix4536⟩ := rdL_ix (hL.rdO 1 rfl) hz4533 ha4537
                  refine OW.cons (OP.yes' rfl rfl hb4530 (OP.val (v := (.pointer (some ⟨b4534, q4535, none⟩))) rfl (x_ix Try.underlying28 Try_T56 rfl rfl hix4536) ?_))
                  refine OW.cons (OP.yes' rfl rfl hb4530 (OP.val (v := (.pointer (some ⟨b4534, q4535 + 2, none⟩))) rfl (x_fieldAddr (fsz := 1) q4535 2 (q4535 + 2) Try.underlying56 rfl Try_T2 rfl rfl rfl) ?_))
                  refine OW.cons (OP.yes' rfl rfl hb4530 (OP.val (v := (.int .i64 x4531.Time)) rfl (x_load1 Try.underlying2 rfl rfl (rdF_cells (hL.rdO 1 rfl) hix4536 ha4537 2 _ rfl)) ?_))
                  refine OW.cons (OP.yes' rfl rfl hb4530 (OP.val (v := (.int .i64 (w64 (x4531.Time + 3000)))) rfl (x_add rfl rfl) ?_))
                  obtain ⟨x4538, hx4539, hm⟩ := bndE hm
                  refine OW.cons (OP.yes' rfl rfl hb4530 (OP.call rfl (x_call (vs := [(.int .i64 (w64 (x4531.Time + 3000)))]) Try_C87 ⟨rfl, trivial⟩) (M.spec_l22Time_ok _ (w64 (x4531.Time + 3000)) hx4539) ?_))
                  rintro e4540 wd4541 ⟨rfl, hF4542⟩
                  refine ⟨_, rfl, ?_⟩
                  have hL := hL.pushAll hF4542
                  simp only [lA, lB, lC, lD] at hL
                  refine OW.cons (OP.val (v := (.bool x4538)) rfl (x_pickT' rfl hb4530 rfl) ?_)
                  refine OW.nil ?_
                  exact ⟨x4538, hm, ⟨f4089, f4090, f4091, f4092, f4093, f4094, rfl, hL⟩⟩
                · refine OW.cons (OP.no' rfl rfl hb4530 rfl ?_)
                  refine OW.cons (OP.no' rfl rfl hb4530 rfl ?_)
                  refine OW.cons (OP.no' rfl rfl hb4530 rfl ?_)
                  refine OW.cons (OP.no' rfl rfl hb4530 rfl ?_)
                  refine OW.cons (OP.no' rfl rfl hb4530 rfl ?_)
                  refine OW.cons (OP.no' rfl rfl hb4530 rfl ?_)
                  refine OW.cons (OP.no' rfl rfl hb4530 rfl ?_)
                  refine OW.cons (OP.val (v := (.bool false)) rfl (x_pickF' rfl hb4530 rfl) ?_)
                  refine OW.nil ?_
                  exact ⟨false, hm, ⟨f4089, f4090, f4091, f4092, f4093, f4094, rfl, hL⟩⟩
              · intro s_j5 F4458 wd4459 hJ hm
                unfold M.spec_l25DrawSeries_j5 at hm
                obtain ⟨f4460, f4461, f4462, f4463, f4464, f4465, f4466, hL⟩ := hJ
                refine CW.condM (t := s_j5) f4466 hm (fun hb4467 hm => ?_) (fun hb4467 hm => ?_)
                · refine CW.drawH (fun w' => Hp w0 [Ent.own 28 S3175 v3174 (s_l1.2.2.2.1 ++ ([([] : List Finish) ++ s_l1.2.2.1] : List (List Finish))), Ent.frz w0 (Ent.blk b1 111 #[v2, .int .i64 a0.at_, .int .i64 a0.seed]).S] w') Try_mixed ?_
                  have hL := hL.call (Mod.drew _)
                  have hS := (hL.sel [0, 3] (by decide) rfl)
                  refine DH.take 0 rfl (by kernel_rfl) (by kernel_rfl) (by kernel_rfl) rfl rfl hS (YH.val (v := v8) (fun w' hS' => x_mv f4462)) ?_
                  have hS := (hL.sel [0, 3] (by decide) rfl)
                  refine DH.take 1 rfl (by kernel_rfl) (by kernel_rfl) (by kernel_rfl) rfl rfl hS (YH.val (v := (.int .i64 s_l3.2.2.2)) (fun w' hS' => x_mv f4465)) ?_
                  have hS := (hL.sel [0, 3] (by decide) rfl)
                  refine DH.take 2 rfl (by kernel_rfl) (by kernel_rfl) (by kernel_rfl) rfl rfl hS (YH.val (v := v8) (fun w' hS' => x_mv f4462)) ?_
                  have hS := (hL.sel [0, 3] (by decide) rfl)
                  refine DH.take 3 rfl (by kernel_rfl) (by kernel_rfl) (by kernel_rfl) rfl rfl hS (YH.val (v := (.int .i64 s_l3.2.2.2)) (fun w' hS' => x_mv f4465)) ?_
                  have hS := (hL.sel [0, 3] (by decide) rfl)
                  obtain ⟨x4488, ha4489, hm⟩ := bndE hm
                  obtain ⟨hz4490, ha4494⟩ := idxE ha4489
                  obtain ⟨b4491, q4492, hix4493⟩ := rdL_ix (hL.rdO 1 rfl) hz4490 ha4494
                  refine DH.take 4 rfl (by kernel_rfl) (by kernel_rfl) (by kernel_rfl) rfl rfl hS (YH.val (v := (.pointer (some ⟨b4491, q4492, none⟩))) (fun w' hS' => x_ix Try.underlying28 Try_T56 rfl rfl hix4493)) ?_
                  have hS := (hL.sel [0, 3] (by decide) rfl)
                  refine DH.take 5 rfl (by kernel_rfl) (by kernel_rfl) (by kernel_rfl) rfl rfl hS (YH.val (v := (.pointer (some ⟨b4491, q4492 + 2, none⟩))) (fun w' hS' => x_fieldAddr (fsz := 1) q4492 2 (q4492 + 2) Try.underlying56 rfl Try_T2 rfl rfl rfl)) ?_
                  have hS := (hL.sel [0, 3] (by decide) rfl)
                  refine DH.take 7 rfl (by kernel_rfl) (by kernel_rfl) (by kernel_rfl) rfl rfl hS (YH.val (v := (.pointer (some ⟨b1, 0, none⟩))) (fun w' hS' => x_mv f4460)) ?_
                  refine DH.all (rs := [6, 8]) (by kernel_rfl) (by simp) ?_
                  intro i4495 hi4496
                  simp only [List.mem_cons, List.not_mem_nil, or_false] at hi4496
                  rcases hi4496 with rfl | rfl
                  · refine ⟨_, rfl, ?_⟩
                    refine OP.val (v := (.int .i64 x4488.Time)) rfl (x_load1 Try.underlying2 rfl rfl (rdF_cells (hL.rdO 1 rfl) hix4493 ha4494 2 _ rfl)) ?_
                    refine ⟨(hL.sel [0, 3] (by decide) rfl), ?_⟩
                    obtain ⟨x4497, hx4498, hm⟩ := bndE hm
                    refine DH.only 8 rfl (by kernel_rfl) (OP.call rfl (x_call (vs := [(.pointer (some ⟨b1, 0, none⟩)), (.int .i64 3000)]) Try_C84 ⟨rfl, rfl, trivial⟩) (M.spec_l01Next_ok _ (Src.mk a0.code s_l3.1 s_l3.2.1) (hL.exZ 3 2 (by decide) rfl rfl h3) (hL.get 2 rfl) 3000 hx4498) ?_)
                    rintro e4499 wd4500 ⟨rfl, hF4501⟩
                    refine ⟨_, rfl, ?_⟩
                    have hL := hL.mut 2 rfl hF4501
                    simp only [lA, lB, lC, lD] at hL
                    refine ⟨(hL.sel [0, 3] (by decide) rfl), ?_⟩
                    have hS := (hL.sel [0, 3] (by decide) rfl)
                    refine DH.take 9 rfl (by kernel_rfl) (by kernel_rfl) (by kernel_rfl) rfl rfl hS (YH.val (v := (.int .i64 (w64 (x4488.Time + x4497.1)))) (fun w' hS' => x_add rfl rfl)) ?_
                    have hS := (hL.sel [0, 3] (by decide) rfl)
                    obtain ⟨x4502, ha4503, hm⟩ := bndE hm
                    obtain ⟨hz4504, ha4508⟩ := idxE ha4503
                    obtain ⟨b4505, q4506, hix4507⟩ := rdL_ix (hL.rdO 1 rfl) hz4504 ha4508
                    refine DH.take 10 rfl (by kernel_rfl) (by kernel_rfl) (by kernel_rfl) rfl rfl hS (YH.val (v := (.pointer (some ⟨b4505, q4506, none⟩))) (fun w' hS' => x_ix Try.underlying28 Try_T56 rfl rfl hix4507)) ?_
                    have hS := (hL.sel [0, 3] (by decide) rfl)
                    refine DH.take 11 rfl (by kernel_rfl) (by kernel_rfl) (by kernel_rfl) rfl rfl hS (YH.val (v := (.pointer (some ⟨b4505, q4506 + 2, none⟩))) (fun w' hS' => x_fieldAddr (fsz := 1) q4506 2 (q4506 + 2) Try.underlying56 rfl Try_T2 rfl rfl rfl)) ?_
                    refine DH.only 12 rfl (by kernel_rfl) (S_storeX (j := 2) (Finish.mk x4502.Boat x4502.Code (w64 (x4488.Time + x4497.1))) hL 1 rfl Try_T2 hix4507 ha4508 rfl rfl rfl rfl rfl rfl ?_)
                    intro wd4509 hL
                    refine ⟨(hL.sel [0, 3] (by decide) rfl), ?_⟩
                    refine DH.done (by kernel_rfl) ?_
                    exact ⟨(x4497.2.1, x4497.2.2, s_l3.2.2.1.set (s_l3.2.2.2 : Int).toNat (Finish.mk x4502.Boat x4502.Code (w64 (x4488.Time + x4497.1)))), hm, ⟨S4074, f4460, f4461, f4462, f4463, f4464, f4465, hL⟩⟩
                  · refine ⟨_, rfl, ?_⟩
                    obtain ⟨x4510, hx4511, hm⟩ := bndE hm
                    refine OP.call rfl (x_call (vs := [(.pointer (some ⟨b1, 0, none⟩)), (.int .i64 3000)]) Try_C84 ⟨rfl, rfl, trivial⟩) (M.spec_l01Next_ok _ (Src.mk a0.code s_l3.1 s_l3.2.1) (hL.exZ 3 2 (by decide) rfl rfl h3) (hL.get 2 rfl) 3000 hx4511) ?_
                    rintro e4512 wd4513 ⟨rfl, hF4514⟩
                    refine ⟨_, rfl, ?_⟩
                    have hL := hL.mut 2 rfl hF4514
                    simp only [lA, lB, lC, lD] at hL
                    refine ⟨(hL.sel [0, 3] (by decide) rfl), ?_⟩
                    refine DH.only 6 rfl (by kernel_rfl) (OP.val (v := (.int .i64 x4488.Time)) rfl (x_load1 Try.underlying2 rfl rfl (rdF_cells (hL.rdO 1 rfl) hix4493 ha4494 2 _ rfl)) ?_)
                    refine ⟨(hL.sel [0, 3] (by decide) rfl), ?_⟩
                    have hS := (hL.sel [0, 3] (by decide) rfl)
                    refine DH.take 9 rfl (by kernel_rfl) (by kernel_rfl) (by kernel_rfl) rfl rfl hS (YH.val (v := (.int .i64 (w64 (x4488.Time + x4510.1)))) (fun w' hS' => x_add rfl rfl)) ?_
                    have hS := (hL.sel [0, 3] (by decide) rfl)
                    obtain ⟨x4515, ha4516, hm⟩ := bndE hm
                    obtain ⟨hz4517, ha4521⟩ := idxE ha4516
                    obtain ⟨b4518, q4519, hix4520⟩ := rdL_ix (hL.rdO 1 rfl) hz4517 ha4521
                    refine DH.take 10 rfl (by kernel_rfl) (by kernel_rfl) (by kernel_rfl) rfl rfl hS (YH.val (v := (.pointer (some ⟨b4518, q4519, none⟩))) (fun w' hS' => x_ix Try.underlying28 Try_T56 rfl rfl hix4520)) ?_
                    have hS := (hL.sel [0, 3] (by decide) rfl)
                    refine DH.take 11 rfl (by kernel_rfl) (by kernel_rfl) (by kernel_rfl) rfl rfl hS (YH.val (v := (.pointer (some ⟨b4518, q4519 + 2, none⟩))) (fun w' hS' => x_fieldAddr (fsz := 1) q4519 2 (q4519 + 2) Try.underlying56 rfl Try_T2 rfl rfl rfl)) ?_
                    refine DH.only 12 rfl (by kernel_rfl) (S_storeX (j := 2) (Finish.mk x4515.Boat x4515.Code (w64 (x4488.Time + x4510.1))) hL 1 rfl Try_T2 hix4520 ha4521 rfl rfl rfl rfl rfl rfl ?_)
                    intro wd4522 hL
                    refine ⟨(hL.sel [0, 3] (by decide) rfl), ?_⟩
                    refine DH.done (by kernel_rfl) ?_
                    exact ⟨(x4510.2.1, x4510.2.2, s_l3.2.2.1.set (s_l3.2.2.2 : Int).toNat (Finish.mk x4515.Boat x4515.Code (w64 (x4488.Time + x4510.1)))), hm, ⟨S4074, f4460, f4461, f4462, f4463, f4464, f4465, hL⟩⟩
                · refine CW.skip ?_
                  exact ⟨(s_l3.1, s_l3.2.1, s_l3.2.2.1), hm, ⟨S4074, f4460, f4461, f4462, f4463, f4464, f4465, hL⟩⟩
            · intro s_j4 F4430 wd4431 hJ hm
              unfold M.spec_l25DrawSeries_j4 at hm
              obtain ⟨S4429, f4432, f4433, f4434, f4435, f4436, f4437, hL⟩ := hJ
              exact ⟨(s_j4.1, s_j4.2.1, s_j4.2.2), hm, ⟨S4429, f4432, f4433, f4434, f4435, f4436, f4437, hL⟩⟩
          · intro s_j3 F4316 wd4317 hJ hm
            unfold M.spec_l25DrawSeries_j3 at hm
            obtain ⟨S4315, f4318, f4319, f4320, f4321, f4322, f4323, hL⟩ := hJ
            refine CW.regionL ?_
            refine OW.cons (OP.val (v := (.int .i64 s_l3.2.2.2)) rfl (x_mv f4323) ?_)
            refine OW.cons (OP.val (v := (.int .i64 (w64 (s_l3.2.2.2 + 1)))) rfl (x_add rfl rfl) ?_)
            refine OW.cons (OP.val (v := (.int .i64 (w64 (s_l3.2.2.2 + 1)))) rfl (x_assign) ?_)
            refine OW.nil ?_
            obtain rfl := Option.some.inj hm
            exact ⟨_, rfl, ⟨S4315, f4318, f4319, f4320, f4321, f4322, rfl, hL⟩⟩
        · refine CW.exit ?_
          refine XJ.hit ?_
          obtain rfl := Option.some.inj hm
          exact ⟨_, rfl, ⟨S4074, f4089, f4090, f4091, f4092, f4093, f4094, hL⟩⟩
    · refine CW.exit ?_
      refine XJ.hit ?_
      obtain rfl := Option.some.inj hm
      exact ⟨_, rfl, ⟨S2785, v2786, S2787, f3157, f3158, f3159, f3160, f3161, hL⟩⟩

theorem M.spec_DrawProgressSeries_ok (w0 : World) (a0 : List UInt8) {v1 : Value} (h2 : rdL (· < w0.heap.size) w0 v1 a0) {r : ProgressRules × Int × (List (List Finish)) × (List Rating)} (hm : M.spec_DrawProgressSeries a0 = some r) :
    Calls Try.prog 36 #[v1] w0 fun e w' => ∃ (rv0 : Value) (rS0 : Nat → Prop), ∃ (rv1 : Value) (rS1 : Nat → Prop), e = .returned (.tuple #[(.agg #[(.int .i64 r.1.Gain), (.int .i64 r.1.Step), (.int .i64 r.1.Low), (.int .i64 r.1.High)]), (.int .i64 r.2.1), rv0, rv1]) ∧ Fresh w0 w' [Ent.own 28 rS0 rv0 r.2.2.1, Ent.own 61 rS1 rv1 r.2.2.2] := by
  unfold M.spec_DrawProgressSeries at hm
  refine calls_CW (args := [v1]) Try.func36 rfl rfl rfl ?_
  have hL := Hp.start w0
  refine CW.seq ?_
  refine CW.regionL ?_
  refine OW.cons (S_alloc (cs := #[(.int .i64 0), (.int .i64 0), (.int .i64 0), (.int .i64 0)]) hL Try_T46 rfl rfl ?_)
  intro wd3 b4 hL
  refine OW.cons (OP.val (v := (.int .i64 0)) rfl (x_assign) ?_)
  refine OW.cons (OP.val (v := (.slice none 0 0)) rfl (x_assign) ?_)
  refine OW.cons (OP.val (v := (.slice none 0 0)) rfl (x_assign) ?_)
  refine OW.nil ?_
  refine CW.seq ?_
  refine CW.regionL ?_
  refine OW.cons (OP.val (v := v1) rfl (x_move) ?_)
  obtain ⟨x5, hx6, hm⟩ := bndE hm
  refine OW.cons (OP.call rfl (x_call (vs := [v1]) Try_C63 ⟨rfl, trivial⟩) (M.spec_l01From_ok _ a0 (hL.rdS 1 rfl h2) hx6) ?_)
  rintro e8 wd9 ⟨b7, rfl, hF10⟩
  refine ⟨_, rfl, ?_⟩
  have hL := hL.pushAll hF10
  simp only [lA, lB, lC, lD] at hL
  refine OW.cons (OP.val (v := (.pointer (some ⟨b7, 0, none⟩))) rfl (x_assign) ?_)
  refine OW.nil ?_
  refine CW.seq ?_
  refine CW.regionL ?_
  refine OW.cons (OP.val (v := (.pointer (some ⟨b7, 0, none⟩))) rfl (x_move) ?_)
  obtain ⟨x11, hx12, hm⟩ := bndE hm
  refine OW.cons (OP.call rfl (x_call (vs := [(.pointer (some ⟨b7, 0, none⟩))]) Try_C64 ⟨rfl, trivial⟩) (M.spec_l25Draw_ok _ (Src.mk a0 x5.1 x5.2) (hL.exS 2 0 (by decide) rfl rfl h2) (hL.get 0 rfl) hx12) ?_)
  rintro e13 wd14 ⟨rfl, hF15⟩
  refine ⟨_, rfl, ?_⟩
  have hL := hL.mut 0 rfl hF15
  simp only [lA, lB, lC, lD] at hL
  refine OW.cons (S_alloc (cs := #[(.int .i64 0), (.int .i64 0), (.int .i64 0), (.int .i64 0)]) hL Try_T46 rfl rfl ?_)
  intro wd16 b17 hL
  refine OW.cons (S_storeN (l := [(.int .i64 x11.1.Gain), (.int .i64 x11.1.Step), (.int .i64 x11.1.Low), (.int .i64 x11.1.High)]) (cs' := #[(.int .i64 x11.1.Gain), (.int .i64 x11.1.Step), (.int .i64 x11.1.Low), (.int .i64 x11.1.High)]) hL 0 rfl Try_T46 rfl rfl (List.forall_mem_cons.2 ⟨rfl, (List.forall_mem_cons.2 ⟨rfl, (List.forall_mem_cons.2 ⟨rfl, (List.forall_mem_cons.2 ⟨rfl, (fun _ h => by cases h)⟩)⟩)⟩)⟩) rfl (Nat.le_of_ble_eq_true rfl) rfl ?_)
  intro wd18 hL
  refine OW.nil ?_
  refine CW.seq ?_
  refine CW.regionL ?_
  refine OW.cons (OP.val (v := (.pointer (some ⟨b7, 0, none⟩))) rfl (x_move) ?_)
  obtain ⟨x19, hx20, hm⟩ := bndE hm
  refine OW.cons (OP.call rfl (x_call (vs := [(.pointer (some ⟨b7, 0, none⟩))]) Try_C70 ⟨rfl, trivial⟩) (M.spec_l25DrawSeries_ok _ (Src.mk a0 x11.2.1 x11.2.2) (hL.exS 3 1 (by decide) rfl rfl h2) (hL.get 1 rfl) hx20) ?_)
  rintro e23 wd24 ⟨v22, S21, rfl, hF25⟩
  refine ⟨_, rfl, ?_⟩
  have hL := hL.mut 1 rfl hF25
  simp only [lA, lB, lC, lD] at hL
  refine OW.cons (OP.val (v := (.tuple #[(.int .i64 x19.1.1), v22])) rfl (x_move) ?_)
  refine OW.cons (OP.val (v := (.int .i64 x19.1.1)) rfl (x_extract rfl rfl) ?_)
  refine OW.cons (OP.val (v := v22) rfl (x_extract rfl rfl) ?_)
  refine OW.cons (OP.val (v := (.int .i64 x19.1.1)) rfl (x_assign) ?_)
  refine OW.cons (OP.val (v := v22) rfl (x_assign) ?_)
  refine OW.nil ?_
  refine CW.seq ?_
  refine CW.drawH (fun w' => Hp w0 [Ent.own 28 S21 v22 x19.1.2, Ent.blk b17 46 #[(.int .i64 x11.1.Gain), (.int .i64 x11.1.Step), (.int .i64 x11.1.Low), (.int .i64 x11.1.High)], Ent.snap w0 w0.heap.size] w') Try_mixed ?_
  have hL := hL.call (Mod.drew _)
  have hS := (hL.sel [0, 1, 4] (by decide) rfl)
  refine DH.take 0 rfl (by kernel_rfl) (by kernel_rfl) (by kernel_rfl) rfl rfl hS (YH.val (v := (.agg #[(.int .i64 x11.1.Gain), (.int .i64 x11.1.Step), (.int .i64 x11.1.Low), (.int .i64 x11.1.High)])) (fun w' hS' => x_loadN (cs := [(.int .i64 x11.1.Gain), (.int .i64 x11.1.Step), (.int .i64 x11.1.Low), (.int .i64 x11.1.High)]) Try.underlying46 Try_T46 rfl rfl (hS'.cellsB 1 rfl (o := 0) (l := [(.int .i64 x11.1.Gain), (.int .i64 x11.1.Step), (.int .i64 x11.1.Low), (.int .i64 x11.1.High)]) (by intro j u hj; exact (by simpa using hj))))) ?_
  have hS := (hL.sel [0, 1, 4] (by decide) rfl)
  refine DH.take 1 rfl (by kernel_rfl) (by kernel_rfl) (by kernel_rfl) rfl rfl hS (YH.val (v := (.int .i64 x19.1.1)) (fun w' hS' => x_move)) ?_
  have hS := (hL.sel [0, 1, 4] (by decide) rfl)
  refine DH.take 2 rfl (by kernel_rfl) (by kernel_rfl) (by kernel_rfl) rfl rfl hS (YH.val (v := v22) (fun w' hS' => x_move)) ?_
  have hS := (hL.sel [0, 1, 4] (by decide) rfl)
  refine DH.take 3 rfl (by kernel_rfl) (by kernel_rfl) (by kernel_rfl) rfl rfl hS (YH.val (v := (.pointer (some ⟨b7, 0, none⟩))) (fun w' hS' => x_move)) ?_
  have hS := (hL.sel [0, 1, 4] (by decide) rfl)
  refine DH.take 4 rfl (by kernel_rfl) (by kernel_rfl) (by kernel_rfl) rfl rfl hS (YH.val (v := (.int .i64 x19.1.1)) (fun w' hS' => x_move)) ?_
  obtain ⟨x34, hx35, hm⟩ := bndE hm
  refine DH.only 5 rfl (by kernel_rfl) (OP.call rfl (x_call (vs := [(.pointer (some ⟨b7, 0, none⟩)), (.int .i64 x19.1.1)]) Try_C66 ⟨rfl, rfl, trivial⟩) (M.spec_l22DrawRatings_ok _ (Src.mk a0 x19.2.1 x19.2.2) (hL.exS 4 2 (by decide) rfl rfl h2) (hL.get 2 rfl) x19.1.1 hx35) ?_)
  rintro e38 wd39 ⟨v37, S36, rfl, hF40⟩
  refine ⟨_, rfl, ?_⟩
  have hL := hL.mut 2 rfl hF40
  simp only [lA, lB, lC, lD] at hL
  refine ⟨(hL.sel [1, 2, 5] (by decide) rfl), ?_⟩
  refine DH.only 6 rfl (by kernel_rfl) (S_storeN (l := [(.int .i64 x11.1.Gain), (.int .i64 x11.1.Step), (.int .i64 x11.1.Low), (.int .i64 x11.1.High)]) (cs' := #[(.int .i64 x11.1.Gain), (.int .i64 x11.1.Step), (.int .i64 x11.1.Low), (.int .i64 x11.1.High)]) hL 4 rfl Try_T46 rfl rfl (List.forall_mem_cons.2 ⟨rfl, (List.forall_mem_cons.2 ⟨rfl, (List.forall_mem_cons.2 ⟨rfl, (List.forall_mem_cons.2 ⟨rfl, (fun _ h => by cases h)⟩)⟩)⟩)⟩) rfl (Nat.le_of_ble_eq_true rfl) rfl ?_)
  intro wd41 hL
  refine ⟨(hL.sel [1, 2, 5] (by decide) rfl), ?_⟩
  have hS := (hL.sel [1, 2, 5] (by decide) rfl)
  refine DH.take 7 rfl (by kernel_rfl) (by kernel_rfl) (by kernel_rfl) rfl rfl hS (YH.val (v := (.int .i64 x19.1.1)) (fun w' hS' => x_assign)) ?_
  have hS := (hL.sel [1, 2, 5] (by decide) rfl)
  refine DH.take 8 rfl (by kernel_rfl) (by kernel_rfl) (by kernel_rfl) rfl rfl hS (YH.val (v := v22) (fun w' hS' => x_assign)) ?_
  have hS := (hL.sel [1, 2, 5] (by decide) rfl)
  refine DH.take 9 rfl (by kernel_rfl) (by kernel_rfl) (by kernel_rfl) rfl rfl hS (YH.val (v := v37) (fun w' hS' => x_assign)) ?_
  refine DH.done (by kernel_rfl) ?_
  refine CW.ret ?_
  obtain rfl := Option.some.inj hm
  exact RRs (v := (.agg #[(.int .i64 x11.1.Gain), (.int .i64 x11.1.Step), (.int .i64 x11.1.Low), (.int .i64 x11.1.High)])) (v2 := (.int .i64 x19.1.1)) (vs := [v22, v37]) (rs := [.cell 2 46, .tmp 3, .tmp 4, .tmp 5]) rfl ⟨resCell rfl (run_loadBlk Try.underlying46 Try_T46 (hL.get 4 rfl) rfl), resTmp rfl, resTmp rfl, resTmp rfl, trivial⟩ ⟨v22, S21, v37, S36, rfl, hL.fresh 5 rfl [1, 0] (by decide) (by decide) rfl⟩

theorem M.impl_progressSteps_1_ok (w0 : World) (a0 : List Finish) {v1 : Value} (h2 : rdL (· < w0.heap.size) w0 v1 a0) (a1 : Int) {b3 : Nat} (hb4 : bxA (· < w0.heap.size) w0 b3 2 #[(.int .i64 a1)]) {r : Bool} (hm : M.impl_progressSteps_1 a0 a1 = some r) :
    Calls Try.prog 89 #[v1, (.pointer (some ⟨b3, 0, none⟩))] w0 fun e w' => e = .returned (.bool r) ∧ Fresh w0 w' [] := by
  unfold M.impl_progressSteps_1 at hm
  refine calls_CW (args := [v1, (.pointer (some ⟨b3, 0, none⟩))]) Try.func89 rfl rfl rfl ?_
  have hL := Hp.start w0
  refine CW.seq ?_
  refine CW.regionL ?_
  refine OW.cons (OP.val (v := (.bool false)) rfl (x_assign) ?_)
  refine OW.nil ?_
  refine CW.seq ?_
  refine CW.regionL ?_
  refine OW.cons (OP.val (v := (.int .i64 a1)) rfl (x_load1 Try.underlying2 rfl rfl ((hL.bxS 0 rfl hb4).cell rfl)) ?_)
  refine OW.cons (OP.val (v := v1) rfl (x_move) ?_)
  obtain ⟨x5, hx6, hm⟩ := bndE hm
  refine OW.cons (OP.call rfl (x_call (vs := [(.int .i64 a1), v1]) Try_C79 ⟨rfl, rfl, trivial⟩) (M.impl_areFinishes_ok _ a1 a0 (hL.rdS 0 rfl h2) hx6) ?_)
  rintro e7 wd8 ⟨rfl, hF9⟩
  refine ⟨_, rfl, ?_⟩
  have hL := hL.pushAll hF9
  simp only [lA, lB, lC, lD] at hL
  refine OW.cons (OP.val (v := (.bool (!x5))) rfl (x_not rfl) ?_)
  refine OW.cons (OP.val (v := (.bool (!x5))) rfl (x_assign) ?_)
  refine OW.nil ?_
  refine CW.ret ?_
  obtain rfl := Option.some.inj hm
  exact RR1 rfl rfl ⟨rfl, hL.fresh 0 rfl [] (by decide) (by decide) rfl⟩

theorem M.slices_IndexFunc_____impl_Finish___impl_Finish__ok (w0 : World) (a0 : List (List Finish)) {v1 : Value} (h2 : rdL (· < w0.heap.size) w0 v1 a0) (a1 : (List Finish) → Option Bool) {fk3 : FuncId} {cp4 : List Value} (hq5 : FnQ Try.prog fk3 cp4 (· < w0.heap.size) w0 (fun yw yvs yv => ∃ (y0 : List Finish) (yu0 : Value) (yr : Bool), yvs = [yu0] ∧ rdL (· < yw.heap.size) yw yu0 y0 ∧ a1 y0 = some yr ∧ yv = (.bool yr))) {r : Int} (hm : M.slices_IndexFunc_____impl_Finish___impl_Finish_ a0 a1 = some r) :
    Calls Try.prog 94 #[v1, (.func (.func fk3) #[] cp4.toArray)] w0 fun e w' => e = .returned (.int .i64 r) ∧ Fresh w0 w' [] := by
  unfold M.slices_IndexFunc_____impl_Finish___impl_Finish_ at hm
  refine calls_CW (args := [v1, (.func (.func fk3) #[] cp4.toArray)]) Try.func94 rfl rfl rfl ?_
  have hL := Hp.start w0
  refine CW.seq ?_
  refine CW.regionL ?_
  refine OW.cons (OP.val (v := (.int .i64 0)) rfl (x_assign) ?_)
  refine OW.nil ?_
  refine CW.seq ?_
  refine CW.seq ?_
  refine CW.regionL ?_
  refine OW.cons (OP.val (v := v1) rfl (x_move) ?_)
  refine OW.cons (OP.val (v := (.int .i64 (a0.length : Int))) rfl (x_lenR Try.underlying63 rfl (hL.rdS 0 rfl h2)) ?_)
  refine OW.cons (OP.val (v := (.int .i64 0)) rfl (x_move) ?_)
  refine OW.nil ?_
  obtain ⟨o44, ho45, hm⟩ := bndE hm
  refine CW.loopB (fun (s_l1 : Int) (F : Fr) (w : World) => F 0 = v1 ∧ F 1 = (.func (.func fk3) #[] cp4.toArray) ∧ F 7 = (.int .i64 (a0.length : Int)) ∧ F 8 = (.int .i64 s_l1) ∧ Hp w0 [Ent.snap w0 w0.heap.size] w) (fun o => outc o (fun x => some x) (fun s => M.slices_IndexFunc_____impl_Finish___impl_Finish__a1 s) = some r) ho45 hm ⟨rfl, rfl, rfl, rfl, hL⟩ ?_ ?_
  · intro s_l1 F46 wd47 hJ hm
    have hm := outcE hm
    have hm : M.slices_IndexFunc_____impl_Finish___impl_Finish__a1 s_l1 = some r := hm
    unfold M.slices_IndexFunc_____impl_Finish___impl_Finish__a1 at hm
    obtain ⟨f48, f49, f50, f51, hL⟩ := hJ
    refine CW.seq ?_
    refine CW.regionL ?_
    refine OW.cons (OP.val (v := (.int .i64 (-1))) rfl (x_assign) ?_)
    refine OW.nil ?_
    refine CW.ret ?_
    obtain rfl := Option.some.inj hm
    exact RR1 rfl rfl ⟨rfl, hL.fresh 0 rfl [] (by decide) (by decide) rfl⟩
  · intro s_l1 F52 wd53 t42 hJ hm hr43
    unfold M.slices_IndexFunc_____impl_Finish___impl_Finish__l1 at hm
    obtain ⟨f54, f55, f56, f57, hL⟩ := hJ
    refine CW.seq ?_
    refine CW.regionL ?_
    refine OW.cons (OP.val (v := (.bool (decide (s_l1 < (a0.length : Int))))) rfl (x_lss f57 f56) ?_)
    refine OW.nil ?_
    refine CW.seq ?_
    refine CW.condM (t := decide (s_l1 < (a0.length : Int))) rfl hm (fun hb58 hm => ?_) (fun hb58 hm => ?_)
    · refine CW.skip ?_
      refine CW.seq ?_
      refine CW.block ?_
      refine CW.seq ?_
      refine CW.regionL ?_
      refine OW.cons (OP.val (v := (.int .i64 s_l1)) rfl (x_mv f57) ?_)
      refine OW.cons (OP.val (v := (.int .i64 s_l1)) rfl (x_assign) ?_)
      refine OW.nil ?_
      refine CW.seq ?_
      refine CW.regionL ?_
      refine OW.cons (OP.val (v := (.func (.func fk3) #[] cp4.toArray)) rfl (x_mv f55) ?_)
      refine OW.cons (OP.val (v := v1) rfl (x_mv f54) ?_)
      refine OW.cons (OP.val (v := (.int .i64 s_l1)) rfl (x_move) ?_)
      obtain ⟨x59, ha60, hm⟩ := bndE hm
      obtain ⟨hz61, ha69⟩ := idxE ha60
      obtain ⟨b62, q63, v64, hix65, hs66, hc67, hr68⟩ := rdN_at h2 hz61 ha69
      refine OW.cons (OP.val (v := (.pointer (some ⟨b62, q63, none⟩))) rfl (x_ix Try.underlying63 Try_T28 rfl rfl hix65) ?_)
      refine OW.cons (OP.val (v := v64) rfl (x_load1 Try.underlying28 rfl rfl (hL.cellS 0 rfl hs66 hc67)) ?_)
      obtain ⟨x70, hx71, hm⟩ := bndE hm
      refine OW.cons (OP.call rfl (x_callV (vs := [v64]) (cap := cp4) hq5.1 rfl ⟨rfl, trivial⟩) (hq5.2 _ (hL.agS 0 rfl) [v64] _ ⟨x59, v64, x70, rfl, (hL.rdS 0 rfl hr68), hx71, rfl⟩) ?_)
      rintro e72 wd73 ⟨rfl, hF74⟩
      refine ⟨_, rfl, ?_⟩
      have hL := hL.pushAll hF74
      simp only [lA, lB, lC, lD] at hL
      refine OW.nil ?_
      refine CW.condM (t := x70) rfl hm (fun hb75 hm => ?_) (fun hb75 hm => ?_)
      · refine CW.seq ?_
        refine CW.regionL ?_
        refine OW.cons (OP.val (v := (.int .i64 s_l1)) rfl (x_move) ?_)
        refine OW.cons (OP.val (v := (.int .i64 s_l1)) rfl (x_assign) ?_)
        refine OW.nil ?_
        refine CW.ret ?_
        obtain rfl := Option.some.inj hm
        have hm := hr43 _ rfl
        obtain rfl := Option.some.inj hm
        exact RR1 rfl rfl ⟨rfl, hL.fresh 0 rfl [] (by decide) (by decide) rfl⟩
      · refine CW.skip ?_
        refine CW.regionL ?_
        refine OW.cons (OP.val (v := (.int .i64 (w64 (s_l1 + 1)))) rfl (x_add f57 rfl) ?_)
        refine OW.cons (OP.val (v := (.int .i64 (w64 (s_l1 + 1)))) rfl (x_move) ?_)
        refine OW.nil ?_
        obtain rfl := Option.some.inj hm
        exact ⟨_, rfl, ⟨f54, f55, f56, rfl, hL⟩⟩
    · refine CW.exit ?_
      refine XJ.hit ?_
      obtain rfl := Option.some.inj hm
      exact ⟨_, rfl, ⟨f54, f55, f56, f57, hL⟩⟩

theorem M.slices_ContainsFunc_____impl_Finish___impl_Finish__ok (w0 : World) (a0 : List (List Finish)) {v1 : Value} (h2 : rdL (· < w0.heap.size) w0 v1 a0) (a1 : (List Finish) → Option Bool) {fk3 : FuncId} {cp4 : List Value} (hq5 : FnQ Try.prog fk3 cp4 (· < w0.heap.size) w0 (fun yw yvs yv => ∃ (y0 : List Finish) (yu0 : Value) (yr : Bool), yvs = [yu0] ∧ rdL (· < yw.heap.size) yw yu0 y0 ∧ a1 y0 = some yr ∧ yv = (.bool yr))) {r : Bool} (hm : M.slices_ContainsFunc_____impl_Finish___impl_Finish_ a0 a1 = some r) :
    Calls Try.prog 88 #[v1, (.func (.func fk3) #[] cp4.toArray)] w0 fun e w' => e = .returned (.bool r) ∧ Fresh w0 w' [] := by
  unfold M.slices_ContainsFunc_____impl_Finish___impl_Finish_ at hm
  refine calls_CW (args := [v1, (.func (.func fk3) #[] cp4.toArray)]) Try.func88 rfl rfl rfl ?_
  have hL := Hp.start w0
  refine CW.seq ?_
  refine CW.regionL ?_
  refine OW.cons (OP.val (v := (.bool false)) rfl (x_assign) ?_)
  refine OW.nil ?_
  refine CW.seq ?_
  refine CW.regionL ?_
  refine OW.cons (OP.val (v := v1) rfl (x_move) ?_)
  refine OW.cons (OP.val (v := (.func (.func fk3) #[] cp4.toArray)) rfl (x_move) ?_)
  obtain ⟨x6, hx7, hm⟩ := bndE hm
  refine OW.cons (OP.call rfl (x_call (vs := [v1, (.func (.func fk3) #[] cp4.toArray)]) Try_C94 ⟨rfl, rfl, trivial⟩) (M.slices_IndexFunc_____impl_Finish___impl_Finish__ok _ a0 (hL.rdS 0 rfl h2) a1 (hL.fnS 0 rfl hq5) hx7) ?_)
  rintro e8 wd9 ⟨rfl, hF10⟩
  refine ⟨_, rfl, ?_⟩
  have hL := hL.pushAll hF10
  simp only [lA, lB, lC, lD] at hL
  refine OW.cons (OP.val (v := (.bool (decide (0 ≤ x6)))) rfl (x_geq rfl rfl) ?_)
  refine OW.cons (OP.val (v := (.bool (decide (0 ≤ x6)))) rfl (x_assign) ?_)
  refine OW.nil ?_
  refine CW.ret ?_
  obtain rfl := Option.some.inj hm
  exact RR1 rfl rfl ⟨rfl, hL.fresh 0 rfl [] (by decide) (by decide) rfl⟩

theorem M.impl_progressSteps_ok (w0 : World) (a0 : ProgressRules) (a1 : Int) (a2 : List (List Finish)) {v1 : Value} (h2 : rdL (· < w0.heap.size) w0 v1 a2) (a3 : List Rating) {v3 : Value} (h4 : rdL (· < w0.heap.size) w0 v3 a3) {r : (List (List Rating)) × Int} (hm : M.impl_progressSteps a0 a1 a2 a3 = some r) :
    Calls Try.prog 71 #[(.agg #[(.int .i64 a0.Gain), (.int .i64 a0.Step), (.int .i64 a0.Low), (.int .i64 a0.High)]), (.int .i64 a1), v1, v3] w0 fun e w' => ∃ (rv0 : Value) (rS0 : Nat → Prop), e = .returned (.tuple #[rv0, (.int .i64 r.2)]) ∧ Fresh w0 w' [Ent.own 30 rS0 rv0 r.1] := by
  unfold M.impl_progressSteps at hm
  refine calls_CW (args := [(.agg #[(.int .i64 a0.Gain), (.int .i64 a0.Step), (.int .i64 a0.Low), (.int .i64 a0.High)]), (.int .i64 a1), v1, v3]) Try.func71 rfl rfl rfl ?_
  have hL := Hp.start w0
  refine CW.seq ?_
  refine CW.regionL ?_
  refine OW.cons (S_box (cs := #[(.int .i64 a0.Gain), (.int .i64 a0.Step), (.int .i64 a0.Low), (.int .i64 a0.High)]) hL rfl rfl rfl ?_)
  intro wd5 b6 hL
  refine OW.cons (S_box (cs := #[(.int .i64 a1)]) hL rfl rfl rfl ?_)
  intro wd7 b8 hL
  refine OW.cons (OP.val (v := (.slice none 0 0)) rfl (x_assign) ?_)
  refine OW.cons (OP.val (v := (.int .i64 0)) rfl (x_assign) ?_)
  refine OW.nil ?_
  refine CW.seq ?_
  refine CW.seq ?_
  refine CW.regionL ?_
  refine OW.cons (OP.val (v := (.agg #[(.int .i64 a0.Gain), (.int .i64 a0.Step), (.int .i64 a0.Low), (.int .i64 a0.High)])) rfl (x_loadN (cs := [(.int .i64 a0.Gain), (.int .i64 a0.Step), (.int .i64 a0.Low), (.int .i64 a0.High)]) Try.underlying46 Try_T46 rfl rfl (hL.cellsB 1 rfl (o := 0) (l := [(.int .i64 a0.Gain), (.int .i64 a0.Step), (.int .i64 a0.Low), (.int .i64 a0.High)]) (by intro j u hj; exact (by simpa using hj)))) ?_)
  obtain ⟨x9, hx10, hm⟩ := bndE hm
  refine OW.cons (OP.call rfl (x_call (vs := [(.agg #[(.int .i64 a0.Gain), (.int .i64 a0.Step), (.int .i64 a0.Low), (.int .i64 a0.High)])]) Try_C59 ⟨rfl, trivial⟩) (M.impl_IsProgress_ok _ a0 hx10) ?_)
  rintro e11 wd12 ⟨rfl, hF13⟩
  refine ⟨_, rfl, ?_⟩
  have hL := hL.pushAll hF13
  simp only [lA, lB, lC, lD] at hL
  refine OW.cons (OP.val (v := (.bool (!x9))) rfl (x_not rfl) ?_)
  refine OW.nil ?_
  refine CW.condM (t := !x9) rfl hm (fun hb14 hm => ?_) (fun hb14 hm => ?_)
  · refine CW.seq ?_
    refine CW.regionL ?_
    refine OW.cons (OP.val (v := (.slice none 0 0)) rfl (x_assign) ?_)
    refine OW.cons (OP.val (v := (.int .i64 1)) rfl (x_assign) ?_)
    refine OW.nil ?_
    refine CW.ret ?_
    have hL := hL.pushNil (List Rating) 30
    obtain rfl := Option.some.inj hm
    exact RR2 rfl rfl rfl ⟨(.slice none 0 0), None_, rfl, hL.fresh 3 rfl [0] (by decide) (by decide) rfl⟩
  · refine CW.skip ?_
    refine CW.seq ?_
    refine CW.seq ?_
    refine CW.regionL ?_
    refine OW.cons (OP.val (v := v1) rfl (x_move) ?_)
    refine OW.cons (OP.val (v := (.int .i64 (a2.length : Int))) rfl (x_lenR Try.underlying63 rfl (hL.rdS 2 rfl h2)) ?_)
    refine OW.cons (OP.val (v := (.bool (decide (20 < (a2.length : Int))))) rfl (x_gtr rfl rfl) ?_)
    refine OW.nil ?_
    refine CW.condM (t := decide (20 < (a2.length : Int))) rfl hm (fun hb15 hm => ?_) (fun hb15 hm => ?_)
    · refine CW.seq ?_
      refine CW.regionL ?_
      refine OW.cons (OP.val (v := (.slice none 0 0)) rfl (x_assign) ?_)
      refine OW.cons (OP.val (v := (.int .i64 3)) rfl (x_assign) ?_)
      refine OW.nil ?_
      refine CW.ret ?_
      have hL := hL.pushNil (List Rating) 30
      obtain rfl := Option.some.inj hm
      exact RR2 rfl rfl rfl ⟨(.slice none 0 0), None_, rfl, hL.fresh 3 rfl [0] (by decide) (by decide) rfl⟩
    · refine CW.skip ?_
      refine CW.seq ?_
      refine CW.seq ?_
      refine CW.regionL ?_
      refine OW.cons (OP.val (v := v1) rfl (x_move) ?_)
      refine OW.cons (OP.val (v := (.func (.func 89) #[] #[(.pointer (some ⟨b8, 0, none⟩))])) rfl (x_makeFunc (vs := [(.pointer (some ⟨b8, 0, none⟩))]) ⟨rfl, trivial⟩) ?_)
      obtain ⟨x16, hx17, hm⟩ := bndE hm
      refine OW.cons (OP.call rfl (x_call (vs := [v1, (.func (.func 89) #[] #[(.pointer (some ⟨b8, 0, none⟩))])]) Try_C88 ⟨rfl, rfl, trivial⟩) (M.slices_ContainsFunc_____impl_Finish___impl_Finish__ok _ a2 (hL.rdS 2 rfl h2) (fun y0 => M.impl_progressSteps_1 y0 a1) ⟨Try_C89, fun yw hag yvs yv hR => by obtain ⟨y0, yu0, yr, rfl, yc0, hyf, rfl⟩ := hR; exact M.impl_progressSteps_1_ok yw y0 yc0 a1 (hag.bx (hL.bxB 0 rfl)) hyf⟩ hx17) ?_)
      rintro e18 wd19 ⟨rfl, hF20⟩
      refine ⟨_, rfl, ?_⟩
      have hL := hL.pushAll hF20
      simp only [lA, lB, lC, lD] at hL
      refine OW.nil ?_
      refine CW.condM (t := x16) rfl hm (fun hb21 hm => ?_) (fun hb21 hm => ?_)
      · refine CW.seq ?_
        refine CW.regionL ?_
        refine OW.cons (OP.val (v := (.slice none 0 0)) rfl (x_assign) ?_)
        refine OW.cons (OP.val (v := (.int .i64 1)) rfl (x_assign) ?_)
        refine OW.nil ?_
        refine CW.ret ?_
        have hL := hL.pushNil (List Rating) 30
        obtain rfl := Option.some.inj hm
        exact RR2 rfl rfl rfl ⟨(.slice none 0 0), None_, rfl, hL.fresh 3 rfl [0] (by decide) (by decide) rfl⟩
      · refine CW.skip ?_
        refine CW.seq ?_
        refine CW.seq ?_
        refine CW.regionL ?_
        refine OW.cons (OP.val (v := (.int .i64 a1)) rfl (x_load1 Try.underlying2 rfl rfl (hL.cellB 0 rfl rfl)) ?_)
        refine OW.cons (OP.val (v := v3) rfl (x_move) ?_)
        obtain ⟨x22, hx23, hm⟩ := bndE hm
        refine OW.cons (OP.call rfl (x_call (vs := [(.int .i64 a1), v3]) Try_C73 ⟨rfl, rfl, trivial⟩) (M.impl_IsRatings_ok _ a1 a3 (hL.rdS 2 rfl h4) hx23) ?_)
        rintro e24 wd25 ⟨rfl, hF26⟩
        refine ⟨_, rfl, ?_⟩
        have hL := hL.pushAll hF26
        simp only [lA, lB, lC, lD] at hL
        refine OW.cons (OP.val (v := (.bool (!x22))) rfl (x_not rfl) ?_)
        refine OW.nil ?_
        refine CW.condM (t := !x22) rfl hm (fun hb27 hm => ?_) (fun hb27 hm => ?_)
        · refine CW.seq ?_
          refine CW.regionL ?_
          refine OW.cons (OP.val (v := (.slice none 0 0)) rfl (x_assign) ?_)
          refine OW.cons (OP.val (v := (.int .i64 2)) rfl (x_assign) ?_)
          refine OW.nil ?_
          refine CW.ret ?_
          have hL := hL.pushNil (List Rating) 30
          obtain rfl := Option.some.inj hm
          exact RR2 rfl rfl rfl ⟨(.slice none 0 0), None_, rfl, hL.fresh 3 rfl [0] (by decide) (by decide) rfl⟩
        · refine CW.skip ?_
          refine CW.seq ?_
          refine CW.regionL ?_
          refine OW.cons (OP.val (v := v3) rfl (x_move) ?_)
          obtain ⟨x28, hx29, hm⟩ := bndE hm
          refine OW.cons (OP.call rfl (x_call (vs := [v3]) Try_C83 ⟨rfl, trivial⟩) (M.slices_Clone___impl_Rating_impl_Rating__ok _ a3 (hL.rdS 2 rfl h4) hx29) ?_)
          rintro e32 wd33 ⟨v31, S30, rfl, hF34⟩
          refine ⟨_, rfl, ?_⟩
          have hL := hL.pushAll hF34
          simp only [lA, lB, lC, lD] at hL
          refine OW.cons (S_lit1 x28 rfl hL Try.underlying101 Try_T30 ((congrArg Value.cells (show _ = v31 from rfl)).trans (rdL_cells (hL.rdO 0 rfl))) rfl ?_)
          intro wd35 v36 S37 hL
          refine OW.cons (OP.val (v := v36) rfl (x_assign) ?_)
          refine OW.nil ?_
          refine CW.seq ?_
          refine CW.seq ?_
          refine CW.regionL ?_
          refine OW.cons (OP.val (v := v1) rfl (x_move) ?_)
          refine OW.cons (OP.val (v := (.int .i64 (a2.length : Int))) rfl (x_lenR Try.underlying63 rfl (hL.rdS 3 rfl h2)) ?_)
          refine OW.cons (OP.val (v := (.int .i64 0)) rfl (x_move) ?_)
          refine OW.nil ?_
          obtain ⟨o172, ho173, hm⟩ := bndE hm
          refine CW.loopB (fun (s_l1 : (List (List Rating)) × Int) (F : Fr) (w : World) => ∃ (v168 : Value) (S169 : Nat → Prop), F 4 = (.pointer (some ⟨b6, 0, none⟩)) ∧ F 10 = v168 ∧ F 29 = v1 ∧ F 30 = (.int .i64 (a2.length : Int)) ∧ F 31 = (.int .i64 s_l1.2) ∧ Hp w0 [Ent.own 30 S169 v168 s_l1.1, Ent.blk b8 2 #[(.int .i64 a1)], Ent.blk b6 46 #[(.int .i64 a0.Gain), (.int .i64 a0.Step), (.int .i64 a0.Low), (.int .i64 a0.High)], Ent.snap w0 w0.heap.size] w) (fun o => outc o (fun x => some x) (fun s => M.impl_progressSteps_a1 s) = some r) ho173 hm ⟨v36, S37, rfl, rfl, rfl, rfl, rfl, hL⟩ ?_ ?_
          · intro s_l1 F174 wd175 hJ hm
            have hm := outcE hm
            have hm : M.impl_progressSteps_a1 s_l1 = some r := hm
            unfold M.impl_progressSteps_a1 at hm
            obtain ⟨v168, S169, f176, f177, f178, f179, f180, hL⟩ := hJ
            refine CW.seq ?_
            refine CW.regionL ?_
            refine OW.cons (OP.val (v := v168) rfl (x_mv f177) ?_)
            refine OW.cons (OP.val (v := v168) rfl (x_assign) ?_)
            refine OW.cons (OP.val (v := (.int .i64 0)) rfl (x_assign) ?_)
            refine OW.nil ?_
            refine CW.ret ?_
            obtain rfl := Option.some.inj hm
            exact RR2 rfl rfl rfl ⟨v168, S169, rfl, hL.fresh 3 rfl [0] (by decide) (by decide) rfl⟩
          · intro s_l1 F181 wd182 t170 hJ hm hr171
            unfold M.impl_progressSteps_l1 at hm
            obtain ⟨v168, S169, f183, f184, f185, f186, f187, hL⟩ := hJ
            refine CW.seq ?_
            refine CW.regionL ?_
            refine OW.cons (OP.val (v := (.bool (decide (s_l1.2 < (a2.length : Int))))) rfl (x_lss f187 f186) ?_)
            refine OW.nil ?_
            refine CW.seq ?_
            refine CW.condM (t := decide (s_l1.2 < (a2.length : Int))) rfl hm (fun hb188 hm => ?_) (fun hb188 hm => ?_)
            · refine CW.skip ?_
              refine CW.seq ?_
              refine CW.block ?_
              refine CW.seq ?_
              refine CW.regionL ?_
              refine OW.cons (OP.val (v := (.int .i64 s_l1.2)) rfl (x_mv f187) ?_)
              obtain ⟨x189, ha190, hm⟩ := bndE hm
              obtain ⟨hz191, ha199⟩ := idxE ha190
              obtain ⟨b192, q193, v194, hix195, hs196, hc197, hr198⟩ := rdN_at h2 hz191 ha199
              refine OW.cons (OP.val (v := (.pointer (some ⟨b192, q193, none⟩))) rfl (x_ix Try.underlying63 Try_T28 f185 f187 hix195) ?_)
              refine OW.cons (OP.val (v := v194) rfl (x_load1 Try.underlying28 rfl rfl (hL.cellS 3 rfl hs196 hc197)) ?_)
              refine OW.cons (OP.val (v := (.int .i64 s_l1.2)) rfl (x_assign) ?_)
              refine OW.cons (OP.val (v := v194) rfl (x_assign) ?_)
              refine OW.nil ?_
              obtain ⟨wz200, hL, ho201⟩ := hL.freeze 0 rfl
              simp only [lC, lD] at hL
              refine CW.drawH (fun w' => Hp w0 [Ent.blk b8 2 #[(.int .i64 a1)], Ent.blk b6 46 #[(.int .i64 a0.Gain), (.int .i64 a0.Step), (.int .i64 a0.Low), (.int .i64 a0.High)], Ent.snap w0 w0.heap.size] w') Try_mixed ?_
              have hL := hL.call (Mod.drew _)
              have hS := (hL.sel [1, 2, 3] (by decide) rfl)
              refine DH.take 0 rfl (by kernel_rfl) (by kernel_rfl) (by kernel_rfl) rfl rfl hS (YH.val (v := v168) (fun w' hS' => x_mv f184)) ?_
              have hS := (hL.sel [1, 2, 3] (by decide) rfl)
              refine DH.take 1 rfl (by kernel_rfl) (by kernel_rfl) (by kernel_rfl) rfl rfl hS (YH.val (v := (.agg #[(.int .i64 a0.Gain), (.int .i64 a0.Step), (.int .i64 a0.Low), (.int .i64 a0.High)])) (fun w' hS' => x_loadN (cs := [(.int .i64 a0.Gain), (.int .i64 a0.Step), (.int .i64 a0.Low), (.int .i64 a0.High)]) Try.underlying46 Try_T46 rfl f183 (hS'.cellsB 1 rfl (o := 0) (l := [(.int .i64 a0.Gain), (.int .i64 a0.Step), (.int .i64 a0.Low), (.int .i64 a0.High)]) (by intro j u hj; exact (by simpa using hj))))) ?_
              have hS := (hL.sel [1, 2, 3] (by decide) rfl)
              refine DH.take 2 rfl (by kernel_rfl) (by kernel_rfl) (by kernel_rfl) rfl rfl hS (YH.val (v := v194) (fun w' hS' => x_move)) ?_
              have hS := (hL.sel [1, 2, 3] (by decide) rfl)
              refine DH.take 3 rfl (by kernel_rfl) (by kernel_rfl) (by kernel_rfl) rfl rfl hS (YH.val (v := v168) (fun w' hS' => x_mv f184)) ?_
              have hS := (hL.sel [1, 2, 3] (by decide) rfl)
              refine DH.take 4 rfl (by kernel_rfl) (by kernel_rfl) (by kernel_rfl) rfl rfl hS (YH.val (v := (.int .i64 s_l1.2)) (fun w' hS' => x_move)) ?_
              have hS := (hL.sel [1, 2, 3] (by decide) rfl)
              obtain ⟨x227, ha228, hm⟩ := bndE hm
              obtain ⟨hz229, ha237⟩ := idxE ha228
              obtain ⟨b230, q231, v232, hix233, hs234, hc235, hr236⟩ := rdN_at ho201.1.rdL hz229 ha237
              refine DH.take 5 rfl (by kernel_rfl) (by kernel_rfl) (by kernel_rfl) rfl rfl hS (YH.val (v := (.pointer (some ⟨b230, q231, none⟩))) (fun w' hS' => x_ix Try.underlying101 Try_T30 rfl rfl hix233)) ?_
              refine DH.only 6 rfl (by kernel_rfl) (OP.val (v := v232) rfl (x_load1 Try.underlying30 rfl rfl (hL.cellF 0 rfl hs234 hc235)) ?_)
              refine ⟨(hL.sel [1, 2, 3] (by decide) rfl), ?_⟩
              obtain ⟨x238, hx239, hm⟩ := bndE hm
              refine DH.only 7 rfl (by kernel_rfl) (OP.call rfl (x_call (vs := [(.agg #[(.int .i64 a0.Gain), (.int .i64 a0.Step), (.int .i64 a0.Low), (.int .i64 a0.High)]), v194, v232]) Try_C60 ⟨rfl, rfl, rfl, trivial⟩) (M.impl_progressRace_ok _ a0 x189 (hL.rdS 3 rfl hr198) x227 (hL.rdF 0 rfl hr236) hx239) ?_)
              rintro e242 wd243 ⟨v241, S240, rfl, hF244⟩
              refine ⟨_, rfl, ?_⟩
              have hL := hL.pushAll hF244
              simp only [lA, lB, lC, lD] at hL
              refine ⟨(hL.sel [2, 3, 4] (by decide) rfl), ?_⟩
              refine DH.only 8 rfl (by kernel_rfl) (S_lit1 x238 rfl hL Try.underlying101 Try_T30 ((congrArg Value.cells (show _ = v241 from rfl)).trans (rdL_cells (hL.rdO 0 rfl))) rfl ?_)
              intro wd245 v246 S247 hL
              refine ⟨(hL.sel [2, 3, 4] (by decide) rfl), ?_⟩
              have hL := hL.thaw 1 rfl ho201
              obtain ⟨hc251, hm⟩ := chkE hm
              have hL := hL.sel [1, 0, 2, 3, 4] (by decide) rfl
              refine DH.only 9 rfl (by kernel_rfl) (S_appendN Rating hL Try.underlying101 Try_T30 rfl rfl rfl hc251 (by decide) rfl ?_)
              intro wd248 v249 S250 hL
              refine ⟨(hL.sel [1, 2, 3] (by decide) rfl), ?_⟩
              have hS := (hL.sel [1, 2, 3] (by decide) rfl)
              refine DH.take 10 rfl (by kernel_rfl) (by kernel_rfl) (by kernel_rfl) rfl rfl hS (YH.val (v := v249) (fun w' hS' => x_assign)) ?_
              refine DH.done (by kernel_rfl) ?_
              refine CW.regionL ?_
              refine OW.cons (OP.val (v := (.int .i64 (w64 (s_l1.2 + 1)))) rfl (x_add f187 rfl) ?_)
              refine OW.cons (OP.val (v := (.int .i64 (w64 (s_l1.2 + 1)))) rfl (x_move) ?_)
              refine OW.nil ?_
              obtain rfl := Option.some.inj hm
              exact ⟨_, rfl, ⟨v249, S250, f183, rfl, f185, f186, rfl, hL⟩⟩
            · refine CW.exit ?_
              refine XJ.hit ?_
              obtain rfl := Option.some.inj hm
              exact ⟨_, rfl, ⟨v168, S169, f183, f184, f185, f186, f187, hL⟩⟩

theorem M.impl_ProgressSeries_ok (w0 : World) (a0 : ProgressRules) (a1 : Int) (a2 : List (List Finish)) {v1 : Value} (h2 : rdL (· < w0.heap.size) w0 v1 a2) (a3 : List Rating) {v3 : Value} (h4 : rdL (· < w0.heap.size) w0 v3 a3) {r : (List Rating) × Int} (hm : M.impl_ProgressSeries a0 a1 a2 a3 = some r) :
    Calls Try.prog 37 #[(.agg #[(.int .i64 a0.Gain), (.int .i64 a0.Step), (.int .i64 a0.Low), (.int .i64 a0.High)]), (.int .i64 a1), v1, v3] w0 fun e w' => ∃ (rE0 : TypeId), ∃ (rv0 : Value) (rS0 : Nat → Prop), e = .returned (.tuple #[rv0, (.int .i64 r.2)]) ∧ Fresh w0 w' [Ent.own rE0 rS0 rv0 r.1] := by
  unfold M.impl_ProgressSeries at hm
  refine calls_CW (args := [(.agg #[(.int .i64 a0.Gain), (.int .i64 a0.Step), (.int .i64 a0.Low), (.int .i64 a0.High)]), (.int .i64 a1), v1, v3]) Try.func37 rfl rfl rfl ?_
  have hL := Hp.start w0
  refine CW.seq ?_
  refine CW.regionL ?_
  refine OW.cons (S_box (cs := #[(.int .i64 a0.Gain), (.int .i64 a0.Step), (.int .i64 a0.Low), (.int .i64 a0.High)]) hL rfl rfl rfl ?_)
  intro wd5 b6 hL
  refine OW.cons (OP.val (v := (.slice none 0 0)) rfl (x_assign) ?_)
  refine OW.cons (OP.val (v := (.int .i64 0)) rfl (x_assign) ?_)
  refine OW.nil ?_
  refine CW.seq ?_
  refine CW.regionL ?_
  refine OW.cons (OP.val (v := (.agg #[(.int .i64 a0.Gain), (.int .i64 a0.Step), (.int .i64 a0.Low), (.int .i64 a0.High)])) rfl (x_loadN (cs := [(.int .i64 a0.Gain), (.int .i64 a0.Step), (.int .i64 a0.Low), (.int .i64 a0.High)]) Try.underlying46 Try_T46 rfl rfl (hL.cellsB 0 rfl (o := 0) (l := [(.int .i64 a0.Gain), (.int .i64 a0.Step), (.int .i64 a0.Low), (.int .i64 a0.High)]) (by intro j u hj; exact (by simpa using hj)))) ?_)
  refine OW.cons (OP.val (v := (.int .i64 a1)) rfl (x_move) ?_)
  refine OW.cons (OP.val (v := v1) rfl (x_move) ?_)
  refine OW.cons (OP.val (v := v3) rfl (x_move) ?_)
  obtain ⟨x7, hx8, hm⟩ := bndE hm
  refine OW.cons (OP.call rfl (x_call (vs := [(.agg #[(.int .i64 a0.Gain), (.int .i64 a0.Step), (.int .i64 a0.Low), (.int .i64 a0.High)]), (.int .i64 a1), v1, v3]) Try_C71 ⟨rfl, rfl, rfl, rfl, trivial⟩) (M.impl_progressSteps_ok _ a0 a1 a2 (hL.rdS 1 rfl h2) a3 (hL.rdS 1 rfl h4) hx8) ?_)
  rintro e11 wd12 ⟨v10, S9, rfl, hF13⟩
  refine ⟨_, rfl, ?_⟩
  have hL := hL.pushAll hF13
  simp only [lA, lB, lC, lD] at hL
  refine OW.cons (OP.val (v := (.tuple #[v10, (.int .i64 x7.2)])) rfl (x_move) ?_)
  refine OW.cons (OP.val (v := v10) rfl (x_extract rfl rfl) ?_)
  refine OW.cons (OP.val (v := (.int .i64 x7.2)) rfl (x_extract rfl rfl) ?_)
  refine OW.cons (OP.val (v := v10) rfl (x_assign) ?_)
  refine OW.cons (OP.val (v := (.int .i64 x7.2)) rfl (x_assign) ?_)
  refine OW.nil ?_
  refine CW.seq ?_
  refine CW.seq ?_
  refine CW.regionL ?_
  refine OW.cons (OP.val (v := (.int .i64 x7.2)) rfl (x_move) ?_)
  refine OW.cons (OP.val (v := (.bool (x7.2 != 0))) rfl (x_neq rfl rfl) ?_)
  refine OW.nil ?_
  refine CW.condM (t := x7.2 != 0) rfl hm (fun hb14 hm => ?_) (fun hb14 hm => ?_)
  · refine CW.seq ?_
    refine CW.regionL ?_
    refine OW.cons (OP.val (v := (.int .i64 x7.2)) rfl (x_move) ?_)
    refine OW.cons (OP.val (v := (.slice none 0 0)) rfl (x_assign) ?_)
    refine OW.cons (OP.val (v := (.int .i64 x7.2)) rfl (x_assign) ?_)
    refine OW.nil ?_
    refine CW.ret ?_
    have hL := hL.pushNil Rating 61
    obtain rfl := Option.some.inj hm
    exact RR2 rfl rfl rfl ⟨61, (.slice none 0 0), None_, rfl, hL.fresh 3 rfl [0] (by decide) (by decide) rfl⟩
  · refine CW.skip ?_
    refine CW.seq ?_
    refine CW.regionL ?_
    refine OW.cons (OP.val (v := v10) rfl (x_move) ?_)
    refine OW.cons (OP.val (v := v1) rfl (x_move) ?_)
    refine OW.cons (OP.val (v := (.int .i64 (a2.length : Int))) rfl (x_lenR Try.underlying63 rfl (hL.rdS 2 rfl h2)) ?_)
    obtain ⟨wz15, hL, ho16⟩ := hL.freeze 0 rfl
    simp only [lC, lD] at hL
    obtain ⟨x17, ha18, hm⟩ := bndE hm
    obtain ⟨hz19, ha27⟩ := idxE ha18
    obtain ⟨b20, q21, v22, hix23, hs24, hc25, hr26⟩ := rdN_at ho16.1.rdL hz19 ha27
    refine OW.cons (OP.val (v := (.pointer (some ⟨b20, q21, none⟩))) rfl (x_ix Try.underlying101 Try_T30 rfl rfl hix23) ?_)
    refine OW.cons (OP.val (v := v22) rfl (x_load1 Try.underlying30 rfl rfl (hL.cellF 0 rfl hs24 hc25)) ?_)
    refine OW.cons (OP.val (v := v22) rfl (x_assign) ?_)
    refine OW.cons (OP.val (v := (.int .i64 0)) rfl (x_assign) ?_)
    refine OW.nil ?_
    refine CW.ret ?_
    have hc28 := hL.cellF 0 rfl hs24 hc25
    have hL := hL.thaw 0 rfl ho16
    obtain ⟨E29, S30, hL⟩ := hL.takeRow (α := Rating) 0 rfl hix23 ha27 hc28
    simp only [lC, lD] at hL
    obtain rfl := Option.some.inj hm
    exact RR2 rfl rfl rfl ⟨E29, v22, S30, rfl, hL.fresh 2 rfl [0] (by decide) (by decide) rfl⟩

theorem M.spec_l25Code_ok (w0 : World) (a0 : ProgressRules) (a1 : Int) (a2 : List (List Finish)) {v1 : Value} (h2 : rdL (· < w0.heap.size) w0 v1 a2) (a3 : List Rating) {v3 : Value} (h4 : rdL (· < w0.heap.size) w0 v3 a3) {r : Int} (hm : M.spec_l25Code a0 a1 a2 a3 = some r) :
    Calls Try.prog 72 #[(.agg #[(.int .i64 a0.Gain), (.int .i64 a0.Step), (.int .i64 a0.Low), (.int .i64 a0.High)]), (.int .i64 a1), v1, v3] w0 fun e w' => e = .returned (.int .i64 r) ∧ Fresh w0 w' [] := by
  unfold M.spec_l25Code at hm
  refine calls_CW (args := [(.agg #[(.int .i64 a0.Gain), (.int .i64 a0.Step), (.int .i64 a0.Low), (.int .i64 a0.High)]), (.int .i64 a1), v1, v3]) Try.func72 rfl rfl rfl ?_
  have hL := Hp.start w0
  refine CW.seq ?_
  refine CW.regionL ?_
  refine OW.cons (S_box (cs := #[(.int .i64 a0.Gain), (.int .i64 a0.Step), (.int .i64 a0.Low), (.int .i64 a0.High)]) hL rfl rfl rfl ?_)
  intro wd5 b6 hL
  refine OW.cons (OP.val (v := (.int .i64 0)) rfl (x_assign) ?_)
  refine OW.nil ?_
  refine CW.seq ?_
  refine CW.seq ?_
  refine CW.regionL ?_
  refine OW.cons (OP.val (v := (.agg #[(.int .i64 a0.Gain), (.int .i64 a0.Step), (.int .i64 a0.Low), (.int .i64 a0.High)])) rfl (x_loadN (cs := [(.int .i64 a0.Gain), (.int .i64 a0.Step), (.int .i64 a0.Low), (.int .i64 a0.High)]) Try.underlying46 Try_T46 rfl rfl (hL.cellsB 0 rfl (o := 0) (l := [(.int .i64 a0.Gain), (.int .i64 a0.Step), (.int .i64 a0.Low), (.int .i64 a0.High)]) (by intro j u hj; exact (by simpa using hj)))) ?_)
  obtain ⟨x7, hx8, hm⟩ := bndE hm
  refine OW.cons (OP.call rfl (x_call (vs := [(.agg #[(.int .i64 a0.Gain), (.int .i64 a0.Step), (.int .i64 a0.Low), (.int .i64 a0.High)])]) Try_C57 ⟨rfl, trivial⟩) (M.spec_IsProgress_ok _ a0 hx8) ?_)
  rintro e9 wd10 ⟨rfl, hF11⟩
  refine ⟨_, rfl, ?_⟩
  have hL := hL.pushAll hF11
  simp only [lA, lB, lC, lD] at hL
  refine OW.cons (OP.val (v := (.bool (!x7))) rfl (x_not rfl) ?_)
  refine OW.nil ?_
  refine CW.condM (t := !x7) rfl hm (fun hb12 hm => ?_) (fun hb12 hm => ?_)
  · refine CW.seq ?_
    refine CW.regionL ?_
    refine OW.cons (OP.val (v := (.int .i64 1)) rfl (x_assign) ?_)
    refine OW.nil ?_
    refine CW.ret ?_
    obtain rfl := Option.some.inj hm
    exact RR1 rfl rfl ⟨rfl, hL.fresh 1 rfl [] (by decide) (by decide) rfl⟩
  · refine CW.skip ?_
    refine CW.seq ?_
    refine CW.seq ?_
    refine CW.regionL ?_
    refine OW.cons (OP.val (v := v1) rfl (x_move) ?_)
    refine OW.cons (OP.val (v := (.int .i64 (a2.length : Int))) rfl (x_lenR Try.underlying63 rfl (hL.rdS 1 rfl h2)) ?_)
    refine OW.cons (OP.val (v := (.bool (decide (20 < (a2.length : Int))))) rfl (x_gtr rfl rfl) ?_)
    refine OW.nil ?_
    refine CW.condM (t := decide (20 < (a2.length : Int))) rfl hm (fun hb13 hm => ?_) (fun hb13 hm => ?_)
    · refine CW.seq ?_
      refine CW.regionL ?_
      refine OW.cons (OP.val (v := (.int .i64 3)) rfl (x_assign) ?_)
      refine OW.nil ?_
      refine CW.ret ?_
      obtain rfl := Option.some.inj hm
      exact RR1 rfl rfl ⟨rfl, hL.fresh 1 rfl [] (by decide) (by decide) rfl⟩
    · refine CW.skip ?_
      refine CW.seq ?_
      refine CW.seq ?_
      refine CW.regionL ?_
      refine OW.cons (OP.val (v := (.int .i64 0)) rfl (x_assign) ?_)
      refine OW.nil ?_
      obtain ⟨o52, ho53, hm⟩ := bndE hm
      refine CW.loopB (fun (s_l1 : Int) (F : Fr) (w : World) => F 1 = (.int .i64 a1) ∧ F 2 = v1 ∧ F 3 = v3 ∧ F 9 = (.int .i64 s_l1) ∧ Hp w0 [Ent.blk b6 46 #[(.int .i64 a0.Gain), (.int .i64 a0.Step), (.int .i64 a0.Low), (.int .i64 a0.High)], Ent.snap w0 w0.heap.size] w) (fun o => outc o (fun x => some x) (fun s => M.spec_l25Code_a1 a1 a3 s) = some r) ho53 hm ⟨rfl, rfl, rfl, rfl, hL⟩ ?_ ?_
      · intro s_l1 F54 wd55 hJ hm
        have hm := outcE hm
        have hm : M.spec_l25Code_a1 a1 a3 s_l1 = some r := hm
        unfold M.spec_l25Code_a1 at hm
        obtain ⟨f56, f57, f58, f59, hL⟩ := hJ
        refine CW.seq ?_
        refine CW.seq ?_
        refine CW.regionL ?_
        refine OW.cons (OP.val (v := (.int .i64 a1)) rfl (x_mv f56) ?_)
        refine OW.cons (OP.val (v := v3) rfl (x_mv f58) ?_)
        obtain ⟨x60, hx61, hm⟩ := bndE hm
        refine OW.cons (OP.call rfl (x_call (vs := [(.int .i64 a1), v3]) Try_C77 ⟨rfl, rfl, trivial⟩) (M.spec_IsRatings_ok _ a1 a3 (hL.rdS 1 rfl h4) hx61) ?_)
        rintro e62 wd63 ⟨rfl, hF64⟩
        refine ⟨_, rfl, ?_⟩
        have hL := hL.pushAll hF64
        simp only [lA, lB, lC, lD] at hL
        refine OW.cons (OP.val (v := (.bool (!x60))) rfl (x_not rfl) ?_)
        refine OW.nil ?_
        refine CW.condM (t := !x60) rfl hm (fun hb65 hm => ?_) (fun hb65 hm => ?_)
        · refine CW.seq ?_
          refine CW.regionL ?_
          refine OW.cons (OP.val (v := (.int .i64 2)) rfl (x_assign) ?_)
          refine OW.nil ?_
          refine CW.ret ?_
          obtain rfl := Option.some.inj hm
          exact RR1 rfl rfl ⟨rfl, hL.fresh 1 rfl [] (by decide) (by decide) rfl⟩
        · refine CW.skip ?_
          refine CW.seq ?_
          refine CW.regionL ?_
          refine OW.cons (OP.val (v := (.int .i64 0)) rfl (x_assign) ?_)
          refine OW.nil ?_
          refine CW.ret ?_
          obtain rfl := Option.some.inj hm
          exact RR1 rfl rfl ⟨rfl, hL.fresh 1 rfl [] (by decide) (by decide) rfl⟩
      · intro s_l1 F66 wd67 t50 hJ hm hr51
        unfold M.spec_l25Code_l1 at hm
        obtain ⟨f68, f69, f70, f71, hL⟩ := hJ
        refine CW.seq ?_
        refine CW.seq ?_
        refine CW.regionL ?_
        refine OW.cons (OP.val (v := (.int .i64 s_l1)) rfl (x_mv f71) ?_)
        refine OW.cons (OP.val (v := v1) rfl (x_mv f69) ?_)
        refine OW.cons (OP.val (v := (.int .i64 (a2.length : Int))) rfl (x_lenR Try.underlying63 rfl (hL.rdS 1 rfl h2)) ?_)
        refine OW.cons (OP.val (v := (.bool (decide (s_l1 < (a2.length : Int))))) rfl (x_lss rfl rfl) ?_)
        refine OW.nil ?_
        refine CW.condM (t := decide (s_l1 < (a2.length : Int))) rfl hm (fun hb72 hm => ?_) (fun hb72 hm => ?_)
        · refine CW.skip ?_
          refine CW.seq ?_
          refine CW.block ?_
          refine CW.seq ?_
          refine CW.regionL ?_
          refine OW.cons (OP.val (v := (.int .i64 a1)) rfl (x_mv f68) ?_)
          refine OW.cons (OP.val (v := v1) rfl (x_mv f69) ?_)
          refine OW.cons (OP.val (v := (.int .i64 s_l1)) rfl (x_mv f71) ?_)
          obtain ⟨x73, ha74, hm⟩ := bndE hm
          obtain ⟨hz75, ha83⟩ := idxE ha74
          obtain ⟨b76, q77, v78, hix79, hs80, hc81, hr82⟩ := rdN_at h2 hz75 ha83
          refine OW.cons (OP.val (v := (.pointer (some ⟨b76, q77, none⟩))) rfl (x_ix Try.underlying63 Try_T28 rfl rfl hix79) ?_)
          refine OW.cons (OP.val (v := v78) rfl (x_load1 Try.underlying28 rfl rfl (hL.cellS 1 rfl hs80 hc81)) ?_)
          obtain ⟨x84, hx85, hm⟩ := bndE hm
          refine OW.cons (OP.call rfl (x_call (vs := [(.int .i64 a1), v78]) Try_C76 ⟨rfl, rfl, trivial⟩) (M.spec_l22Race_ok _ a1 x73 (hL.rdS 1 rfl hr82) hx85) ?_)
          rintro e86 wd87 ⟨rfl, hF88⟩
          refine ⟨_, rfl, ?_⟩
          have hL := hL.pushAll hF88
          simp only [lA, lB, lC, lD] at hL
          refine OW.cons (OP.val (v := (.bool (!x84))) rfl (x_not rfl) ?_)
          refine OW.nil ?_
          refine CW.condM (t := !x84) rfl hm (fun hb89 hm => ?_) (fun hb89 hm => ?_)
          · refine CW.seq ?_
            refine CW.regionL ?_
            refine OW.cons (OP.val (v := (.int .i64 1)) rfl (x_assign) ?_)
            refine OW.nil ?_
            refine CW.ret ?_
            obtain rfl := Option.some.inj hm
            have hm := hr51 _ rfl
            obtain rfl := Option.some.inj hm
            exact RR1 rfl rfl ⟨rfl, hL.fresh 1 rfl [] (by decide) (by decide) rfl⟩
          · refine CW.skip ?_
            refine CW.regionL ?_
            refine OW.cons (OP.val (v := (.int .i64 s_l1)) rfl (x_mv f71) ?_)
            refine OW.cons (OP.val (v := (.int .i64 (w64 (s_l1 + 1)))) rfl (x_add rfl rfl) ?_)
            refine OW.cons (OP.val (v := (.int .i64 (w64 (s_l1 + 1)))) rfl (x_assign) ?_)
            refine OW.nil ?_
            obtain rfl := Option.some.inj hm
            exact ⟨_, rfl, ⟨f68, f69, f70, rfl, hL⟩⟩
        · refine CW.exit ?_
          refine XJ.hit ?_
          obtain rfl := Option.some.inj hm
          exact ⟨_, rfl, ⟨f68, f69, f70, f71, hL⟩⟩

theorem M.spec_ProgressSeries_ok (w0 : World) (a0 : ProgressRules) (a1 : Int) (a2 : List (List Finish)) {v1 : Value} (h2 : rdL (· < w0.heap.size) w0 v1 a2) (a3 : List Rating) {v3 : Value} (h4 : rdL (· < w0.heap.size) w0 v3 a3) {r : (List Rating) × Int} (hm : M.spec_ProgressSeries a0 a1 a2 a3 = some r) :
    Calls Try.prog 38 #[(.agg #[(.int .i64 a0.Gain), (.int .i64 a0.Step), (.int .i64 a0.Low), (.int .i64 a0.High)]), (.int .i64 a1), v1, v3] w0 fun e w' => ∃ (rv0 : Value) (rS0 : Nat → Prop), e = .returned (.tuple #[rv0, (.int .i64 r.2)]) ∧ Fresh w0 w' [Ent.own 61 rS0 rv0 r.1] := by
  unfold M.spec_ProgressSeries at hm
  refine calls_CW (args := [(.agg #[(.int .i64 a0.Gain), (.int .i64 a0.Step), (.int .i64 a0.Low), (.int .i64 a0.High)]), (.int .i64 a1), v1, v3]) Try.func38 rfl rfl rfl ?_
  have hL := Hp.start w0
  refine CW.seq ?_
  refine CW.regionL ?_
  refine OW.cons (S_box (cs := #[(.int .i64 a0.Gain), (.int .i64 a0.Step), (.int .i64 a0.Low), (.int .i64 a0.High)]) hL rfl rfl rfl ?_)
  intro wd5 b6 hL
  refine OW.cons (OP.val (v := (.slice none 0 0)) rfl (x_assign) ?_)
  refine OW.cons (OP.val (v := (.int .i64 0)) rfl (x_assign) ?_)
  refine OW.nil ?_
  refine CW.seq ?_
  refine CW.regionL ?_
  refine OW.cons (OP.val (v := (.agg #[(.int .i64 a0.Gain), (.int .i64 a0.Step), (.int .i64 a0.Low), (.int .i64 a0.High)])) rfl (x_loadN (cs := [(.int .i64 a0.Gain), (.int .i64 a0.Step), (.int .i64 a0.Low), (.int .i64 a0.High)]) Try.underlying46 Try_T46 rfl rfl (hL.cellsB 0 rfl (o := 0) (l := [(.int .i64 a0.Gain), (.int .i64 a0.Step), (.int .i64 a0.Low), (.int .i64 a0.High)]) (by intro j u hj; exact (by simpa using hj)))) ?_)
  refine OW.cons (OP.val (v := (.int .i64 a1)) rfl (x_move) ?_)
  refine OW.cons (OP.val (v := v1) rfl (x_move) ?_)
  refine OW.cons (OP.val (v := v3) rfl (x_move) ?_)
  obtain ⟨x7, hx8, hm⟩ := bndE hm
  refine OW.cons (OP.call rfl (x_call (vs := [(.agg #[(.int .i64 a0.Gain), (.int .i64 a0.Step), (.int .i64 a0.Low), (.int .i64 a0.High)]), (.int .i64 a1), v1, v3]) Try_C72 ⟨rfl, rfl, rfl, rfl, trivial⟩) (M.spec_l25Code_ok _ a0 a1 a2 (hL.rdS 1 rfl h2) a3 (hL.rdS 1 rfl h4) hx8) ?_)
  rintro e9 wd10 ⟨rfl, hF11⟩
  refine ⟨_, rfl, ?_⟩
  have hL := hL.pushAll hF11
  simp only [lA, lB, lC, lD] at hL
  refine OW.cons (OP.val (v := (.int .i64 x7)) rfl (x_assign) ?_)
  refine OW.nil ?_
  refine CW.seq ?_
  refine CW.seq ?_
  refine CW.regionL ?_
  refine OW.cons (OP.val (v := (.int .i64 x7)) rfl (x_move) ?_)
  refine OW.cons (OP.val (v := (.bool (x7 != 0))) rfl (x_neq rfl rfl) ?_)
  refine OW.nil ?_
  refine CW.condM (t := x7 != 0) rfl hm (fun hb12 hm => ?_) (fun hb12 hm => ?_)
  · refine CW.seq ?_
    refine CW.regionL ?_
    refine OW.cons (OP.val (v := (.int .i64 x7)) rfl (x_move) ?_)
    refine OW.cons (OP.val (v := (.slice none 0 0)) rfl (x_assign) ?_)
    refine OW.cons (OP.val (v := (.int .i64 x7)) rfl (x_assign) ?_)
    refine OW.nil ?_
    refine CW.ret ?_
    have hL := hL.pushNil Rating 61
    obtain rfl := Option.some.inj hm
    exact RR2 rfl rfl rfl ⟨(.slice none 0 0), None_, rfl, hL.fresh 2 rfl [0] (by decide) (by decide) rfl⟩
  · refine CW.skip ?_
    refine CW.seq ?_
    refine CW.regionL ?_
    refine OW.cons (S_lit ([] : List Rating) hL Try.underlying30 Try_T61 rfl (by decide) (by first | (simp [Instr.fill, madeCells, Value.cells, ev, upd, Flat.enc, Flat.sz]; done) | rfl | kernel_rfl) rfl rfl ?_)
    intro wd13 v14 S15 hL
    refine OW.cons (OP.val (v := v3) rfl (x_move) ?_)
    obtain ⟨hc19, hm⟩ := chkE hm
    refine OW.cons (S_append (ys := a3) hL 0 rfl Try.underlying30 Try_T61 rfl rfl rfl (hL.rdS 2 rfl h4) hc19 (by decide) rfl ?_)
    intro wd16 v17 S18 hL
    refine OW.cons (OP.val (v := v17) rfl (x_assign) ?_)
    refine OW.nil ?_
    refine CW.seq ?_
    refine CW.seq ?_
    refine CW.regionL ?_
    refine OW.cons (OP.val (v := (.int .i64 0)) rfl (x_assign) ?_)
    refine OW.nil ?_
    obtain ⟨o100, ho101, hm⟩ := bndE hm
    refine CW.loopB (fun (s_l1 : (List Rating) × Int) (F : Fr) (w : World) => ∃ (v96 : Value) (S97 : Nat → Prop), F 2 = v1 ∧ F 4 = (.pointer (some ⟨b6, 0, none⟩)) ∧ F 11 = v96 ∧ F 12 = (.int .i64 s_l1.2) ∧ Hp w0 [Ent.own 61 S97 v96 s_l1.1, Ent.blk b6 46 #[(.int .i64 a0.Gain), (.int .i64 a0.Step), (.int .i64 a0.Low), (.int .i64 a0.High)], Ent.snap w0 w0.heap.size] w) (fun o => outc o (fun x => some x) (fun s => M.spec_ProgressSeries_a1 s) = some r) ho101 hm ⟨v17, S18, rfl, rfl, rfl, rfl, hL⟩ ?_ ?_
    · intro s_l1 F102 wd103 hJ hm
      have hm := outcE hm
      have hm : M.spec_ProgressSeries_a1 s_l1 = some r := hm
      unfold M.spec_ProgressSeries_a1 at hm
      obtain ⟨v96, S97, f104, f105, f106, f107, hL⟩ := hJ
      refine CW.seq ?_
      refine CW.regionL ?_
      refine OW.cons (OP.val (v := v96) rfl (x_mv f106) ?_)
      refine OW.cons (OP.val (v := v96) rfl (x_assign) ?_)
      refine OW.cons (OP.val (v := (.int .i64 0)) rfl (x_assign) ?_)
      refine OW.nil ?_
      refine CW.ret ?_
      obtain rfl := Option.some.inj hm
      exact RR2 rfl rfl rfl ⟨v96, S97, rfl, hL.fresh 2 rfl [0] (by decide) (by decide) rfl⟩
    · intro s_l1 F108 wd109 t98 hJ hm hr99
      unfold M.spec_ProgressSeries_l1 at hm
      obtain ⟨v96, S97, f110, f111, f112, f113, hL⟩ := hJ
      refine CW.seq ?_
      refine CW.seq ?_
      refine CW.regionL ?_
      refine OW.cons (OP.val (v := (.int .i64 s_l1.2)) rfl (x_mv f113) ?_)
      refine OW.cons (OP.val (v := v1) rfl (x_mv f110) ?_)
      refine OW.cons (OP.val (v := (.int .i64 (a2.length : Int))) rfl (x_lenR Try.underlying63 rfl (hL.rdS 2 rfl h2)) ?_)
      refine OW.cons (OP.val (v := (.bool (decide (s_l1.2 < (a2.length : Int))))) rfl (x_lss rfl rfl) ?_)
      refine OW.nil ?_
      refine CW.condM (t := decide (s_l1.2 < (a2.length : Int))) rfl hm (fun hb114 hm => ?_) (fun hb114 hm => ?_)
      · refine CW.skip ?_
        refine CW.seq ?_
        refine CW.block ?_
        refine CW.drawH (fun w' => Hp w0 [Ent.own 61 S97 v96 s_l1.1, Ent.blk b6 46 #[(.int .i64 a0.Gain), (.int .i64 a0.Step), (.int .i64 a0.Low), (.int .i64 a0.High)], Ent.snap w0 w0.heap.size] w') Try_mixed ?_
        have hL := hL.call (Mod.drew _)
        have hS := (hL.sel [0, 1, 2] (by decide) rfl)
        refine DH.take 0 rfl (by kernel_rfl) (by kernel_rfl) (by kernel_rfl) rfl rfl hS (YH.val (v := (.agg #[(.int .i64 a0.Gain), (.int .i64 a0.Step), (.int .i64 a0.Low), (.int .i64 a0.High)])) (fun w' hS' => x_loadN (cs := [(.int .i64 a0.Gain), (.int .i64 a0.Step), (.int .i64 a0.Low), (.int .i64 a0.High)]) Try.underlying46 Try_T46 rfl f111 (hS'.cellsB 1 rfl (o := 0) (l := [(.int .i64 a0.Gain), (.int .i64 a0.Step), (.int .i64 a0.Low), (.int .i64 a0.High)]) (by intro j u hj; exact (by simpa using hj))))) ?_
        have hS := (hL.sel [0, 1, 2] (by decide) rfl)
        refine DH.take 1 rfl (by kernel_rfl) (by kernel_rfl) (by kernel_rfl) rfl rfl hS (YH.val (v := v1) (fun w' hS' => x_mv f110)) ?_
        have hS := (hL.sel [0, 1, 2] (by decide) rfl)
        refine DH.take 2 rfl (by kernel_rfl) (by kernel_rfl) (by kernel_rfl) rfl rfl hS (YH.val (v := (.int .i64 s_l1.2)) (fun w' hS' => x_mv f113)) ?_
        have hS := (hL.sel [0, 1, 2] (by decide) rfl)
        obtain ⟨x133, ha134, hm⟩ := bndE hm
        obtain ⟨hz135, ha143⟩ := idxE ha134
        obtain ⟨b136, q137, v138, hix139, hs140, hc141, hr142⟩ := rdN_at h2 hz135 ha143
        refine DH.take 3 rfl (by kernel_rfl) (by kernel_rfl) (by kernel_rfl) rfl rfl hS (YH.val (v := (.pointer (some ⟨b136, q137, none⟩))) (fun w' hS' => x_ix Try.underlying63 Try_T28 rfl rfl hix139)) ?_
        have hS := (hL.sel [0, 1, 2] (by decide) rfl)
        refine DH.take 4 rfl (by kernel_rfl) (by kernel_rfl) (by kernel_rfl) rfl rfl hS (YH.val (v := v138) (fun w' hS' => x_load1 Try.underlying28 rfl rfl (hS'.cellS 2 rfl hs140 hc141))) ?_
        have hS := (hL.sel [0, 1, 2] (by decide) rfl)
        refine DH.take 5 rfl (by kernel_rfl) (by kernel_rfl) (by kernel_rfl) rfl rfl hS (YH.val (v := v96) (fun w' hS' => x_mv f112)) ?_
        obtain ⟨x144, hx145, hm⟩ := bndE hm
        refine DH.only 6 rfl (by kernel_rfl) (OP.call rfl (x_call (vs := [(.agg #[(.int .i64 a0.Gain), (.int .i64 a0.Step), (.int .i64 a0.Low), (.int .i64 a0.High)]), v138, v96]) Try_C58 ⟨rfl, rfl, rfl, trivial⟩) (M.spec_l25Race_ok _ a0 x133 (hL.rdS 2 rfl hr142) s_l1.1 (hL.rdO 0 rfl) hx145) ?_)
        rintro e148 wd149 ⟨v147, S146, rfl, hF150⟩
        refine ⟨_, rfl, ?_⟩
        have hL := hL.pushAll hF150
        simp only [lA, lB, lC, lD] at hL
        refine ⟨(hL.sel [1, 2, 3] (by decide) rfl), ?_⟩
        have hS := (hL.sel [1, 2, 3] (by decide) rfl)
        refine DH.take 7 rfl (by kernel_rfl) (by kernel_rfl) (by kernel_rfl) rfl rfl hS (YH.val (v := v147) (fun w' hS' => x_assign)) ?_
        refine DH.done (by kernel_rfl) ?_
        refine CW.regionL ?_
        refine OW.cons (OP.val (v := (.int .i64 s_l1.2)) rfl (x_mv f113) ?_)
        refine OW.cons (OP.val (v := (.int .i64 (w64 (s_l1.2 + 1)))) rfl (x_add rfl rfl) ?_)
        refine OW.cons (OP.val (v := (.int .i64 (w64 (s_l1.2 + 1)))) rfl (x_assign) ?_)
        refine OW.nil ?_
        have hL := hL.sel [0, 2, 3] (by decide) rfl
        obtain rfl := Option.some.inj hm
        exact ⟨_, rfl, ⟨v147, S146, f110, f111, rfl, rfl, hL⟩⟩
      · refine CW.exit ?_
        refine XJ.hit ?_
        obtain rfl := Option.some.inj hm
        exact ⟨_, rfl, ⟨v96, S97, f110, f111, f112, f113, hL⟩⟩

theorem M.impl_BoundedBoats_ok (w0 : World) (a0 : ProgressRules) (a1 : Int) (a2 : List Rating) {v1 : Value} (h2 : rdL (· < w0.heap.size) w0 v1 a2) {r : (List Int) × Int} (hm : M.impl_BoundedBoats a0 a1 a2 = some r) :
    Calls Try.prog 39 #[(.agg #[(.int .i64 a0.Gain), (.int .i64 a0.Step), (.int .i64 a0.Low), (.int .i64 a0.High)]), (.int .i64 a1), v1] w0 fun e w' => ∃ (rv0 : Value) (rS0 : Nat → Prop), e = .returned (.tuple #[rv0, (.int .i64 r.2)]) ∧ Fresh w0 w' [Ent.own 2 rS0 rv0 r.1] := by
  unfold M.impl_BoundedBoats at hm
  refine calls_CW (args := [(.agg #[(.int .i64 a0.Gain), (.int .i64 a0.Step), (.int .i64 a0.Low), (.int .i64 a0.High)]), (.int .i64 a1), v1]) Try.func39 rfl rfl rfl ?_
  have hL := Hp.start w0
  refine CW.seq ?_
  refine CW.regionL ?_
  refine OW.cons (S_box (cs := #[(.int .i64 a0.Gain), (.int .i64 a0.Step), (.int .i64 a0.Low), (.int .i64 a0.High)]) hL rfl rfl rfl ?_)
  intro wd3 b4 hL
  refine OW.cons (OP.val (v := (.slice none 0 0)) rfl (x_assign) ?_)
  refine OW.cons (OP.val (v := (.int .i64 0)) rfl (x_assign) ?_)
  refine OW.nil ?_
  refine CW.seq ?_
  refine CW.seq ?_
  refine CW.regionL ?_
  refine OW.cons (OP.val (v := (.agg #[(.int .i64 a0.Gain), (.int .i64 a0.Step), (.int .i64 a0.Low), (.int .i64 a0.High)])) rfl (x_loadN (cs := [(.int .i64 a0.Gain), (.int .i64 a0.Step), (.int .i64 a0.Low), (.int .i64 a0.High)]) Try.underlying46 Try_T46 rfl rfl (hL.cellsB 0 rfl (o := 0) (l := [(.int .i64 a0.Gain), (.int .i64 a0.Step), (.int .i64 a0.Low), (.int .i64 a0.High)]) (by intro j u hj; exact (by simpa using hj)))) ?_)
  obtain ⟨x5, hx6, hm⟩ := bndE hm
  refine OW.cons (OP.call rfl (x_call (vs := [(.agg #[(.int .i64 a0.Gain), (.int .i64 a0.Step), (.int .i64 a0.Low), (.int .i64 a0.High)])]) Try_C59 ⟨rfl, trivial⟩) (M.impl_IsProgress_ok _ a0 hx6) ?_)
  rintro e7 wd8 ⟨rfl, hF9⟩
  refine ⟨_, rfl, ?_⟩
  have hL := hL.pushAll hF9
  simp only [lA, lB, lC, lD] at hL
  refine OW.cons (OP.val (v := (.bool (!x5))) rfl (x_not rfl) ?_)
  refine OW.nil ?_
  refine CW.condM (t := !x5) rfl hm (fun hb10 hm => ?_) (fun hb10 hm => ?_)
  · refine CW.seq ?_
    refine CW.regionL ?_
    refine OW.cons (OP.val (v := (.slice none 0 0)) rfl (x_assign) ?_)
    refine OW.cons (OP.val (v := (.int .i64 1)) rfl (x_assign) ?_)
    refine OW.nil ?_
    refine CW.ret ?_
    have hL := hL.pushNil Int 2
    obtain rfl := Option.some.inj hm
    exact RR2 rfl rfl rfl ⟨(.slice none 0 0), None_, rfl, hL.fresh 2 rfl [0] (by decide) (by decide) rfl⟩
  · refine CW.skip ?_
    refine CW.seq ?_
    refine CW.seq ?_
    refine CW.regionL ?_
    refine OW.cons (OP.val (v := (.int .i64 a1)) rfl (x_move) ?_)
    refine OW.cons (OP.val (v := v1) rfl (x_move) ?_)
    obtain ⟨x11, hx12, hm⟩ := bndE hm
    refine OW.cons (OP.call rfl (x_call (vs := [(.int .i64 a1), v1]) Try_C73 ⟨rfl, rfl, trivial⟩) (M.impl_IsRatings_ok _ a1 a2 (hL.rdS 1 rfl h2) hx12) ?_)
    rintro e13 wd14 ⟨rfl, hF15⟩
    refine ⟨_, rfl, ?_⟩
    have hL := hL.pushAll hF15
    simp only [lA, lB, lC, lD] at hL
    refine OW.cons (OP.val (v := (.bool (!x11))) rfl (x_not rfl) ?_)
    refine OW.nil ?_
    refine CW.condM (t := !x11) rfl hm (fun hb16 hm => ?_) (fun hb16 hm => ?_)
    · refine CW.seq ?_
      refine CW.regionL ?_
      refine OW.cons (OP.val (v := (.slice none 0 0)) rfl (x_assign) ?_)
      refine OW.cons (OP.val (v := (.int .i64 2)) rfl (x_assign) ?_)
      refine OW.nil ?_
      refine CW.ret ?_
      have hL := hL.pushNil Int 2
      obtain rfl := Option.some.inj hm
      exact RR2 rfl rfl rfl ⟨(.slice none 0 0), None_, rfl, hL.fresh 2 rfl [0] (by decide) (by decide) rfl⟩
    · refine CW.skip ?_
      refine CW.seq ?_
      refine CW.regionL ?_
      refine OW.cons (S_lit ([] : List Int) hL Try.underlying35 Try_T2 rfl (by decide) (by first | (simp [Instr.fill, madeCells, Value.cells, ev, upd, Flat.enc, Flat.sz]; done) | rfl | kernel_rfl) rfl rfl ?_)
      intro wd17 v18 S19 hL
      refine OW.cons (OP.val (v := v18) rfl (x_assign) ?_)
      refine OW.nil ?_
      refine CW.seq ?_
      refine CW.seq ?_
      refine CW.regionL ?_
      refine OW.cons (OP.val (v := v1) rfl (x_move) ?_)
      refine OW.cons (OP.val (v := (.int .i64 (a2.length : Int))) rfl (x_lenR Try.underlying30 rfl (hL.rdS 2 rfl h2)) ?_)
      refine OW.cons (OP.val (v := (.int .i64 0)) rfl (x_move) ?_)
      refine OW.nil ?_
      obtain ⟨o314, ho315, hm⟩ := bndE hm
      refine CW.loopB (fun (s_l1 : (List Int) × Int) (F : Fr) (w : World) => ∃ (v310 : Value) (S311 : Nat → Prop), F 3 = (.pointer (some ⟨b4, 0, none⟩)) ∧ F 8 = v310 ∧ F 19 = v1 ∧ F 20 = (.int .i64 (a2.length : Int)) ∧ F 21 = (.int .i64 s_l1.2) ∧ Hp w0 [Ent.own 2 S311 v310 s_l1.1, Ent.blk b4 46 #[(.int .i64 a0.Gain), (.int .i64 a0.Step), (.int .i64 a0.Low), (.int .i64 a0.High)], Ent.snap w0 w0.heap.size] w) (fun o => outc o (fun x => some x) (fun s => M.impl_BoundedBoats_a1 s) = some r) ho315 hm ⟨v18, S19, rfl, rfl, rfl, rfl, rfl, hL⟩ ?_ ?_
      · intro s_l1 F316 wd317 hJ hm
        have hm := outcE hm
        have hm : M.impl_BoundedBoats_a1 s_l1 = some r := hm
        unfold M.impl_BoundedBoats_a1 at hm
        obtain ⟨v310, S311, f318, f319, f320, f321, f322, hL⟩ := hJ
        refine CW.seq ?_
        refine CW.regionL ?_
        refine OW.cons (OP.val (v := v310) rfl (x_mv f319) ?_)
        refine OW.cons (OP.val (v := v310) rfl (x_assign) ?_)
        refine OW.cons (OP.val (v := (.int .i64 0)) rfl (x_assign) ?_)
        refine OW.nil ?_
        refine CW.ret ?_
        obtain rfl := Option.some.inj hm
        exact RR2 rfl rfl rfl ⟨v310, S311, rfl, hL.fresh 2 rfl [0] (by decide) (by decide) rfl⟩
      · intro s_l1 F323 wd324 t312 hJ hm hr313
        unfold M.impl_BoundedBoats_l1 at hm
        obtain ⟨v310, S311, f325, f326, f327, f328, f329, hL⟩ := hJ
        refine CW.seq ?_
        refine CW.regionL ?_
        refine OW.cons (OP.val (v := (.bool (decide (s_l1.2 < (a2.length : Int))))) rfl (x_lss f329 f328) ?_)
        refine OW.nil ?_
        refine CW.seq ?_
        refine CW.condM (t := decide (s_l1.2 < (a2.length : Int))) rfl hm (fun hb330 hm => ?_) (fun hb330 hm => ?_)
        · refine CW.skip ?_
          refine CW.seqJ (fun (s_j1 : (List Int)) (F : Fr) (w : World) => ∃ (v398 : Value) (S399 : Nat → Prop), F 3 = (.pointer (some ⟨b4, 0, none⟩)) ∧ F 8 = v398 ∧ F 19 = v1 ∧ F 20 = (.int .i64 (a2.length : Int)) ∧ F 21 = (.int .i64 s_l1.2) ∧ Hp w0 [Ent.own 2 S399 v398 s_j1, Ent.blk b4 46 #[(.int .i64 a0.Gain), (.int .i64 a0.Step), (.int .i64 a0.Low), (.int .i64 a0.High)], Ent.snap w0 w0.heap.size] w) (fun s_j1 => M.impl_BoundedBoats_j1 s_l1 s_j1 = some t312) ?_ ?_
          · refine CW.blockJ (fun (s_j2 : (List Int)) (F : Fr) (w : World) => ∃ (v436 : Value) (S437 : Nat → Prop), F 3 = (.pointer (some ⟨b4, 0, none⟩)) ∧ F 8 = v436 ∧ F 19 = v1 ∧ F 20 = (.int .i64 (a2.length : Int)) ∧ F 21 = (.int .i64 s_l1.2) ∧ Hp w0 [Ent.own 2 S437 v436 s_j2, Ent.blk b4 46 #[(.int .i64 a0.Gain), (.int .i64 a0.Step), (.int .i64 a0.Low), (.int .i64 a0.High)], Ent.snap w0 w0.heap.size] w) (fun s_j2 => M.impl_BoundedBoats_j2 s_l1 s_j2 = some t312) ?_ ?_
            · refine CW.seq ?_
              refine CW.regionL ?_
              obtain ⟨x445, ha446, hm⟩ := bndE hm
              obtain ⟨hz447, ha451⟩ := idxE ha446
              obtain ⟨b448, q449, hix450⟩ := rdL_ix (hL.rdS 2 rfl h2) hz447 ha451
              refine OW.cons (OP.val (v := (.pointer (some ⟨b448, q449, none⟩))) rfl (x_ix Try.underlying30 Try_T61 f327 f329 hix450) ?_)
              refine OW.cons (OP.val (v := (.agg #[(.int .i64 x445.Boat), (.int .i64 x445.Value)])) rfl (x_loadN (cs := [(.int .i64 x445.Boat), (.int .i64 x445.Value)]) Try.underlying61 Try_T61 rfl rfl (rdF_cells (hL.rdS 2 rfl h2) hix450 ha451)) ?_)
              refine OW.cons (S_alloc (cs := #[(.int .i64 0), (.int .i64 0)]) hL Try_T61 rfl rfl ?_)
              intro wd452 b453 hL
              refine OW.cons (S_storeN (l := [(.int .i64 x445.Boat), (.int .i64 x445.Value)]) (cs' := #[(.int .i64 x445.Boat), (.int .i64 x445.Value)]) hL 0 rfl Try_T61 rfl rfl (List.forall_mem_cons.2 ⟨rfl, (List.forall_mem_cons.2 ⟨rfl, (fun _ h => by cases h)⟩)⟩) rfl (Nat.le_of_ble_eq_true rfl) rfl ?_)
              intro wd454 hL
              refine OW.nil ?_
              refine CW.seqJ (fun (s_j3 : Bool) (F : Fr) (w : World) => F 3 = (.pointer (some ⟨b4, 0, none⟩)) ∧ F 8 = v310 ∧ F 10 = (.pointer (some ⟨b453, 0, none⟩)) ∧ F 19 = v1 ∧ F 20 = (.int .i64 (a2.length : Int)) ∧ F 21 = (.int .i64 s_l1.2) ∧ F 36 = (.bool s_j3) ∧ Hp w0 [Ent.blk b453 61 #[(.int .i64 x445.Boat), (.int .i64 x445.Value)], Ent.own 2 S311 v310 s_l1.1, Ent.blk b4 46 #[(.int .i64 a0.Gain), (.int .i64 a0.Step), (.int .i64 a0.Low), (.int .i64 a0.High)], Ent.snap w0 w0.heap.size] w) (fun s_j3 => M.impl_BoundedBoats_j3 s_l1 x445 s_j3 = some t312) ?_ ?_
              · refine CW.regionL ?_
                refine OW.cons (OP.val (v := (.pointer (some ⟨b453, 1, none⟩))) rfl (x_fieldAddr (fsz := 1) 0 1 1 Try.underlying61 rfl Try_T2 rfl rfl rfl) ?_)
                refine OW.cons (OP.val (v := (.int .i64 x445.Value)) rfl (x_load1 Try.underlying2 rfl rfl (hL.cellB 0 rfl rfl)) ?_)
                refine OW.cons (OP.val (v := (.pointer (some ⟨b4, 2, none⟩))) rfl (x_fieldAddr (fsz := 1) 0 2 2 Try.underlying46 rfl Try_T2 rfl f325 rfl) ?_)
                refine OW.cons (OP.val (v := (.int .i64 a0.Low)) rfl (x_load1 Try.underlying2 rfl rfl (hL.cellB 2 rfl rfl)) ?_)
                refine OW.cons (OP.val (v := (.bool (decide (x445.Value ≤ a0.Low)))) rfl (x_leq rfl rfl) ?_)
                refine OW.cons (OP.val (v := (.bool (decide (x445.Value ≤ a0.Low)))) rfl (x_move) ?_)
                refine ifB_elim hm (fun hb473 hm => ?_) (fun hb473 hm => ?_)
                · refine OW.cons (OP.no' rfl rfl hb473 rfl ?_)
                  refine OW.cons (OP.no' rfl rfl hb473 rfl ?_)
                  refine OW.cons (OP.no' rfl rfl hb473 rfl ?_)
                  refine OW.cons (OP.no' rfl rfl hb473 rfl ?_)
                  refine OW.cons (OP.no' rfl rfl hb473 rfl ?_)
                  refine OW.cons (OP.val (v := (.bool true)) rfl (x_pickT' rfl hb473 rfl) ?_)
                  refine OW.nil ?_
                  exact ⟨true, hm, ⟨f325, f326, rfl, f327, f328, f329, rfl, hL⟩⟩
                · refine OW.cons (OP.yes' rfl rfl hb473 (OP.val (v := (.pointer (some ⟨b453, 1, none⟩))) rfl (x_fieldAddr (fsz := 1) 0 1 1 Try.underlying61 rfl Try_T2 rfl rfl rfl) ?_))
                  refine OW.cons (OP.yes' rfl rfl hb473 (OP.val (v := (.int .i64 x445.Value)) rfl (x_load1 Try.underlying2 rfl rfl (hL.cellB 0 rfl rfl)) ?_))
                  refine OW.cons (OP.yes' rfl rfl hb473 (OP.val (v := (.pointer (some ⟨b4, 3, none⟩))) rfl (x_fieldAddr (fsz := 1) 0 3 3 Try.underlying46 rfl Try_T2 rfl f325 rfl) ?_))
                  refine OW.cons (OP.yes' rfl rfl hb473 (OP.val (v := (.int .i64 a0.High)) rfl (x_load1 Try.underlying2 rfl rfl (hL.cellB 2 rfl rfl)) ?_))
                  refine OW.cons (OP.yes' rfl rfl hb473 (OP.val (v := (.bool (decide (a0.High ≤ x445.Value)))) rfl (x_geq rfl rfl) ?_))
                  refine OW.cons (OP.val (v := (.bool (decide (a0.High ≤ x445.Value)))) rfl (x_pickF' rfl hb473 rfl) ?_)
                  refine OW.nil ?_
                  exact ⟨decide (a0.High ≤ x445.Value), hm, ⟨f325, f326, rfl, f327, f328, f329, rfl, hL⟩⟩
              · intro s_j3 F456 wd457 hJ hm
                unfold M.impl_BoundedBoats_j3 at hm
                obtain ⟨f458, f459, f460, f461, f462, f463, f464, hL⟩ := hJ
                refine CW.condM (t := s_j3) f464 hm (fun hb465 hm => ?_) (fun hb465 hm => ?_)
                · refine CW.regionL ?_
                  refine OW.cons (OP.val (v := v310) rfl (x_mv f459) ?_)
                  refine OW.cons (OP.val (v := (.pointer (some ⟨b453, 0, none⟩))) rfl (x_fieldAddr (fsz := 1) 0 0 0 Try.underlying61 rfl Try_T2 rfl f460 rfl) ?_)
                  refine OW.cons (OP.val (v := (.int .i64 x445.Boat)) rfl (x_load1 Try.underlying2 rfl rfl (hL.cellB 0 rfl rfl)) ?_)
                  refine OW.cons (S_lit ([x445.Boat] : List Int) hL Try.underlying35 Try_T2 rfl (by decide) (by first | (simp [Instr.fill, madeCells, Value.cells, ev, upd, Flat.enc, Flat.sz]; done) | rfl | kernel_rfl) rfl rfl ?_)
                  intro wd466 v467 S468 hL
                  obtain ⟨hc472, hm⟩ := chkE hm
                  refine OW.cons (S_append (ys := ([x445.Boat] : List Int)) hL 2 rfl Try.underlying35 Try_T2 rfl rfl rfl (hL.rdO 0 rfl) hc472 (by decide) rfl ?_)
                  intro wd469 v470 S471 hL
                  refine OW.cons (OP.val (v := v470) rfl (x_assign) ?_)
                  refine OW.nil ?_
                  have hL := hL.sel [2, 3, 4] (by decide) rfl
                  exact ⟨s_l1.1 ++ ([x445.Boat] : List Int), hm, ⟨v470, S471, f458, rfl, f461, f462, f463, hL⟩⟩
                · refine CW.skip ?_
                  have hL := hL.sel [1, 2, 3] (by decide) rfl
                  exact ⟨s_l1.1, hm, ⟨v310, S311, f458, f459, f461, f462, f463, hL⟩⟩
            · intro s_j2 F438 wd439 hJ hm
              unfold M.impl_BoundedBoats_j2 at hm
              obtain ⟨v436, S437, f440, f441, f442, f443, f444, hL⟩ := hJ
              exact ⟨s_j2, hm, ⟨v436, S437, f440, f441, f442, f443, f444, hL⟩⟩
          · intro s_j1 F400 wd401 hJ hm
            unfold M.impl_BoundedBoats_j1 at hm
            obtain ⟨v398, S399, f402, f403, f404, f405, f406, hL⟩ := hJ
            refine CW.regionL ?_
            refine OW.cons (OP.val (v := (.int .i64 (w64 (s_l1.2 + 1)))) rfl (x_add f406 rfl) ?_)
            refine OW.cons (OP.val (v := (.int .i64 (w64 (s_l1.2 + 1)))) rfl (x_move) ?_)
            refine OW.nil ?_
            obtain rfl := Option.some.inj hm
            exact ⟨_, rfl, ⟨v398, S399, f402, f403, f404, f405, rfl, hL⟩⟩
        · refine CW.exit ?_
          refine XJ.hit ?_
          obtain rfl := Option.some.inj hm
          exact ⟨_, rfl, ⟨v310, S311, f325, f326, f327, f328, f329, hL⟩⟩

theorem M.impl_FactorHistory_ok (w0 : World) (a0 : ProgressRules) (a1 : Int) (a2 : List (List Finish)) {v1 : Value} (h2 : rdL (· < w0.heap.size) w0 v1 a2) (a3 : List Rating) {v3 : Value} (h4 : rdL (· < w0.heap.size) w0 v3 a3) (a4 : Int) {r : (List Int) × Int} (hm : M.impl_FactorHistory a0 a1 a2 a3 a4 = some r) :
    Calls Try.prog 40 #[(.agg #[(.int .i64 a0.Gain), (.int .i64 a0.Step), (.int .i64 a0.Low), (.int .i64 a0.High)]), (.int .i64 a1), v1, v3, (.int .i64 a4)] w0 fun e w' => ∃ (rv0 : Value) (rS0 : Nat → Prop), e = .returned (.tuple #[rv0, (.int .i64 r.2)]) ∧ Fresh w0 w' [Ent.own 2 rS0 rv0 r.1] := by
  unfold M.impl_FactorHistory at hm
  refine calls_CW (args := [(.agg #[(.int .i64 a0.Gain), (.int .i64 a0.Step), (.int .i64 a0.Low), (.int .i64 a0.High)]), (.int .i64 a1), v1, v3, (.int .i64 a4)]) Try.func40 rfl rfl rfl ?_
  have hL := Hp.start w0
  refine CW.seq ?_
  refine CW.regionL ?_
  refine OW.cons (S_box (cs := #[(.int .i64 a0.Gain), (.int .i64 a0.Step), (.int .i64 a0.Low), (.int .i64 a0.High)]) hL rfl rfl rfl ?_)
  intro wd5 b6 hL
  refine OW.cons (OP.val (v := (.slice none 0 0)) rfl (x_assign) ?_)
  refine OW.cons (OP.val (v := (.int .i64 0)) rfl (x_assign) ?_)
  refine OW.nil ?_
  refine CW.seq ?_
  refine CW.regionL ?_
  refine OW.cons (OP.val (v := (.agg #[(.int .i64 a0.Gain), (.int .i64 a0.Step), (.int .i64 a0.Low), (.int .i64 a0.High)])) rfl (x_loadN (cs := [(.int .i64 a0.Gain), (.int .i64 a0.Step), (.int .i64 a0.Low), (.int .i64 a0.High)]) Try.underlying46 Try_T46 rfl rfl (hL.cellsB 0 rfl (o := 0) (l := [(.int .i64 a0.Gain), (.int .i64 a0.Step), (.int .i64 a0.Low), (.int .i64 a0.High)]) (by intro j u hj; exact (by simpa using hj)))) ?_)
  refine OW.cons (OP.val (v := (.int .i64 a1)) rfl (x_move) ?_)
  refine OW.cons (OP.val (v := v1) rfl (x_move) ?_)
  refine OW.cons (OP.val (v := v3) rfl (x_move) ?_)
  obtain ⟨x7, hx8, hm⟩ := bndE hm
  refine OW.cons (OP.call rfl (x_call (vs := [(.agg #[(.int .i64 a0.Gain), (.int .i64 a0.Step), (.int .i64 a0.Low), (.int .i64 a0.High)]), (.int .i64 a1), v1, v3]) Try_C71 ⟨rfl, rfl, rfl, rfl, trivial⟩) (M.impl_progressSteps_ok _ a0 a1 a2 (hL.rdS 1 rfl h2) a3 (hL.rdS 1 rfl h4) hx8) ?_)
  rintro e11 wd12 ⟨v10, S9, rfl, hF13⟩
  refine ⟨_, rfl, ?_⟩
  have hL := hL.pushAll hF13
  simp only [lA, lB, lC, lD] at hL
  refine OW.cons (OP.val (v := (.tuple #[v10, (.int .i64 x7.2)])) rfl (x_move) ?_)
  refine OW.cons (OP.val (v := v10) rfl (x_extract rfl rfl) ?_)
  refine OW.cons (OP.val (v := (.int .i64 x7.2)) rfl (x_extract rfl rfl) ?_)
  refine OW.cons (OP.val (v := v10) rfl (x_assign) ?_)
  refine OW.cons (OP.val (v := (.int .i64 x7.2)) rfl (x_assign) ?_)
  refine OW.nil ?_
  refine CW.seq ?_
  refine CW.seq ?_
  refine CW.regionL ?_
  refine OW.cons (OP.val (v := (.int .i64 x7.2)) rfl (x_move) ?_)
  refine OW.cons (OP.val (v := (.bool (x7.2 != 0))) rfl (x_neq rfl rfl) ?_)
  refine OW.nil ?_
  refine CW.condM (t := x7.2 != 0) rfl hm (fun hb14 hm => ?_) (fun hb14 hm => ?_)
  · refine CW.seq ?_
    refine CW.regionL ?_
    refine OW.cons (OP.val (v := (.int .i64 x7.2)) rfl (x_move) ?_)
    refine OW.cons (OP.val (v := (.slice none 0 0)) rfl (x_assign) ?_)
    refine OW.cons (OP.val (v := (.int .i64 x7.2)) rfl (x_assign) ?_)
    refine OW.nil ?_
    refine CW.ret ?_
    have hL := hL.pushNil Int 2
    obtain rfl := Option.some.inj hm
    exact RR2 rfl rfl rfl ⟨(.slice none 0 0), None_, rfl, hL.fresh 3 rfl [0] (by decide) (by decide) rfl⟩
  · refine CW.skip ?_
    refine CW.seq ?_
    refine CW.seq ?_
    refine CW.regionL ?_
    refine OW.cons (OP.val (v := (.int .i64 a4)) rfl (x_move) ?_)
    refine OW.cons (OP.val (v := (.int .i64 a1)) rfl (x_move) ?_)
    refine OW.cons (OP.val (v := (.int .i64 (w64 (a1 - 1)))) rfl (x_sub rfl rfl) ?_)
    obtain ⟨x15, hx16, hm⟩ := bndE hm
    refine OW.cons (OP.call rfl (x_call (vs := [(.int .i64 a4), (.int .i64 0), (.int .i64 (w64 (a1 - 1)))]) Try_C74 ⟨rfl, rfl, rfl, trivial⟩) (M.impl_within_ok _ a4 0 (w64 (a1 - 1)) hx16) ?_)
    rintro e17 wd18 ⟨rfl, hF19⟩
    refine ⟨_, rfl, ?_⟩
    have hL := hL.pushAll hF19
    simp only [lA, lB, lC, lD] at hL
    refine OW.cons (OP.val (v := (.bool (!x15))) rfl (x_not rfl) ?_)
    refine OW.nil ?_
    refine CW.condM (t := !x15) rfl hm (fun hb20 hm => ?_) (fun hb20 hm => ?_)
    · refine CW.seq ?_
      refine CW.regionL ?_
      refine OW.cons (OP.val (v := (.slice none 0 0)) rfl (x_assign) ?_)
      refine OW.cons (OP.val (v := (.int .i64 4)) rfl (x_assign) ?_)
      refine OW.nil ?_
      refine CW.ret ?_
      have hL := hL.pushNil Int 2
      obtain rfl := Option.some.inj hm
      exact RR2 rfl rfl rfl ⟨(.slice none 0 0), None_, rfl, hL.fresh 3 rfl [0] (by decide) (by decide) rfl⟩
    · refine CW.skip ?_
      refine CW.seq ?_
      refine CW.regionL ?_
      refine OW.cons (S_lit ([] : List Int) hL Try.underlying35 Try_T2 rfl (by decide) (by first | (simp [Instr.fill, madeCells, Value.cells, ev, upd, Flat.enc, Flat.sz]; done) | rfl | kernel_rfl) rfl rfl ?_)
      intro wd21 v22 S23 hL
      refine OW.cons (OP.val (v := v22) rfl (x_assign) ?_)
      refine OW.nil ?_
      refine CW.seq ?_
      refine CW.seq ?_
      refine CW.regionL ?_
      refine OW.cons (OP.val (v := v10) rfl (x_move) ?_)
      refine OW.cons (OP.val (v := (.int .i64 (x7.1.length : Int))) rfl (x_lenR Try.underlying101 rfl (hL.rdO 1 rfl)) ?_)
      refine OW.cons (OP.val (v := (.int .i64 0)) rfl (x_move) ?_)
      refine OW.nil ?_
      obtain ⟨o86, ho87, hm⟩ := bndE hm
      refine CW.loopB (fun (s_l1 : (List Int) × Int) (F : Fr) (w : World) => ∃ (v82 : Value) (S83 : Nat → Prop), F 4 = (.int .i64 a4) ∧ F 14 = v82 ∧ F 34 = v10 ∧ F 35 = (.int .i64 (x7.1.length : Int)) ∧ F 36 = (.int .i64 s_l1.2) ∧ Hp w0 [Ent.own 2 S83 v82 s_l1.1, Ent.own 30 S9 v10 x7.1, Ent.blk b6 46 #[(.int .i64 a0.Gain), (.int .i64 a0.Step), (.int .i64 a0.Low), (.int .i64 a0.High)], Ent.snap w0 w0.heap.size] w) (fun o => outc o (fun x => some x) (fun s => M.impl_FactorHistory_a1 s) = some r) ho87 hm ⟨v22, S23, rfl, rfl, rfl, rfl, rfl, hL⟩ ?_ ?_
      · intro s_l1 F88 wd89 hJ hm
        have hm := outcE hm
        have hm : M.impl_FactorHistory_a1 s_l1 = some r := hm
        unfold M.impl_FactorHistory_a1 at hm
        obtain ⟨v82, S83, f90, f91, f92, f93, f94, hL⟩ := hJ
        refine CW.seq ?_
        refine CW.regionL ?_
        refine OW.cons (OP.val (v := v82) rfl (x_mv f91) ?_)
        refine OW.cons (OP.val (v := v82) rfl (x_assign) ?_)
        refine OW.cons (OP.val (v := (.int .i64 0)) rfl (x_assign) ?_)
        refine OW.nil ?_
        refine CW.ret ?_
        obtain rfl := Option.some.inj hm
        exact RR2 rfl rfl rfl ⟨v82, S83, rfl, hL.fresh 3 rfl [0] (by decide) (by decide) rfl⟩
      · intro s_l1 F95 wd96 t84 hJ hm hr85
        unfold M.impl_FactorHistory_l1 at hm
        obtain ⟨v82, S83, f97, f98, f99, f100, f101, hL⟩ := hJ
        refine CW.seq ?_
        refine CW.regionL ?_
        refine OW.cons (OP.val (v := (.bool (decide (s_l1.2 < (x7.1.length : Int))))) rfl (x_lss f101 f100) ?_)
        refine OW.nil ?_
        refine CW.seq ?_
        refine CW.condM (t := decide (s_l1.2 < (x7.1.length : Int))) rfl hm (fun hb102 hm => ?_) (fun hb102 hm => ?_)
        · refine CW.skip ?_
          refine CW.seq ?_
          refine CW.block ?_
          refine CW.seq ?_
          refine CW.regionL ?_
          obtain ⟨wz103, hL, ho104⟩ := hL.freeze 1 rfl
          simp only [lC, lD] at hL
          obtain ⟨x105, ha106, hm⟩ := bndE hm
          obtain ⟨hz107, ha115⟩ := idxE ha106
          obtain ⟨b108, q109, v110, hix111, hs112, hc113, hr114⟩ := rdN_at ho104.1.rdL hz107 ha115
          refine OW.cons (OP.val (v := (.pointer (some ⟨b108, q109, none⟩))) rfl (x_ix Try.underlying101 Try_T30 f99 f101 hix111) ?_)
          refine OW.cons (OP.val (v := v110) rfl (x_load1 Try.underlying30 rfl rfl (hL.cellF 1 rfl hs112 hc113)) ?_)
          refine OW.cons (OP.val (v := v110) rfl (x_assign) ?_)
          refine OW.nil ?_
          refine CW.regionL ?_
          refine OW.cons (OP.val (v := v82) rfl (x_mv f98) ?_)
          refine OW.cons (OP.val (v := v110) rfl (x_move) ?_)
          refine OW.cons (OP.val (v := (.int .i64 a4)) rfl (x_mv f97) ?_)
          obtain ⟨x116, ha117, hm⟩ := bndE hm
          obtain ⟨hz118, ha122⟩ := idxE ha117
          obtain ⟨b119, q120, hix121⟩ := rdL_ix (hL.rdF 1 rfl hr114) hz118 ha122
          refine OW.cons (OP.val (v := (.pointer (some ⟨b119, q120, none⟩))) rfl (x_ix Try.underlying30 Try_T61 rfl rfl hix121) ?_)
          refine OW.cons (OP.val (v := (.pointer (some ⟨b119, q120 + 1, none⟩))) rfl (x_fieldAddr (fsz := 1) q120 1 (q120 + 1) Try.underlying61 rfl Try_T2 rfl rfl rfl) ?_)
          refine OW.cons (OP.val (v := (.int .i64 x116.Value)) rfl (x_load1 Try.underlying2 rfl rfl (rdF_cells (hL.rdF 1 rfl hr114) hix121 ha122 1 _ rfl)) ?_)
          refine OW.cons (S_lit ([x116.Value] : List Int) hL Try.underlying35 Try_T2 rfl (by decide) (by first | (simp [Instr.fill, madeCells, Value.cells, ev, upd, Flat.enc, Flat.sz]; done) | rfl | kernel_rfl) rfl rfl ?_)
          intro wd123 v124 S125 hL
          obtain ⟨hc129, hm⟩ := chkE hm
          refine OW.cons (S_append (ys := ([x116.Value] : List Int)) hL 1 rfl Try.underlying35 Try_T2 rfl rfl rfl (hL.rdO 0 rfl) hc129 (by decide) rfl ?_)
          intro wd126 v127 S128 hL
          refine OW.cons (OP.val (v := v127) rfl (x_assign) ?_)
          refine OW.nil ?_
          refine CW.regionL ?_
          refine OW.cons (OP.val (v := (.int .i64 (w64 (s_l1.2 + 1)))) rfl (x_add f101 rfl) ?_)
          refine OW.cons (OP.val (v := (.int .i64 (w64 (s_l1.2 + 1)))) rfl (x_move) ?_)
          refine OW.nil ?_
          have hL := hL.thaw 2 rfl ho104
          have hL := hL.sel [1, 2, 3, 4] (by decide) rfl
          obtain rfl := Option.some.inj hm
          exact ⟨_, rfl, ⟨v127, S128, f97, rfl, f99, f100, rfl, hL⟩⟩
        · refine CW.exit ?_
          refine XJ.hit ?_
          obtain rfl := Option.some.inj hm
          exact ⟨_, rfl, ⟨v82, S83, f97, f98, f99, f100, f101, hL⟩⟩

theorem M.laws_hasInt_ok (w0 : World) (a0 : List Int) {v1 : Value} (h2 : rdL (· < w0.heap.size) w0 v1 a0) (a1 : Int) {r : Bool} (hm : M.laws_hasInt a0 a1 = some r) :
    Calls Try.prog 41 #[v1, (.int .i64 a1)] w0 fun e w' => e = .returned (.bool r) ∧ Fresh w0 w' [] := by
  unfold M.laws_hasInt at hm
  refine calls_CW (args := [v1, (.int .i64 a1)]) Try.func41 rfl rfl rfl ?_
  have hL := Hp.start w0
  refine CW.seq ?_
  refine CW.regionL ?_
  refine OW.cons (OP.val (v := (.bool false)) rfl (x_assign) ?_)
  refine OW.nil ?_
  refine CW.seq ?_
  refine CW.seq ?_
  refine CW.regionL ?_
  refine OW.cons (OP.val (v := (.int .i64 0)) rfl (x_assign) ?_)
  refine OW.nil ?_
  obtain ⟨o23, ho24, hm⟩ := bndE hm
  refine CW.loopB (fun (s_l1 : Int) (F : Fr) (w : World) => F 0 = v1 ∧ F 1 = (.int .i64 a1) ∧ F 5 = (.int .i64 s_l1) ∧ Hp w0 [Ent.snap w0 w0.heap.size] w) (fun o => outc o (fun x => some x) (fun s => M.laws_hasInt_a1 s) = some r) ho24 hm ⟨rfl, rfl, rfl, hL⟩ ?_ ?_
  · intro s_l1 F25 wd26 hJ hm
    have hm := outcE hm
    have hm : M.laws_hasInt_a1 s_l1 = some r := hm
    unfold M.laws_hasInt_a1 at hm
    obtain ⟨f27, f28, f29, hL⟩ := hJ
    refine CW.seq ?_
    refine CW.regionL ?_
    refine OW.cons (OP.val (v := (.bool false)) rfl (x_assign) ?_)
    refine OW.nil ?_
    refine CW.ret ?_
    obtain rfl := Option.some.inj hm
    exact RR1 rfl rfl ⟨rfl, hL.fresh 0 rfl [] (by decide) (by decide) rfl⟩
  · intro s_l1 F30 wd31 t21 hJ hm hr22
    unfold M.laws_hasInt_l1 at hm
    obtain ⟨f32, f33, f34, hL⟩ := hJ
    refine CW.seq ?_
    refine CW.seq ?_
    refine CW.regionL ?_
    refine OW.cons (OP.val (v := (.int .i64 s_l1)) rfl (x_mv f34) ?_)
    refine OW.cons (OP.val (v := v1) rfl (x_mv f32) ?_)
    refine OW.cons (OP.val (v := (.int .i64 (a0.length : Int))) rfl (x_lenR Try.underlying35 rfl (hL.rdS 0 rfl h2)) ?_)
    refine OW.cons (OP.val (v := (.bool (decide (s_l1 < (a0.length : Int))))) rfl (x_lss rfl rfl) ?_)
    refine OW.nil ?_
    refine CW.condM (t := decide (s_l1 < (a0.length : Int))) rfl hm (fun hb35 hm => ?_) (fun hb35 hm => ?_)
    · refine CW.skip ?_
      refine CW.seq ?_
      refine CW.block ?_
      refine CW.seq ?_
      refine CW.regionL ?_
      refine OW.cons (OP.val (v := v1) rfl (x_mv f32) ?_)
      refine OW.cons (OP.val (v := (.int .i64 s_l1)) rfl (x_mv f34) ?_)
      obtain ⟨x36, ha37, hm⟩ := bndE hm
      obtain ⟨hz38, ha42⟩ := idxE ha37
      obtain ⟨b39, q40, hix41⟩ := rdL_ix (hL.rdS 0 rfl h2) hz38 ha42
      refine OW.cons (OP.val (v := (.pointer (some ⟨b39, q40, none⟩))) rfl (x_ix Try.underlying35 Try_T2 rfl rfl hix41) ?_)
      refine OW.cons (OP.val (v := (.int .i64 x36)) rfl (x_load1 Try.underlying2 rfl rfl (rdF_cells (hL.rdS 0 rfl h2) hix41 ha42 0 _ rfl)) ?_)
      refine OW.cons (OP.val (v := (.int .i64 a1)) rfl (x_mv f33) ?_)
      refine OW.cons (OP.val (v := (.bool (x36 == a1))) rfl (x_eql rfl rfl) ?_)
      refine OW.nil ?_
      refine CW.condM (t := x36 == a1) rfl hm (fun hb43 hm => ?_) (fun hb43 hm => ?_)
      · refine CW.seq ?_
        refine CW.regionL ?_
        refine OW.cons (OP.val (v := (.bool true)) rfl (x_assign) ?_)
        refine OW.nil ?_
        refine CW.ret ?_
        obtain rfl := Option.some.inj hm
        have hm := hr22 _ rfl
        obtain rfl := Option.some.inj hm
        exact RR1 rfl rfl ⟨rfl, hL.fresh 0 rfl [] (by decide) (by decide) rfl⟩
      · refine CW.skip ?_
        refine CW.regionL ?_
        refine OW.cons (OP.val (v := (.int .i64 s_l1)) rfl (x_mv f34) ?_)
        refine OW.cons (OP.val (v := (.int .i64 (w64 (s_l1 + 1)))) rfl (x_add rfl rfl) ?_)
        refine OW.cons (OP.val (v := (.int .i64 (w64 (s_l1 + 1)))) rfl (x_assign) ?_)
        refine OW.nil ?_
        obtain rfl := Option.some.inj hm
        exact ⟨_, rfl, ⟨f32, f33, rfl, hL⟩⟩
    · refine CW.exit ?_
      refine XJ.hit ?_
      obtain rfl := Option.some.inj hm
      exact ⟨_, rfl, ⟨f32, f33, f34, hL⟩⟩

theorem M.laws_FnProgressSeries_ok (w0 : World) (a0 : List UInt8) {v1 : Value} (h2 : rdL (· < w0.heap.size) w0 v1 a0) {r : Bool} (hm : M.laws_FnProgressSeries a0 = some r) :
    Calls Try.prog 8 #[v1] w0 fun e w' => e = .returned (.bool r) ∧ Fresh w0 w' [] := by
  unfold M.laws_FnProgressSeries at hm
  refine calls_CW (args := [v1]) Try.func8 rfl rfl rfl ?_
  have hL := Hp.start w0
  refine CW.seq ?_
  refine CW.regionL ?_
  refine OW.cons (OP.val (v := (.bool false)) rfl (x_assign) ?_)
  refine OW.nil ?_
  refine CW.seq ?_
  refine CW.seq ?_
  refine CW.regionL ?_
  refine OW.cons (OP.val (v := v1) rfl (x_move) ?_)
  obtain ⟨x3, hx4, hm⟩ := bndE hm
  refine OW.cons (OP.call rfl (x_call (vs := [v1]) Try_C30 ⟨rfl, trivial⟩) (M.laws_big_ok _ a0 (hL.rdS 0 rfl h2) hx4) ?_)
  rintro e5 wd6 ⟨rfl, hF7⟩
  refine ⟨_, rfl, ?_⟩
  have hL := hL.pushAll hF7
  simp only [lA, lB, lC, lD] at hL
  refine OW.nil ?_
  refine CW.condM (t := x3) rfl hm (fun hb8 hm => ?_) (fun hb8 hm => ?_)
  · refine CW.seq ?_
    refine CW.regionL ?_
    refine OW.cons (OP.val (v := (.bool true)) rfl (x_assign) ?_)
    refine OW.nil ?_
    refine CW.ret ?_
    obtain rfl := Option.some.inj hm
    exact RR1 rfl rfl ⟨rfl, hL.fresh 0 rfl [] (by decide) (by decide) rfl⟩
  · refine CW.skip ?_
    refine CW.seq ?_
    refine CW.regionL ?_
    refine OW.cons (OP.val (v := v1) rfl (x_move) ?_)
    obtain ⟨x9, hx10, hm⟩ := bndE hm
    refine OW.cons (OP.call rfl (x_call (vs := [v1]) Try_C36 ⟨rfl, trivial⟩) (M.spec_DrawProgressSeries_ok _ a0 (hL.rdS 0 rfl h2) hx10) ?_)
    rintro e15 wd16 ⟨v12, S11, v14, S13, rfl, hF17⟩
    refine ⟨_, rfl, ?_⟩
    have hL := hL.pushAll hF17
    simp only [lA, lB, lC, lD] at hL
    refine OW.cons (OP.val (v := (.tuple #[(.agg #[(.int .i64 x9.1.Gain), (.int .i64 x9.1.Step), (.int .i64 x9.1.Low), (.int .i64 x9.1.High)]), (.int .i64 x9.2.1), v12, v14])) rfl (x_move) ?_)
    refine OW.cons (OP.val (v := (.agg #[(.int .i64 x9.1.Gain), (.int .i64 x9.1.Step), (.int .i64 x9.1.Low), (.int .i64 x9.1.High)])) rfl (x_extract rfl rfl) ?_)
    refine OW.cons (OP.val (v := (.int .i64 x9.2.1)) rfl (x_extract rfl rfl) ?_)
    refine OW.cons (OP.val (v := v12) rfl (x_extract rfl rfl) ?_)
    refine OW.cons (OP.val (v := v14) rfl (x_extract rfl rfl) ?_)
    refine OW.cons (S_alloc (cs := #[(.int .i64 0), (.int .i64 0), (.int .i64 0), (.int .i64 0)]) hL Try_T46 rfl rfl ?_)
    intro wd18 b19 hL
    refine OW.cons (S_storeN (l := [(.int .i64 x9.1.Gain), (.int .i64 x9.1.Step), (.int .i64 x9.1.Low), (.int .i64 x9.1.High)]) (cs' := #[(.int .i64 x9.1.Gain), (.int .i64 x9.1.Step), (.int .i64 x9.1.Low), (.int .i64 x9.1.High)]) hL 0 rfl Try_T46 rfl rfl (List.forall_mem_cons.2 ⟨rfl, (List.forall_mem_cons.2 ⟨rfl, (List.forall_mem_cons.2 ⟨rfl, (List.forall_mem_cons.2 ⟨rfl, (fun _ h => by cases h)⟩)⟩)⟩)⟩) rfl (Nat.le_of_ble_eq_true rfl) rfl ?_)
    intro wd20 hL
    refine OW.cons (OP.val (v := (.int .i64 x9.2.1)) rfl (x_assign) ?_)
    refine OW.cons (OP.val (v := v12) rfl (x_assign) ?_)
    refine OW.cons (OP.val (v := v14) rfl (x_assign) ?_)
    refine OW.nil ?_
    refine CW.seq ?_
    refine CW.regionL ?_
    refine OW.cons (OP.val (v := (.agg #[(.int .i64 x9.1.Gain), (.int .i64 x9.1.Step), (.int .i64 x9.1.Low), (.int .i64 x9.1.High)])) rfl (x_loadN (cs := [(.int .i64 x9.1.Gain), (.int .i64 x9.1.Step), (.int .i64 x9.1.Low), (.int .i64 x9.1.High)]) Try.underlying46 Try_T46 rfl rfl (hL.cellsB 0 rfl (o := 0) (l := [(.int .i64 x9.1.Gain), (.int .i64 x9.1.Step), (.int .i64 x9.1.Low), (.int .i64 x9.1.High)]) (by intro j u hj; exact (by simpa using hj)))) ?_)
    refine OW.cons (OP.val (v := (.int .i64 x9.2.1)) rfl (x_move) ?_)
    refine OW.cons (OP.val (v := v12) rfl (x_move) ?_)
    refine OW.cons (OP.val (v := v14) rfl (x_move) ?_)
    obtain ⟨x21, hx22, hm⟩ := bndE hm
    refine OW.cons (OP.call rfl (x_call (vs := [(.agg #[(.int .i64 x9.1.Gain), (.int .i64 x9.1.Step), (.int .i64 x9.1.Low), (.int .i64 x9.1.High)]), (.int .i64 x9.2.1), v12, v14]) Try_C37 ⟨rfl, rfl, rfl, rfl, trivial⟩) (M.impl_ProgressSeries_ok _ x9.1 x9.2.1 x9.2.2.1 (hL.rdO 1 rfl) x9.2.2.2 (hL.rdO 2 rfl) hx22) ?_)
    rintro e26 wd27 ⟨E23, v25, S24, rfl, hF28⟩
    refine ⟨_, rfl, ?_⟩
    have hL := hL.pushAll hF28
    simp only [lA, lB, lC, lD] at hL
    refine OW.cons (OP.val (v := (.tuple #[v25, (.int .i64 x21.2)])) rfl (x_move) ?_)
    refine OW.cons (OP.val (v := v25) rfl (x_extract rfl rfl) ?_)
    refine OW.cons (OP.val (v := (.int .i64 x21.2)) rfl (x_extract rfl rfl) ?_)
    refine OW.cons (OP.val (v := v25) rfl (x_assign) ?_)
    refine OW.cons (OP.val (v := (.int .i64 x21.2)) rfl (x_assign) ?_)
    refine OW.nil ?_
    refine CW.seq ?_
    refine CW.regionL ?_
    refine OW.cons (OP.val (v := (.agg #[(.int .i64 x9.1.Gain), (.int .i64 x9.1.Step), (.int .i64 x9.1.Low), (.int .i64 x9.1.High)])) rfl (x_loadN (cs := [(.int .i64 x9.1.Gain), (.int .i64 x9.1.Step), (.int .i64 x9.1.Low), (.int .i64 x9.1.High)]) Try.underlying46 Try_T46 rfl rfl (hL.cellsB 1 rfl (o := 0) (l := [(.int .i64 x9.1.Gain), (.int .i64 x9.1.Step), (.int .i64 x9.1.Low), (.int .i64 x9.1.High)]) (by intro j u hj; exact (by simpa using hj)))) ?_)
    refine OW.cons (OP.val (v := (.int .i64 x9.2.1)) rfl (x_move) ?_)
    refine OW.cons (OP.val (v := v12) rfl (x_move) ?_)
    refine OW.cons (OP.val (v := v14) rfl (x_move) ?_)
    obtain ⟨x29, hx30, hm⟩ := bndE hm
    refine OW.cons (OP.call rfl (x_call (vs := [(.agg #[(.int .i64 x9.1.Gain), (.int .i64 x9.1.Step), (.int .i64 x9.1.Low), (.int .i64 x9.1.High)]), (.int .i64 x9.2.1), v12, v14]) Try_C38 ⟨rfl, rfl, rfl, rfl, trivial⟩) (M.spec_ProgressSeries_ok _ x9.1 x9.2.1 x9.2.2.1 (hL.rdO 2 rfl) x9.2.2.2 (hL.rdO 3 rfl) hx30) ?_)
    rintro e33 wd34 ⟨v32, S31, rfl, hF35⟩
    refine ⟨_, rfl, ?_⟩
    have hL := hL.pushAll hF35
    simp only [lA, lB, lC, lD] at hL
    refine OW.cons (OP.val (v := (.tuple #[v32, (.int .i64 x29.2)])) rfl (x_move) ?_)
    refine OW.cons (OP.val (v := v32) rfl (x_extract rfl rfl) ?_)
    refine OW.cons (OP.val (v := (.int .i64 x29.2)) rfl (x_extract rfl rfl) ?_)
    refine OW.cons (OP.val (v := v32) rfl (x_assign) ?_)
    refine OW.cons (OP.val (v := (.int .i64 x29.2)) rfl (x_assign) ?_)
    refine OW.nil ?_
    refine CW.seq ?_
    refine CW.seq ?_
    refine CW.regionL ?_
    refine OW.cons (OP.val (v := (.int .i64 x21.2)) rfl (x_move) ?_)
    refine OW.cons (OP.val (v := (.int .i64 x29.2)) rfl (x_move) ?_)
    refine OW.cons (OP.val (v := (.bool (x21.2 != x29.2))) rfl (x_neq rfl rfl) ?_)
    refine OW.nil ?_
    refine CW.condM (t := x21.2 != x29.2) rfl hm (fun hb36 hm => ?_) (fun hb36 hm => ?_)
    · refine CW.seq ?_
      refine CW.regionL ?_
      refine OW.cons (OP.val (v := (.bool false)) rfl (x_assign) ?_)
      refine OW.nil ?_
      refine CW.ret ?_
      obtain rfl := Option.some.inj hm
      exact RR1 rfl rfl ⟨rfl, hL.fresh 5 rfl [] (by decide) (by decide) rfl⟩
    · refine CW.skip ?_
      refine CW.seq ?_
      refine CW.seq ?_
      refine CW.regionL ?_
      refine OW.cons (OP.val (v := (.int .i64 x21.2)) rfl (x_move) ?_)
      refine OW.cons (OP.val (v := (.bool (x21.2 != 0))) rfl (x_neq rfl rfl) ?_)
      refine OW.nil ?_
      refine CW.condM (t := x21.2 != 0) rfl hm (fun hb37 hm => ?_) (fun hb37 hm => ?_)
      · refine CW.seq ?_
        refine CW.regionL ?_
        refine OW.cons (OP.val (v := v25) rfl (x_move) ?_)
        refine OW.cons (OP.val (v := (.int .i64 (x21.1.length : Int))) rfl (x_lenR Try.underlying30 rfl (hL.rdO 1 rfl)) ?_)
        refine OW.cons (OP.val (v := (.bool ((x21.1.length : Int) == 0))) rfl (x_eql rfl rfl) ?_)
        refine OW.cons (OP.val (v := (.bool ((x21.1.length : Int) == 0))) rfl (x_assign) ?_)
        refine OW.nil ?_
        refine CW.ret ?_
        obtain rfl := Option.some.inj hm
        exact RR1 rfl rfl ⟨rfl, hL.fresh 5 rfl [] (by decide) (by decide) rfl⟩
      · refine CW.skip ?_
        refine CW.seq ?_
        refine CW.seq ?_
        refine CW.regionL ?_
        refine OW.cons (OP.val (v := v25) rfl (x_move) ?_)
        refine OW.cons (OP.val (v := (.int .i64 (x21.1.length : Int))) rfl (x_lenR Try.underlying30 rfl (hL.rdO 1 rfl)) ?_)
        refine OW.cons (OP.val (v := (.int .i64 x9.2.1)) rfl (x_move) ?_)
        refine OW.cons (OP.val (v := (.bool ((x21.1.length : Int) != x9.2.1))) rfl (x_neq rfl rfl) ?_)
        refine OW.nil ?_
        refine CW.condM (t := (x21.1.length : Int) != x9.2.1) rfl hm (fun hb38 hm => ?_) (fun hb38 hm => ?_)
        · refine CW.seq ?_
          refine CW.regionL ?_
          refine OW.cons (OP.val (v := (.bool false)) rfl (x_assign) ?_)
          refine OW.nil ?_
          refine CW.ret ?_
          obtain rfl := Option.some.inj hm
          exact RR1 rfl rfl ⟨rfl, hL.fresh 5 rfl [] (by decide) (by decide) rfl⟩
        · refine CW.skip ?_
          refine CW.seq ?_
          refine CW.regionL ?_
          refine OW.cons (OP.val (v := (.agg #[(.int .i64 x9.1.Gain), (.int .i64 x9.1.Step), (.int .i64 x9.1.Low), (.int .i64 x9.1.High)])) rfl (x_loadN (cs := [(.int .i64 x9.1.Gain), (.int .i64 x9.1.Step), (.int .i64 x9.1.Low), (.int .i64 x9.1.High)]) Try.underlying46 Try_T46 rfl rfl (hL.cellsB 2 rfl (o := 0) (l := [(.int .i64 x9.1.Gain), (.int .i64 x9.1.Step), (.int .i64 x9.1.Low), (.int .i64 x9.1.High)]) (by intro j u hj; exact (by simpa using hj)))) ?_)
          refine OW.cons (OP.val (v := (.int .i64 x9.2.1)) rfl (x_move) ?_)
          refine OW.cons (OP.val (v := v25) rfl (x_move) ?_)
          obtain ⟨x39, hx40, hm⟩ := bndE hm
          refine OW.cons (OP.call rfl (x_call (vs := [(.agg #[(.int .i64 x9.1.Gain), (.int .i64 x9.1.Step), (.int .i64 x9.1.Low), (.int .i64 x9.1.High)]), (.int .i64 x9.2.1), v25]) Try_C39 ⟨rfl, rfl, rfl, trivial⟩) (M.impl_BoundedBoats_ok _ x9.1 x9.2.1 x21.1 (hL.rdO 1 rfl) hx40) ?_)
          rintro e43 wd44 ⟨v42, S41, rfl, hF45⟩
          refine ⟨_, rfl, ?_⟩
          have hL := hL.pushAll hF45
          simp only [lA, lB, lC, lD] at hL
          refine OW.cons (OP.val (v := (.tuple #[v42, (.int .i64 x39.2)])) rfl (x_move) ?_)
          refine OW.cons (OP.val (v := v42) rfl (x_extract rfl rfl) ?_)
          refine OW.cons (OP.val (v := (.int .i64 x39.2)) rfl (x_extract rfl rfl) ?_)
          refine OW.cons (OP.val (v := v42) rfl (x_assign) ?_)
          refine OW.cons (OP.val (v := (.int .i64 x39.2)) rfl (x_assign) ?_)
          refine OW.nil ?_
          refine CW.seq ?_
          refine CW.seq ?_
          refine CW.regionL ?_
          refine OW.cons (OP.val (v := (.int .i64 x39.2)) rfl (x_move) ?_)
          refine OW.cons (OP.val (v := (.bool (x39.2 != 0))) rfl (x_neq rfl rfl) ?_)
          refine OW.nil ?_
          refine CW.condM (t := x39.2 != 0) rfl hm (fun hb46 hm => ?_) (fun hb46 hm => ?_)
          · refine CW.seq ?_
            refine CW.regionL ?_
            refine OW.cons (OP.val (v := (.bool false)) rfl (x_assign) ?_)
            refine OW.nil ?_
            refine CW.ret ?_
            obtain rfl := Option.some.inj hm
            exact RR1 rfl rfl ⟨rfl, hL.fresh 6 rfl [] (by decide) (by decide) rfl⟩
          · refine CW.skip ?_
            refine CW.seq ?_
            refine CW.seq ?_
            refine CW.regionL ?_
            refine OW.cons (OP.val (v := (.int .i64 0)) rfl (x_assign) ?_)
            refine OW.nil ?_
            obtain ⟨o325, ho326, hm⟩ := bndE hm
            have hL := hL.sel [0, 2, 3, 4, 5, 6] (by decide) rfl
            refine CW.loopB (fun (s_l1 : Int) (F : Fr) (w : World) => F 3 = (.pointer (some ⟨b19, 0, none⟩)) ∧ F 4 = (.int .i64 x9.2.1) ∧ F 5 = v12 ∧ F 6 = v14 ∧ F 7 = v25 ∧ F 11 = v42 ∧ F 13 = (.int .i64 s_l1) ∧ Hp w0 [Ent.own 2 S41 v42 x39.1, Ent.own E23 S24 v25 x21.1, Ent.blk b19 46 #[(.int .i64 x9.1.Gain), (.int .i64 x9.1.Step), (.int .i64 x9.1.Low), (.int .i64 x9.1.High)], Ent.own 28 S11 v12 x9.2.2.1, Ent.own 61 S13 v14 x9.2.2.2, Ent.snap w0 w0.heap.size] w) (fun o => outc o (fun x => some x) (fun s => M.laws_FnProgressSeries_a1 s) = some r) ho326 hm ⟨rfl, rfl, rfl, rfl, rfl, rfl, rfl, hL⟩ ?_ ?_
            · intro s_l1 F327 wd328 hJ hm
              have hm := outcE hm
              have hm : M.laws_FnProgressSeries_a1 s_l1 = some r := hm
              unfold M.laws_FnProgressSeries_a1 at hm
              obtain ⟨f329, f330, f331, f332, f333, f334, f335, hL⟩ := hJ
              refine CW.seq ?_
              refine CW.regionL ?_
              refine OW.cons (OP.val (v := (.bool true)) rfl (x_assign) ?_)
              refine OW.nil ?_
              refine CW.ret ?_
              obtain rfl := Option.some.inj hm
              exact RR1 rfl rfl ⟨rfl, hL.fresh 5 rfl [] (by decide) (by decide) rfl⟩
            · intro s_l1 F336 wd337 t323 hJ hm hr324
              unfold M.laws_FnProgressSeries_l1 at hm
              obtain ⟨f338, f339, f340, f341, f342, f343, f344, hL⟩ := hJ
              refine CW.seq ?_
              refine CW.seq ?_
              refine CW.regionL ?_
              refine OW.cons (OP.val (v := (.int .i64 s_l1)) rfl (x_mv f344) ?_)
              refine OW.cons (OP.val (v := (.int .i64 x9.2.1)) rfl (x_mv f339) ?_)
              refine OW.cons (OP.val (v := (.bool (decide (s_l1 < x9.2.1)))) rfl (x_lss rfl rfl) ?_)
              refine OW.nil ?_
              refine CW.condM (t := decide (s_l1 < x9.2.1)) rfl hm (fun hb345 hm => ?_) (fun hb345 hm => ?_)
              · refine CW.skip ?_
                refine CW.seq ?_
                refine CW.block ?_
                refine CW.seq ?_
                refine CW.regionL ?_
                refine OW.cons (OP.val (v := (.agg #[(.int .i64 x9.1.Gain), (.int .i64 x9.1.Step), (.int .i64 x9.1.Low), (.int .i64 x9.1.High)])) rfl (x_loadN (cs := [(.int .i64 x9.1.Gain), (.int .i64 x9.1.Step), (.int .i64 x9.1.Low), (.int .i64 x9.1.High)]) Try.underlying46 Try_T46 rfl f338 (hL.cellsB 2 rfl (o := 0) (l := [(.int .i64 x9.1.Gain), (.int .i64 x9.1.Step), (.int .i64 x9.1.Low), (.int .i64 x9.1.High)]) (by intro j u hj; exact (by simpa using hj)))) ?_)
                refine OW.cons (OP.val (v := (.int .i64 x9.2.1)) rfl (x_mv f339) ?_)
                refine OW.cons (OP.val (v := v12) rfl (x_mv f340) ?_)
                refine OW.cons (OP.val (v := v14) rfl (x_mv f341) ?_)
                refine OW.cons (OP.val (v := (.int .i64 s_l1)) rfl (x_mv f344) ?_)
                obtain ⟨x346, hx347, hm⟩ := bndE hm
                refine OW.cons (OP.call rfl (x_call (vs := [(.agg #[(.int .i64 x9.1.Gain), (.int .i64 x9.1.Step), (.int .i64 x9.1.Low), (.int .i64 x9.1.High)]), (.int .i64 x9.2.1), v12, v14, (.int .i64 s_l1)]) Try_C40 ⟨rfl, rfl, rfl, rfl, rfl, trivial⟩) (M.impl_FactorHistory_ok _ x9.1 x9.2.1 x9.2.2.1 (hL.rdO 3 rfl) x9.2.2.2 (hL.rdO 4 rfl) s_l1 hx347) ?_)
                rintro e350 wd351 ⟨v349, S348, rfl, hF352⟩
                refine ⟨_, rfl, ?_⟩
                have hL := hL.pushAll hF352
                simp only [lA, lB, lC, lD] at hL
                refine OW.cons (OP.val (v := (.tuple #[v349, (.int .i64 x346.2)])) rfl (x_move) ?_)
                refine OW.cons (OP.val (v := v349) rfl (x_extract rfl rfl) ?_)
                refine OW.cons (OP.val (v := (.int .i64 x346.2)) rfl (x_extract rfl rfl) ?_)
                refine OW.cons (OP.val (v := v349) rfl (x_assign) ?_)
                refine OW.cons (OP.val (v := (.int .i64 x346.2)) rfl (x_assign) ?_)
                refine OW.nil ?_
                refine CW.seq ?_
                refine CW.seqJ (fun (s_j1 : Bool) (F : Fr) (w : World) => F 3 = (.pointer (some ⟨b19, 0, none⟩)) ∧ F 4 = (.int .i64 x9.2.1) ∧ F 5 = v12 ∧ F 6 = v14 ∧ F 7 = v25 ∧ F 11 = v42 ∧ F 13 = (.int .i64 s_l1) ∧ F 110 = (.bool s_j1) ∧ Hp w0 [Ent.own 2 S41 v42 x39.1, Ent.own E23 S24 v25 x21.1, Ent.blk b19 46 #[(.int .i64 x9.1.Gain), (.int .i64 x9.1.Step), (.int .i64 x9.1.Low), (.int .i64 x9.1.High)], Ent.own 28 S11 v12 x9.2.2.1, Ent.own 61 S13 v14 x9.2.2.2, Ent.snap w0 w0.heap.size] w) (fun s_j1 => M.laws_FnProgressSeries_j1 x9 x21 x39 s_l1 s_j1 = some t323) ?_ ?_
                · refine CW.draw Try_mixed ?_
                  have hL := hL.call (Mod.drew _)
                  refine DW.pre (fuel := 0) (fin := ((((((((((((((((((((((((((((((((((((Array.replicate 35 false).setIfInBounds 0 true).setIfInBounds 1 true).setIfInBounds 2 true).setIfInBounds 3 true).setIfInBounds 4 true).setIfInBounds 5 true).setIfInBounds 6 true).setIfInBounds 7 true).setIfInBounds 8 true).setIfInBounds 9 true).setIfInBounds 10 true).setIfInBounds 11 true).setIfInBounds 12 true).setIfInBounds 13 true).setIfInBounds 14 true).setIfInBounds 15 true).setIfInBounds 16 true).setIfInBounds 17 true).setIfInBounds 18 true).setIfInBounds 19 true).setIfInBounds 20 true).setIfInBounds 21 true).setIfInBounds 22 true).setIfInBounds 23 true).setIfInBounds 24 true).setIfInBounds 25 true).setIfInBounds 26 true).setIfInBounds 27 true).setIfInBounds 28 true).setIfInBounds 29 true).setIfInBounds 30 true).setIfInBounds 31 true).setIfInBounds 32 true).setIfInBounds 33 true).setIfInBounds 34 true)) (C := fun w' => Mod None_ _ w') [0, 1, 2, 3, 4, 5, 6, 7, 8, 9, 10, 11, 12, 13, 14, 15, 16, 17, 18, 19, 20, 21, 22, 23, 24, 25, 26, 27, 28, 29, 30, 31, 32, 33, 34] (Mod.refl _ _) (by kernel_rfl) (by kernel_rfl) ?_
                  refine QW.cons rfl (QP.val (v := (.int .i64 x346.2)) rfl (fun w' hm' => x_move) ?_)
                  refine QW.cons rfl (QP.val (v := (.bool (x346.2 != 0))) rfl (fun w' hm' => x_neq rfl rfl) ?_)
                  refine QW.cons rfl (QP.val (v := (.bool (x346.2 != 0))) rfl (fun w' hm' => x_move) ?_)
                  refine ifB_elim hm (fun hb448 hm => ?_) (fun hb448 hm => ?_)
                  · refine QW.cons rfl (QP.no' rfl rfl hb448 rfl ?_)
                    refine QW.cons rfl (QP.no' rfl rfl hb448 rfl ?_)
                    refine QW.cons rfl (QP.no' rfl rfl hb448 rfl ?_)
                    refine QW.cons rfl (QP.no' rfl rfl hb448 rfl ?_)
                    refine QW.cons rfl (QP.no' rfl rfl hb448 rfl ?_)
                    refine QW.cons rfl (QP.no' rfl rfl hb448 rfl ?_)
                    refine QW.cons rfl (QP.val (v := (.bool true)) rfl (fun w' hm' => x_pickT' rfl hb448 rfl) ?_)
                    refine QW.cons rfl (QP.val (v := (.bool true)) rfl (fun w' hm' => x_move) ?_)
                    refine QW.cons rfl (QP.no' rfl rfl rfl rfl ?_)
                    refine QW.cons rfl (QP.no' rfl rfl rfl rfl ?_)
                    refine QW.cons rfl (QP.no' rfl rfl rfl rfl ?_)
                    refine QW.cons rfl (QP.no' rfl rfl rfl rfl ?_)
                    refine QW.cons rfl (QP.no' rfl rfl rfl rfl ?_)
                    refine QW.cons rfl (QP.no' rfl rfl rfl rfl ?_)
                    refine QW.cons rfl (QP.no' rfl rfl rfl rfl ?_)
                    refine QW.cons rfl (QP.no' rfl rfl rfl rfl ?_)
                    refine QW.cons rfl (QP.no' rfl rfl rfl rfl ?_)
                    refine QW.cons rfl (QP.val (v := (.bool true)) rfl (fun w' hm' => x_pickT' rfl rfl rfl) ?_)
                    refine QW.cons rfl (QP.val (v := (.bool true)) rfl (fun w' hm' => x_move) ?_)
                    refine QW.cons rfl (QP.no' rfl rfl rfl rfl ?_)
                    refine QW.cons rfl (QP.no' rfl rfl rfl rfl ?_)
                    refine QW.cons rfl (QP.no' rfl rfl rfl rfl ?_)
                    refine QW.cons rfl (QP.no' rfl rfl rfl rfl ?_)
                    refine QW.cons rfl (QP.no' rfl rfl rfl rfl ?_)
                    refine QW.cons rfl (QP.no' rfl rfl rfl rfl ?_)
                    refine QW.cons rfl (QP.no' rfl rfl rfl rfl ?_)
                    refine QW.cons rfl (QP.no' rfl rfl rfl rfl ?_)
                    refine QW.cons rfl (QP.no' rfl rfl rfl rfl ?_)
                    refine QW.cons rfl (QP.no' rfl rfl rfl rfl ?_)
                    refine QW.cons rfl (QP.no' rfl rfl rfl rfl ?_)
                    refine QW.cons rfl (QP.no' rfl rfl rfl rfl ?_)
                    refine QW.cons rfl (QP.val (v := (.bool true)) rfl (fun w' hm' => x_pickT' rfl rfl rfl) ?_)
                    refine QW.nil ?_
                    intro wd449 hmod
                    have hL := hL.call hmod
                    refine DW.done (by kernel_rfl) ?_
                    have hL := hL.sel [1, 2, 3, 4, 5, 6] (by decide) rfl
                    exact ⟨true, hm, ⟨f338, f339, f340, f341, f342, f343, f344, rfl, hL⟩⟩
                  · refine QW.cons rfl (QP.yes' rfl rfl hb448 (QP.val (v := v349) rfl (fun w' hm' => x_move) ?_))
                    refine QW.cons rfl (QP.yes' rfl rfl hb448 (QP.val (v := (.int .i64 (x346.1.length : Int))) rfl (fun w' hm' => x_lenR Try.underlying35 rfl ((hL.call hm').rdO 0 rfl)) ?_))
                    refine QW.cons rfl (QP.yes' rfl rfl hb448 (QP.val (v := v12) rfl (fun w' hm' => x_mv f340) ?_))
                    refine QW.cons rfl (QP.yes' rfl rfl hb448 (QP.val (v := (.int .i64 (x9.2.2.1.length : Int))) rfl (fun w' hm' => x_lenR Try.underlying63 rfl ((hL.call hm').rdO 4 rfl)) ?_))
                    refine QW.cons rfl (QP.yes' rfl rfl hb448 (QP.val (v := (.int .i64 (w64 ((x9.2.2.1.length : Int) + 1)))) rfl (fun w' hm' => x_add rfl rfl) ?_))
                    refine QW.cons rfl (QP.yes' rfl rfl hb448 (QP.val (v := (.bool ((x346.1.length : Int) != (w64 ((x9.2.2.1.length : Int) + 1))))) rfl (fun w' hm' => x_neq rfl rfl) ?_))
                    refine QW.cons rfl (QP.val (v := (.bool ((x346.1.length : Int) != (w64 ((x9.2.2.1.length : Int) + 1))))) rfl (fun w' hm' => x_pickF' rfl hb448 rfl) ?_)
                    refine QW.cons rfl (QP.val (v := (.bool ((x346.1.length : Int) != (w64 ((x9.2.2.1.length : Int) + 1))))) rfl (fun w' hm' => x_move) ?_)
                    refine ifB_elim hm (fun hb450 hm => ?_) (fun hb450 hm => ?_)
                    · refine QW.cons rfl (QP.no' rfl rfl hb450 rfl ?_)
                      refine QW.cons rfl (QP.no' rfl rfl hb450 rfl ?_)
                      refine QW.cons rfl (QP.no' rfl rfl hb450 rfl ?_)
                      refine QW.cons rfl (QP.no' rfl rfl hb450 rfl ?_)
                      refine QW.cons rfl (QP.no' rfl rfl hb450 rfl ?_)
                      refine QW.cons rfl (QP.no' rfl rfl hb450 rfl ?_)
                      refine QW.cons rfl (QP.no' rfl rfl hb450 rfl ?_)
                      refine QW.cons rfl (QP.no' rfl rfl hb450 rfl ?_)
                      refine QW.cons rfl (QP.no' rfl rfl hb450 rfl ?_)
                      refine QW.cons rfl (QP.val (v := (.bool true)) rfl (fun w' hm' => x_pickT' rfl hb450 rfl) ?_)
                      refine QW.cons rfl (QP.val (v := (.bool true)) rfl (fun w' hm' => x_move) ?_)
                      refine QW.cons rfl (QP.no' rfl rfl rfl rfl ?_)
                      refine QW.cons rfl (QP.no' rfl rfl rfl rfl ?_)
                      refine QW.cons rfl (QP.no' rfl rfl rfl rfl ?_)
                      refine QW.cons rfl (QP.no' rfl rfl rfl rfl ?_)
                      refine QW.cons rfl (QP.no' rfl rfl rfl rfl ?_)
                      refine QW.cons rfl (QP.no' rfl rfl rfl rfl ?_)
                      refine QW.cons rfl (QP.no' rfl rfl rfl rfl ?_)
                      refine QW.cons rfl (QP.no' rfl rfl rfl rfl ?_)
                      refine QW.cons rfl (QP.no' rfl rfl rfl rfl ?_)
                      refine QW.cons rfl (QP.no' rfl rfl rfl rfl ?_)
                      refine QW.cons rfl (QP.no' rfl rfl rfl rfl ?_)
                      refine QW.cons rfl (QP.no' rfl rfl rfl rfl ?_)
                      refine QW.cons rfl (QP.val (v := (.bool true)) rfl (fun w' hm' => x_pickT' rfl rfl rfl) ?_)
                      refine QW.nil ?_
                      intro wd451 hmod
                      have hL := hL.call hmod
                      refine DW.done (by kernel_rfl) ?_
                      have hL := hL.sel [1, 2, 3, 4, 5, 6] (by decide) rfl
                      exact ⟨true, hm, ⟨f338, f339, f340, f341, f342, f343, f344, rfl, hL⟩⟩
                    · refine QW.cons rfl (QP.yes' rfl rfl hb450 (QP.val (v := v349) rfl (fun w' hm' => x_move) ?_))
                      obtain ⟨x452, ha453, hm⟩ := bndE hm
                      obtain ⟨hz454, ha458⟩ := idxE ha453
                      obtain ⟨b455, q456, hix457⟩ := rdL_ix (hL.rdO 0 rfl) hz454 ha458
                      refine QW.cons rfl (QP.yes' rfl rfl hb450 (QP.val (v := (.pointer (some ⟨b455, q456, none⟩))) rfl (fun w' hm' => x_ix Try.underlying35 Try_T2 rfl rfl hix457) ?_))
                      refine QW.cons rfl (QP.yes' rfl rfl hb450 (QP.val (v := (.int .i64 x452)) rfl (fun w' hm' => x_load1 Try.underlying2 rfl rfl (rdF_cells ((hL.call hm').rdO 0 rfl) hix457 ha458 0 _ rfl)) ?_))
                      refine QW.cons rfl (QP.yes' rfl rfl hb450 (QP.val (v := v14) rfl (fun w' hm' => x_mv f341) ?_))
                      refine QW.cons rfl (QP.yes' rfl rfl hb450 (QP.val (v := (.int .i64 s_l1)) rfl (fun w' hm' => x_mv f344) ?_))
                      obtain ⟨x459, ha460, hm⟩ := bndE hm
                      obtain ⟨hz461, ha465⟩ := idxE ha460
                      obtain ⟨b462, q463, hix464⟩ := rdL_ix (hL.rdO 5 rfl) hz461 ha465
                      refine QW.cons rfl (QP.yes' rfl rfl hb450 (QP.val (v := (.pointer (some ⟨b462, q463, none⟩))) rfl (fun w' hm' => x_ix Try.underlying30 Try_T61 rfl rfl hix464) ?_))
                      refine QW.cons rfl (QP.yes' rfl rfl hb450 (QP.val (v := (.pointer (some ⟨b462, q463 + 1, none⟩))) rfl (fun w' hm' => x_fieldAddr (fsz := 1) q463 1 (q463 + 1) Try.underlying61 rfl Try_T2 rfl rfl rfl) ?_))
                      refine QW.cons rfl (QP.yes' rfl rfl hb450 (QP.val (v := (.int .i64 x459.Value)) rfl (fun w' hm' => x_load1 Try.underlying2 rfl rfl (rdF_cells ((hL.call hm').rdO 5 rfl) hix464 ha465 1 _ rfl)) ?_))
                      refine QW.cons rfl (QP.yes' rfl rfl hb450 (QP.val (v := (.bool (x452 != x459.Value))) rfl (fun w' hm' => x_neq rfl rfl) ?_))
                      refine QW.cons rfl (QP.val (v := (.bool (x452 != x459.Value))) rfl (fun w' hm' => x_pickF' rfl hb450 rfl) ?_)
                      refine QW.cons rfl (QP.val (v := (.bool (x452 != x459.Value))) rfl (fun w' hm' => x_move) ?_)
                      refine ifB_elim hm (fun hb466 hm => ?_) (fun hb466 hm => ?_)
                      · refine QW.cons rfl (QP.no' rfl rfl hb466 rfl ?_)
                        refine QW.cons rfl (QP.no' rfl rfl hb466 rfl ?_)
                        refine QW.cons rfl (QP.no' rfl rfl hb466 rfl ?_)
                        refine QW.cons rfl (QP.no' rfl rfl hb466 rfl ?_)
                        refine QW.cons rfl (QP.no' rfl rfl hb466 rfl ?_)
                        refine QW.cons rfl (QP.no' rfl rfl hb466 rfl ?_)
                        refine QW.cons rfl (QP.no' rfl rfl hb466 rfl ?_)
                        refine QW.cons rfl (QP.no' rfl rfl hb466 rfl ?_)
                        refine QW.cons rfl (QP.no' rfl rfl hb466 rfl ?_)
                        refine QW.cons rfl (QP.no' rfl rfl hb466 rfl ?_)
                        refine QW.cons rfl (QP.no' rfl rfl hb466 rfl ?_)
                        refine QW.cons rfl (QP.no' rfl rfl hb466 rfl ?_)
                        refine QW.cons rfl (QP.val (v := (.bool true)) rfl (fun w' hm' => x_pickT' rfl hb466 rfl) ?_)
                        refine QW.nil ?_
                        intro wd467 hmod
                        have hL := hL.call hmod
                        refine DW.done (by kernel_rfl) ?_
                        have hL := hL.sel [1, 2, 3, 4, 5, 6] (by decide) rfl
                        exact ⟨true, hm, ⟨f338, f339, f340, f341, f342, f343, f344, rfl, hL⟩⟩
                      · refine QW.cons rfl (QP.yes' rfl rfl hb466 (QP.val (v := v349) rfl (fun w' hm' => x_move) ?_))
                        refine QW.cons rfl (QP.yes' rfl rfl hb466 (QP.val (v := v349) rfl (fun w' hm' => x_move) ?_))
                        refine QW.cons rfl (QP.yes' rfl rfl hb466 (QP.val (v := (.int .i64 (x346.1.length : Int))) rfl (fun w' hm' => x_lenR Try.underlying35 rfl ((hL.call hm').rdO 0 rfl)) ?_))
                        refine QW.cons rfl (QP.yes' rfl rfl hb466 (QP.val (v := (.int .i64 (w64 ((x346.1.length : Int) - 1)))) rfl (fun w' hm' => x_sub rfl rfl) ?_))
                        obtain ⟨x468, ha469, hm⟩ := bndE hm
                        obtain ⟨hz470, ha474⟩ := idxE ha469
                        obtain ⟨b471, q472, hix473⟩ := rdL_ix (hL.rdO 0 rfl) hz470 ha474
                        refine QW.cons rfl (QP.yes' rfl rfl hb466 (QP.val (v := (.pointer (some ⟨b471, q472, none⟩))) rfl (fun w' hm' => x_ix Try.underlying35 Try_T2 rfl rfl hix473) ?_))
                        refine QW.cons rfl (QP.yes' rfl rfl hb466 (QP.val (v := (.int .i64 x468)) rfl (fun w' hm' => x_load1 Try.underlying2 rfl rfl (rdF_cells ((hL.call hm').rdO 0 rfl) hix473 ha474 0 _ rfl)) ?_))
                        refine QW.cons rfl (QP.yes' rfl rfl hb466 (QP.val (v := v25) rfl (fun w' hm' => x_mv f342) ?_))
                        refine QW.cons rfl (QP.yes' rfl rfl hb466 (QP.val (v := (.int .i64 s_l1)) rfl (fun w' hm' => x_mv f344) ?_))
                        obtain ⟨x475, ha476, hm⟩ := bndE hm
                        obtain ⟨hz477, ha481⟩ := idxE ha476
                        obtain ⟨b478, q479, hix480⟩ := rdL_ix (hL.rdO 2 rfl) hz477 ha481
                        refine QW.cons rfl (QP.yes' rfl rfl hb466 (QP.val (v := (.pointer (some ⟨b478, q479, none⟩))) rfl (fun w' hm' => x_ix Try.underlying30 Try_T61 rfl rfl hix480) ?_))
                        refine QW.cons rfl (QP.yes' rfl rfl hb466 (QP.val (v := (.pointer (some ⟨b478, q479 + 1, none⟩))) rfl (fun w' hm' => x_fieldAddr (fsz := 1) q479 1 (q479 + 1) Try.underlying61 rfl Try_T2 rfl rfl rfl) ?_))
                        refine QW.cons rfl (QP.yes' rfl rfl hb466 (QP.val (v := (.int .i64 x475.Value)) rfl (fun w' hm' => x_load1 Try.underlying2 rfl rfl (rdF_cells ((hL.call hm').rdO 2 rfl) hix480 ha481 1 _ rfl)) ?_))
                        refine QW.cons rfl (QP.yes' rfl rfl hb466 (QP.val (v := (.bool (x468 != x475.Value))) rfl (fun w' hm' => x_neq rfl rfl) ?_))
                        refine QW.cons rfl (QP.val (v := (.bool (x468 != x475.Value))) rfl (fun w' hm' => x_pickF' rfl hb466 rfl) ?_)
                        refine QW.nil ?_
                        intro wd482 hmod
                        have hL := hL.call hmod
                        refine DW.done (by kernel_rfl) ?_
                        have hL := hL.sel [1, 2, 3, 4, 5, 6] (by decide) rfl
                        exact ⟨x468 != x475.Value, hm, ⟨f338, f339, f340, f341, f342, f343, f344, rfl, hL⟩⟩
                · intro s_j1 F388 wd389 hJ hm
                  unfold M.laws_FnProgressSeries_j1 at hm
                  obtain ⟨f390, f391, f392, f393, f394, f395, f396, f397, hL⟩ := hJ
                  refine CW.condM (t := s_j1) f397 hm (fun hb398 hm => ?_) (fun hb398 hm => ?_)
                  · refine CW.seq ?_
                    refine CW.regionL ?_
                    refine OW.cons (OP.val (v := (.bool false)) rfl (x_assign) ?_)
                    refine OW.nil ?_
                    refine CW.ret ?_
                    obtain rfl := Option.some.inj hm
                    have hm := hr324 _ rfl
                    obtain rfl := Option.some.inj hm
                    exact RR1 rfl rfl ⟨rfl, hL.fresh 5 rfl [] (by decide) (by decide) rfl⟩
                  · refine CW.skip ?_
                    refine CW.seqJ (fun (s_j2 : Bool) (F : Fr) (w : World) => F 3 = (.pointer (some ⟨b19, 0, none⟩)) ∧ F 4 = (.int .i64 x9.2.1) ∧ F 5 = v12 ∧ F 6 = v14 ∧ F 7 = v25 ∧ F 11 = v42 ∧ F 13 = (.int .i64 s_l1) ∧ F 132 = (.bool s_j2) ∧ Hp w0 [Ent.own 2 S41 v42 x39.1, Ent.own E23 S24 v25 x21.1, Ent.blk b19 46 #[(.int .i64 x9.1.Gain), (.int .i64 x9.1.Step), (.int .i64 x9.1.Low), (.int .i64 x9.1.High)], Ent.own 28 S11 v12 x9.2.2.1, Ent.own 61 S13 v14 x9.2.2.2, Ent.snap w0 w0.heap.size] w) (fun s_j2 => M.laws_FnProgressSeries_j2 s_l1 s_j2 = some t323) ?_ ?_
                    · refine CW.draw Try_mixed ?_
                      have hL := hL.call (Mod.drew _)
                      refine DW.pre (fuel := 0) (fin := (((((((((((((((((((((((Array.replicate 22 false).setIfInBounds 0 true).setIfInBounds 1 true).setIfInBounds 2 true).setIfInBounds 3 true).setIfInBounds 4 true).setIfInBounds 5 true).setIfInBounds 6 true).setIfInBounds 7 true).setIfInBounds 8 true).setIfInBounds 9 true).setIfInBounds 10 true).setIfInBounds 11 true).setIfInBounds 12 true).setIfInBounds 13 true).setIfInBounds 14 true).setIfInBounds 15 true).setIfInBounds 16 true).setIfInBounds 17 true).setIfInBounds 18 true).setIfInBounds 19 true).setIfInBounds 20 true).setIfInBounds 21 true)) (C := fun w' => Mod None_ _ w') [0, 1, 2, 3, 4, 5, 6, 7, 8, 9, 10, 11, 12, 13, 14, 15, 16, 17, 18, 19, 20, 21] (Mod.refl _ _) (by kernel_rfl) (by kernel_rfl) ?_
                      refine QW.cons rfl (QP.val (v := v42) rfl (fun w' hm' => x_mv f395) ?_)
                      refine QW.cons rfl (QP.val (v := (.int .i64 s_l1)) rfl (fun w' hm' => x_mv f396) ?_)
                      obtain ⟨x429, hx430, hm⟩ := bndE hm
                      refine QW.cons rfl (QP.call (v := (.bool x429)) rfl (fun w' hm' => x_call (vs := [v42, (.int .i64 s_l1)]) Try_C41 ⟨rfl, rfl, trivial⟩) (fun w' hm' => (M.laws_hasInt_ok w' x39.1 ((hL.call hm').rdO 0 rfl) s_l1 hx430).mono (fun e w'' h => ⟨h.1, hm'.trans h.2.mod⟩)) ?_)
                      refine QW.cons rfl (QP.val (v := v25) rfl (fun w' hm' => x_mv f394) ?_)
                      refine QW.cons rfl (QP.val (v := (.int .i64 s_l1)) rfl (fun w' hm' => x_mv f396) ?_)
                      obtain ⟨x431, ha432, hm⟩ := bndE hm
                      obtain ⟨hz433, ha437⟩ := idxE ha432
                      obtain ⟨b434, q435, hix436⟩ := rdL_ix (hL.rdO 1 rfl) hz433 ha437
                      refine QW.cons rfl (QP.val (v := (.pointer (some ⟨b434, q435, none⟩))) rfl (fun w' hm' => x_ix Try.underlying30 Try_T61 rfl rfl hix436) ?_)
                      refine QW.cons rfl (QP.val (v := (.pointer (some ⟨b434, q435 + 1, none⟩))) rfl (fun w' hm' => x_fieldAddr (fsz := 1) q435 1 (q435 + 1) Try.underlying61 rfl Try_T2 rfl rfl rfl) ?_)
                      refine QW.cons rfl (QP.val (v := (.int .i64 x431.Value)) rfl (fun w' hm' => x_load1 Try.underlying2 rfl rfl (rdF_cells ((hL.call hm').rdO 1 rfl) hix436 ha437 1 _ rfl)) ?_)
                      refine QW.cons rfl (QP.val (v := (.pointer (some ⟨b19, 2, none⟩))) rfl (fun w' hm' => x_fieldAddr (fsz := 1) 0 2 2 Try.underlying46 rfl Try_T2 rfl f390 rfl) ?_)
                      refine QW.cons rfl (QP.val (v := (.int .i64 x9.1.Low)) rfl (fun w' hm' => x_load1 Try.underlying2 rfl rfl ((hL.call hm').cellB 2 rfl rfl)) ?_)
                      refine QW.cons rfl (QP.val (v := (.bool (decide (x431.Value ≤ x9.1.Low)))) rfl (fun w' hm' => x_leq rfl rfl) ?_)
                      refine QW.cons rfl (QP.val (v := (.bool (decide (x431.Value ≤ x9.1.Low)))) rfl (fun w' hm' => x_move) ?_)
                      refine ifB_elim hm (fun hb438 hm => ?_) (fun hb438 hm => ?_)
                      · refine QW.cons rfl (QP.no' rfl rfl hb438 rfl ?_)
                        refine QW.cons rfl (QP.no' rfl rfl hb438 rfl ?_)
                        refine QW.cons rfl (QP.no' rfl rfl hb438 rfl ?_)
                        refine QW.cons rfl (QP.no' rfl rfl hb438 rfl ?_)
                        refine QW.cons rfl (QP.no' rfl rfl hb438 rfl ?_)
                        refine QW.cons rfl (QP.no' rfl rfl hb438 rfl ?_)
                        refine QW.cons rfl (QP.no' rfl rfl hb438 rfl ?_)
                        refine QW.cons rfl (QP.no' rfl rfl hb438 rfl ?_)
                        refine QW.cons rfl (QP.val (v := (.bool true)) rfl (fun w' hm' => x_pickT' rfl hb438 rfl) ?_)
                        refine QW.cons rfl (QP.val (v := (.bool (x429 != true))) rfl (fun w' hm' => x_neqB Try.underlying4 rfl rfl) ?_)
                        refine QW.nil ?_
                        intro wd439 hmod
                        have hL := hL.call hmod
                        refine DW.done (by kernel_rfl) ?_
                        exact ⟨x429 != true, hm, ⟨f390, f391, f392, f393, f394, f395, f396, rfl, hL⟩⟩
                      · refine QW.cons rfl (QP.yes' rfl rfl hb438 (QP.val (v := v25) rfl (fun w' hm' => x_mv f394) ?_))
                        refine QW.cons rfl (QP.yes' rfl rfl hb438 (QP.val (v := (.int .i64 s_l1)) rfl (fun w' hm' => x_mv f396) ?_))
                        obtain ⟨x440, ha441, hm⟩ := bndE hm
                        obtain ⟨hz442, ha446⟩ := idxE ha441
                        obtain ⟨b443, q444, hix445⟩ := rdL_ix (hL.rdO 1 rfl) hz442 ha446
                        refine QW.cons rfl (QP.yes' rfl rfl hb438 (QP.val (v := (.pointer (some ⟨b443, q444, none⟩))) rfl (fun w' hm' => x_ix Try.underlying30 Try_T61 rfl rfl hix445) ?_))
                        refine QW.cons rfl (QP.yes' rfl rfl hb438 (QP.val (v := (.pointer (some ⟨b443, q444 + 1, none⟩))) rfl (fun w' hm' => x_fieldAddr (fsz := 1) q444 1 (q444 + 1) Try.underlying61 rfl Try_T2 rfl rfl rfl) ?_))
                        refine QW.cons rfl (QP.yes' rfl rfl hb438 (QP.val (v := (.int .i64 x440.Value)) rfl (fun w' hm' => x_load1 Try.underlying2 rfl rfl (rdF_cells ((hL.call hm').rdO 1 rfl) hix445 ha446 1 _ rfl)) ?_))
                        refine QW.cons rfl (QP.yes' rfl rfl hb438 (QP.val (v := (.pointer (some ⟨b19, 3, none⟩))) rfl (fun w' hm' => x_fieldAddr (fsz := 1) 0 3 3 Try.underlying46 rfl Try_T2 rfl f390 rfl) ?_))
                        refine QW.cons rfl (QP.yes' rfl rfl hb438 (QP.val (v := (.int .i64 x9.1.High)) rfl (fun w' hm' => x_load1 Try.underlying2 rfl rfl ((hL.call hm').cellB 2 rfl rfl)) ?_))
                        refine QW.cons rfl (QP.yes' rfl rfl hb438 (QP.val (v := (.bool (decide (x9.1.High ≤ x440.Value)))) rfl (fun w' hm' => x_geq rfl rfl) ?_))
                        refine QW.cons rfl (QP.val (v := (.bool (decide (x9.1.High ≤ x440.Value)))) rfl (fun w' hm' => x_pickF' rfl hb438 rfl) ?_)
                        refine QW.cons rfl (QP.val (v := (.bool (x429 != (decide (x9.1.High ≤ x440.Value))))) rfl (fun w' hm' => x_neqB Try.underlying4 rfl rfl) ?_)
                        refine QW.nil ?_
                        intro wd447 hmod
                        have hL := hL.call hmod
                        refine DW.done (by kernel_rfl) ?_
                        exact ⟨x429 != (decide (x9.1.High ≤ x440.Value)), hm, ⟨f390, f391, f392, f393, f394, f395, f396, rfl, hL⟩⟩
                    · intro s_j2 F418 wd419 hJ hm
                      unfold M.laws_FnProgressSeries_j2 at hm
                      obtain ⟨f420, f421, f422, f423, f424, f425, f426, f427, hL⟩ := hJ
                      refine CW.condM (t := s_j2) f427 hm (fun hb428 hm => ?_) (fun hb428 hm => ?_)
                      · refine CW.seq ?_
                        refine CW.regionL ?_
                        refine OW.cons (OP.val (v := (.bool false)) rfl (x_assign) ?_)
                        refine OW.nil ?_
                        refine CW.ret ?_
                        obtain rfl := Option.some.inj hm
                        have hm := hr324 _ rfl
                        obtain rfl := Option.some.inj hm
                        exact RR1 rfl rfl ⟨rfl, hL.fresh 5 rfl [] (by decide) (by decide) rfl⟩
                      · refine CW.skip ?_
                        refine CW.regionL ?_
                        refine OW.cons (OP.val (v := (.int .i64 s_l1)) rfl (x_mv f426) ?_)
                        refine OW.cons (OP.val (v := (.int .i64 (w64 (s_l1 + 1)))) rfl (x_add rfl rfl) ?_)
                        refine OW.cons (OP.val (v := (.int .i64 (w64 (s_l1 + 1)))) rfl (x_assign) ?_)
                        refine OW.nil ?_
                        obtain rfl := Option.some.inj hm
                        exact ⟨_, rfl, ⟨f420, f421, f422, f423, f424, f425, rfl, hL⟩⟩
              · refine CW.exit ?_
                refine XJ.hit ?_
                obtain rfl := Option.some.inj hm
                exact ⟨_, rfl, ⟨f338, f339, f340, f341, f342, f343, f344, hL⟩⟩

end Go.Proofs.Ytbkpfcpbpnmjaaa
