/- Links: each Go function returns what its model computes and leaves what was there. Printed by my generator. -/
import Derived.Test.YtgelmamcinlahaaLnkFnPenaltiesA
namespace Go.Proofs.Ytgelmamcinlahaa
set_option maxRecDepth 10000
open Go Go.RowKit Go.ChangeShapes Go.WideShapes
set_option linter.unusedVariables false
set_option linter.unusedSimpArgs false

theorem M.spec_l21Draw_ok (w0 : World) {b1 : Nat} {v2 : Value} (a0 : Src) (h3 : rdL (fun k => k < w0.heap.size ∧ ¬ (Ent.blk b1 94 #[v2, .int .i64 a0.at_, .int .i64 a0.seed]).S k) w0 v2 a0.code) (he4 : (Ent.blk b1 94 #[v2, .int .i64 a0.at_, .int .i64 a0.seed]).H w0) {r : (Series × (List Penalty)) × (Int × Int)} (hm : M.spec_l21Draw a0 = some r) :
    Calls Try.prog 41 #[(.pointer (some ⟨b1, 0, none⟩))] w0 fun e w' => ∃ (rv0 : Value) (rS0 : Nat → Prop), ∃ (rv1 : Value) (rS1 : Nat → Prop), e = .returned (.tuple #[(.agg #[(.int .i64 r.1.1.Boats), (.int .i64 r.1.1.Scheme), rv0]), rv1]) ∧ Mut w0 w' (Ent.blk b1 94 #[v2, .int .i64 a0.at_, .int .i64 a0.seed]).S [Ent.blk b1 94 #[v2, .int .i64 r.2.1, .int .i64 r.2.2], Ent.own 46 rS0 rv0 r.1.1.Races, Ent.own 48 rS1 rv1 r.1.2] := by
  unfold M.spec_l21Draw at hm
  refine calls_CW (args := [(.pointer (some ⟨b1, 0, none⟩))]) Try.func41 rfl rfl rfl ?_
  have hL := Hp.startIO he4
  refine CW.seq ?_
  refine CW.regionL ?_
  refine OW.cons (S_alloc (cs := #[(.int .i64 0), (.int .i64 0), (.slice none 0 0)]) hL Try_T31 rfl rfl ?_)
  intro wd5 b6 hL
  refine OW.cons (OP.val (v := (.slice none 0 0)) rfl (x_assign) ?_)
  refine OW.nil ?_
  refine CW.seq ?_
  refine CW.regionL ?_
  refine OW.cons (OP.val (v := (.pointer (some ⟨b1, 0, none⟩))) rfl (x_move) ?_)
  obtain ⟨x7, hx8, hm⟩ := bndE hm
  refine OW.cons (OP.call rfl (x_call (vs := [(.pointer (some ⟨b1, 0, none⟩))]) Try_C67 ⟨rfl, trivial⟩) (M.spec_l26DrawSeries_ok _ (Src.mk a0.code a0.at_ a0.seed) (hL.exZ 2 1 (by decide) rfl rfl h3) (hL.get 1 rfl) hx8) ?_)
  rintro e11 wd12 ⟨v10, S9, rfl, hF13⟩
  refine ⟨_, rfl, ?_⟩
  have hL := hL.mut 1 rfl hF13
  simp only [List.cons_append, List.nil_append, List.set_cons_zero, List.set_cons_succ] at hL
  refine OW.cons (S_alloc (cs := #[(.int .i64 0), (.int .i64 0), (.slice none 0 0)]) hL Try_T31 rfl rfl ?_)
  intro wd14 b15 hL
  refine OW.cons (S_storeN (l := [(.int .i64 x7.1.Boats), (.int .i64 x7.1.Scheme), v10]) (cs' := #[(.int .i64 x7.1.Boats), (.int .i64 x7.1.Scheme), v10]) hL 0 rfl Try_T31 rfl rfl (List.forall_mem_cons.2 ⟨rfl, (List.forall_mem_cons.2 ⟨rfl, (List.forall_mem_cons.2 ⟨rdL_one (hL.rdO 1 rfl), (fun _ h => by cases h)⟩)⟩)⟩) rfl (Nat.le_of_ble_eq_true rfl) rfl ?_)
  intro wd16 hL
  refine OW.nil ?_
  refine CW.seq ?_
  refine CW.regionL ?_
  refine OW.cons (S_lit ([] : List Penalty) hL Try.underlying33 Try_T48 rfl (by decide) (by first | (simp [Instr.fill, madeCells, Value.cells, ev, upd, Flat.enc, Flat.sz]; done) | rfl | kernel_rfl) rfl rfl ?_)
  intro wd17 v18 S19 hL
  refine OW.cons (OP.val (v := v18) rfl (x_assign) ?_)
  refine OW.nil ?_
  refine CW.seq ?_
  refine CW.seq ?_
  refine CW.regionL ?_
  refine OW.cons (OP.val (v := (.pointer (some ⟨b1, 0, none⟩))) rfl (x_move) ?_)
  obtain ⟨x20, hx21, hm⟩ := bndE hm
  refine OW.cons (OP.call rfl (x_call (vs := [(.pointer (some ⟨b1, 0, none⟩)), (.int .i64 6)]) Try_C68 ⟨rfl, rfl, trivial⟩) (M.spec_l01Next_ok _ (Src.mk a0.code x7.2.1 x7.2.2) (hL.exZ 5 4 (by decide) rfl rfl h3) (hL.get 4 rfl) 6 hx21) ?_)
  rintro e22 wd23 ⟨rfl, hF24⟩
  refine ⟨_, rfl, ?_⟩
  have hL := hL.mut 4 rfl hF24
  simp only [List.cons_append, List.nil_append, List.set_cons_zero, List.set_cons_succ] at hL
  refine OW.cons (OP.val (v := (.int .i64 x20.1)) rfl (x_assign) ?_)
  refine OW.nil ?_
  obtain ⟨o77, ho78, hm⟩ := bndE hm
  refine CW.loopB (fun (s_l1 : Int × Int × (List Penalty) × Int) (F : Fr) (w : World) => ∃ (v73 : Value) (S74 : Nat → Prop), F 0 = (.pointer (some ⟨b1, 0, none⟩)) ∧ F 2 = (.pointer (some ⟨b6, 0, none⟩)) ∧ F 4 = (.pointer (some ⟨b15, 0, none⟩)) ∧ F 5 = v73 ∧ F 6 = (.int .i64 s_l1.2.2.2) ∧ Hp w0 [Ent.own 48 S74 v73 s_l1.2.2.1, Ent.blk b15 31 #[(.int .i64 x7.1.Boats), (.int .i64 x7.1.Scheme), v10], Ent.own 46 S9 v10 x7.1.Races, Ent.blk b6 31 #[(.int .i64 0), (.int .i64 0), (.slice none 0 0)], Ent.blk b1 94 #[v2, (.int .i64 s_l1.1), (.int .i64 s_l1.2.1)], Ent.frz w0 (Ent.blk b1 94 #[v2, .int .i64 a0.at_, .int .i64 a0.seed]).S] w) (fun o => outc o (fun x => some x) (fun s => M.spec_l21Draw_a1 a0 x7 s) = some r) ho78 hm ⟨v18, S19, rfl, rfl, rfl, rfl, rfl, hL⟩ ?_ ?_
  · intro s_l1 F79 wd80 hJ hm
    have hm := outcE hm
    have hm : M.spec_l21Draw_a1 a0 x7 s_l1 = some r := hm
    unfold M.spec_l21Draw_a1 at hm
    obtain ⟨v73, S74, f81, f82, f83, f84, f85, hL⟩ := hJ
    refine CW.seq ?_
    refine CW.seq ?_
    refine CW.regionL ?_
    refine OW.cons (OP.val (v := v73) rfl (x_mv f84) ?_)
    refine OW.cons (OP.val (v := (.int .i64 (s_l1.2.2.1.length : Int))) rfl (x_lenR Try.underlying33 rfl (hL.rdO 0 rfl)) ?_)
    refine OW.cons (OP.val (v := (.bool ((s_l1.2.2.1.length : Int) == 0))) rfl (x_eql rfl rfl) ?_)
    refine OW.nil ?_
    refine CW.condM (t := (s_l1.2.2.1.length : Int) == 0) rfl hm (fun hb86 hm => ?_) (fun hb86 hm => ?_)
    · refine CW.seq ?_
      refine CW.regionL ?_
      refine OW.cons (OP.val (v := (.agg #[(.int .i64 x7.1.Boats), (.int .i64 x7.1.Scheme), v10])) rfl (x_loadN (cs := [(.int .i64 x7.1.Boats), (.int .i64 x7.1.Scheme), v10]) Try.underlying31 Try_T31 rfl f83 (hL.cellsB 1 rfl (o := 0) (l := [(.int .i64 x7.1.Boats), (.int .i64 x7.1.Scheme), v10]) (by intro j u hj; exact (by simpa using hj)))) ?_)
      refine OW.cons (OP.val (v := v73) rfl (x_mv f84) ?_)
      refine OW.cons (S_storeN (l := [(.int .i64 x7.1.Boats), (.int .i64 x7.1.Scheme), v10]) (cs' := #[(.int .i64 x7.1.Boats), (.int .i64 x7.1.Scheme), v10]) hL 3 rfl Try_T31 f82 rfl (List.forall_mem_cons.2 ⟨rfl, (List.forall_mem_cons.2 ⟨rfl, (List.forall_mem_cons.2 ⟨rdL_one (hL.rdO 2 rfl), (fun _ h => by cases h)⟩)⟩)⟩) rfl (Nat.le_of_ble_eq_true rfl) rfl ?_)
      intro wd87 hL
      refine OW.cons (OP.val (v := v73) rfl (x_assign) ?_)
      refine OW.nil ?_
      refine CW.ret ?_
      obtain rfl := Option.some.inj hm
      exact RRct rfl f82 (run_loadBlk Try.underlying31 Try_T31 (hL.get 3 rfl) rfl) rfl ⟨v10, S9, v73, S74, rfl, hL.mutOut 5 rfl [4, 2, 0] (by decide) (by decide) rfl⟩
    · refine CW.skip ?_
      refine CW.seq ?_
      refine CW.regionL ?_
      refine OW.cons (OP.val (v := (.pointer (some ⟨b1, 0, none⟩))) rfl (x_mv f81) ?_)
      refine OW.cons (OP.val (v := v73) rfl (x_mv f84) ?_)
      refine OW.cons (OP.val (v := (.int .i64 (s_l1.2.2.1.length : Int))) rfl (x_lenR Try.underlying33 rfl (hL.rdO 0 rfl)) ?_)
      obtain ⟨x88, hx89, hm⟩ := bndE hm
      refine OW.cons (OP.call rfl (x_call (vs := [(.pointer (some ⟨b1, 0, none⟩)), (.int .i64 (s_l1.2.2.1.length : Int))]) Try_C68 ⟨rfl, rfl, trivial⟩) (M.spec_l01Next_ok _ (Src.mk a0.code s_l1.1 s_l1.2.1) (hL.exZ 5 4 (by decide) rfl rfl h3) (hL.get 4 rfl) (s_l1.2.2.1.length : Int) hx89) ?_)
      rintro e90 wd91 ⟨rfl, hF92⟩
      refine ⟨_, rfl, ?_⟩
      have hL := hL.mut 4 rfl hF92
      simp only [List.cons_append, List.nil_append, List.set_cons_zero, List.set_cons_succ] at hL
      refine OW.cons (OP.val (v := (.int .i64 x88.1)) rfl (x_assign) ?_)
      refine OW.nil ?_
      refine CW.seqJ (fun (s_j1 : Int × Int × (List Penalty)) (F : Fr) (w : World) => ∃ (S234 : Nat → Prop), F 2 = (.pointer (some ⟨b6, 0, none⟩)) ∧ F 4 = (.pointer (some ⟨b15, 0, none⟩)) ∧ F 5 = v73 ∧ Hp w0 [Ent.own 48 S234 v73 s_j1.2.2, Ent.blk b15 31 #[(.int .i64 x7.1.Boats), (.int .i64 x7.1.Scheme), v10], Ent.own 46 S9 v10 x7.1.Races, Ent.blk b6 31 #[(.int .i64 0), (.int .i64 0), (.slice none 0 0)], Ent.blk b1 94 #[v2, (.int .i64 s_j1.1), (.int .i64 s_j1.2.1)], Ent.frz w0 (Ent.blk b1 94 #[v2, .int .i64 a0.at_, .int .i64 a0.seed]).S] w) (fun s_j1 => M.spec_l21Draw_j1 x7 s_j1 = some r) ?_ ?_
      · refine CW.seq ?_
        refine CW.regionL ?_
        refine OW.cons (OP.val (v := (.pointer (some ⟨b1, 0, none⟩))) rfl (x_mv f81) ?_)
        obtain ⟨x241, hx242, hm⟩ := bndE hm
        refine OW.cons (OP.call rfl (x_call (vs := [(.pointer (some ⟨b1, 0, none⟩)), (.int .i64 24)]) Try_C68 ⟨rfl, rfl, trivial⟩) (M.spec_l01Next_ok _ (Src.mk a0.code x88.2.1 x88.2.2) (hL.exZ 5 4 (by decide) rfl rfl h3) (hL.get 4 rfl) 24 hx242) ?_)
        rintro e243 wd244 ⟨rfl, hF245⟩
        refine ⟨_, rfl, ?_⟩
        have hL := hL.mut 4 rfl hF245
        simp only [List.cons_append, List.nil_append, List.set_cons_zero, List.set_cons_succ] at hL
        refine OW.nil ?_
        refine CW.blockJ (fun (s_j2 : Int × Int × (List Penalty)) (F : Fr) (w : World) => ∃ (S311 : Nat → Prop), F 2 = (.pointer (some ⟨b6, 0, none⟩)) ∧ F 4 = (.pointer (some ⟨b15, 0, none⟩)) ∧ F 5 = v73 ∧ Hp w0 [Ent.own 48 S311 v73 s_j2.2.2, Ent.blk b15 31 #[(.int .i64 x7.1.Boats), (.int .i64 x7.1.Scheme), v10], Ent.own 46 S9 v10 x7.1.Races, Ent.blk b6 31 #[(.int .i64 0), (.int .i64 0), (.slice none 0 0)], Ent.blk b1 94 #[v2, (.int .i64 s_j2.1), (.int .i64 s_j2.2.1)], Ent.frz w0 (Ent.blk b1 94 #[v2, .int .i64 a0.at_, .int .i64 a0.seed]).S] w) (fun s_j2 => M.spec_l21Draw_j2 x7 s_j2 = some r) ?_ ?_
        · refine CW.seq ?_
          refine CW.regionL ?_
          refine OW.cons (OP.val (v := (.bool (x241.1 == 0))) rfl (x_eql rfl rfl) ?_)
          refine OW.cons (OP.val (v := (.bool (x241.1 == 0))) rfl (x_assign) ?_)
          refine OW.nil ?_
          refine CW.condM (t := x241.1 == 0) rfl hm (fun hb317 hm => ?_) (fun hb317 hm => ?_)
          · refine CW.regionL ?_
            refine OW.cons (OP.val (v := v73) rfl (x_mv f84) ?_)
            refine OW.cons (OP.val (v := (.int .i64 x88.1)) rfl (x_move) ?_)
            refine OW.cons (OP.val (v := (.pointer (some ⟨b15, 2, none⟩))) rfl (x_fieldAddr (fsz := 1) 0 2 2 Try.underlying31 rfl Try_T29 rfl f83 rfl) ?_)
            refine OW.cons (OP.val (v := v10) rfl (x_load1 Try.underlying29 rfl rfl (hL.cellB 1 rfl rfl)) ?_)
            refine OW.cons (OP.val (v := (.int .i64 (x7.1.Races.length : Int))) rfl (x_lenR Try.underlying29 rfl (hL.rdO 2 rfl)) ?_)
            obtain ⟨x318, ha319, hm⟩ := bndE hm
            obtain ⟨hz320, ha324⟩ := idxE ha319
            obtain ⟨b321, q322, hix323⟩ := rdL_ix (hL.rdO 0 rfl) hz320 ha324
            refine OW.cons (OP.val (v := (.pointer (some ⟨b321, q322, none⟩))) rfl (x_ix Try.underlying33 Try_T48 rfl rfl hix323) ?_)
            refine OW.cons (OP.val (v := (.pointer (some ⟨b321, q322, none⟩))) rfl (x_fieldAddr (fsz := 1) q322 0 q322 Try.underlying48 rfl Try_T2 rfl rfl rfl) ?_)
            refine OW.cons (S_storeX (j := 0) (Penalty.mk (x7.1.Races.length : Int) x318.Boat x318.Kind x318.Value) hL 0 rfl Try_T2 hix323 ha324 rfl rfl rfl rfl rfl rfl ?_)
            intro wd325 hL
            refine OW.nil ?_
            exact ⟨(x241.2.1, x241.2.2, s_l1.2.2.1.set (x88.1 : Int).toNat (Penalty.mk (x7.1.Races.length : Int) x318.Boat x318.Kind x318.Value)), hm, ⟨S74, f82, f83, f84, hL⟩⟩
          · refine CW.seq ?_
            refine CW.regionL ?_
            refine OW.cons (OP.val (v := (.bool (x241.1 == 1))) rfl (x_eql rfl rfl) ?_)
            refine OW.cons (OP.val (v := (.bool (x241.1 == 1))) rfl (x_assign) ?_)
            refine OW.nil ?_
            refine CW.condM (t := x241.1 == 1) rfl hm (fun hb326 hm => ?_) (fun hb326 hm => ?_)
            · refine CW.regionL ?_
              refine OW.cons (OP.val (v := v73) rfl (x_mv f84) ?_)
              refine OW.cons (OP.val (v := (.int .i64 x88.1)) rfl (x_move) ?_)
              refine OW.cons (OP.val (v := (.pointer (some ⟨b15, 0, none⟩))) rfl (x_fieldAddr (fsz := 1) 0 0 0 Try.underlying31 rfl Try_T2 rfl f83 rfl) ?_)
              refine OW.cons (OP.val (v := (.int .i64 x7.1.Boats)) rfl (x_load1 Try.underlying2 rfl rfl (hL.cellB 1 rfl rfl)) ?_)
              obtain ⟨x327, ha328, hm⟩ := bndE hm
              obtain ⟨hz329, ha333⟩ := idxE ha328
              obtain ⟨b330, q331, hix332⟩ := rdL_ix (hL.rdO 0 rfl) hz329 ha333
              refine OW.cons (OP.val (v := (.pointer (some ⟨b330, q331, none⟩))) rfl (x_ix Try.underlying33 Try_T48 rfl rfl hix332) ?_)
              refine OW.cons (OP.val (v := (.pointer (some ⟨b330, q331 + 1, none⟩))) rfl (x_fieldAddr (fsz := 1) q331 1 (q331 + 1) Try.underlying48 rfl Try_T2 rfl rfl rfl) ?_)
              refine OW.cons (S_storeX (j := 1) (Penalty.mk x327.Race x7.1.Boats x327.Kind x327.Value) hL 0 rfl Try_T2 hix332 ha333 rfl rfl rfl rfl rfl rfl ?_)
              intro wd334 hL
              refine OW.nil ?_
              exact ⟨(x241.2.1, x241.2.2, s_l1.2.2.1.set (x88.1 : Int).toNat (Penalty.mk x327.Race x7.1.Boats x327.Kind x327.Value)), hm, ⟨S74, f82, f83, f84, hL⟩⟩
            · refine CW.seq ?_
              refine CW.regionL ?_
              refine OW.cons (OP.val (v := (.bool (x241.1 == 2))) rfl (x_eql rfl rfl) ?_)
              refine OW.cons (OP.val (v := (.bool (x241.1 == 2))) rfl (x_assign) ?_)
              refine OW.nil ?_
              refine CW.condM (t := x241.1 == 2) rfl hm (fun hb335 hm => ?_) (fun hb335 hm => ?_)
              · refine CW.regionL ?_
                refine OW.cons (OP.val (v := v73) rfl (x_mv f84) ?_)
                refine OW.cons (OP.val (v := (.int .i64 x88.1)) rfl (x_move) ?_)
                refine OW.cons (OP.val (v := (.pointer (some ⟨b1, 0, none⟩))) rfl (x_mv f81) ?_)
                obtain ⟨x336, hx337, hm⟩ := bndE hm
                refine OW.cons (OP.call rfl (x_call (vs := [(.pointer (some ⟨b1, 0, none⟩)), (.int .i64 2)]) Try_C68 ⟨rfl, rfl, trivial⟩) (M.spec_l01Next_ok _ (Src.mk a0.code x241.2.1 x241.2.2) (hL.exZ 5 4 (by decide) rfl rfl h3) (hL.get 4 rfl) 2 hx337) ?_)
                rintro e338 wd339 ⟨rfl, hF340⟩
                refine ⟨_, rfl, ?_⟩
                have hL := hL.mut 4 rfl hF340
                simp only [List.cons_append, List.nil_append, List.set_cons_zero, List.set_cons_succ] at hL
                refine OW.cons (OP.val (v := (.int .i64 (w64 (4 * x336.1)))) rfl (x_mul rfl rfl) ?_)
                obtain ⟨x341, ha342, hm⟩ := bndE hm
                obtain ⟨hz343, ha347⟩ := idxE ha342
                obtain ⟨b344, q345, hix346⟩ := rdL_ix (hL.rdO 0 rfl) hz343 ha347
                refine OW.cons (OP.val (v := (.pointer (some ⟨b344, q345, none⟩))) rfl (x_ix Try.underlying33 Try_T48 rfl rfl hix346) ?_)
                refine OW.cons (OP.val (v := (.pointer (some ⟨b344, q345 + 2, none⟩))) rfl (x_fieldAddr (fsz := 1) q345 2 (q345 + 2) Try.underlying48 rfl Try_T2 rfl rfl rfl) ?_)
                refine OW.cons (S_storeX (j := 2) (Penalty.mk x341.Race x341.Boat (w64 (4 * x336.1)) x341.Value) hL 0 rfl Try_T2 hix346 ha347 rfl rfl rfl rfl rfl rfl ?_)
                intro wd348 hL
                refine OW.nil ?_
                exact ⟨(x336.2.1, x336.2.2, s_l1.2.2.1.set (x88.1 : Int).toNat (Penalty.mk x341.Race x341.Boat (w64 (4 * x336.1)) x341.Value)), hm, ⟨S74, f82, f83, f84, hL⟩⟩
              · refine CW.seq ?_
                refine CW.regionL ?_
                refine OW.cons (OP.val (v := (.bool (x241.1 == 3))) rfl (x_eql rfl rfl) ?_)
                refine OW.cons (OP.val (v := (.bool (x241.1 == 3))) rfl (x_assign) ?_)
                refine OW.nil ?_
                refine CW.condM (t := x241.1 == 3) rfl hm (fun hb349 hm => ?_) (fun hb349 hm => ?_)
                · refine CW.regionL ?_
                  refine OW.cons (OP.val (v := v73) rfl (x_mv f84) ?_)
                  refine OW.cons (OP.val (v := (.int .i64 x88.1)) rfl (x_move) ?_)
                  obtain ⟨x350, ha351, hm⟩ := bndE hm
                  obtain ⟨hz352, ha356⟩ := idxE ha351
                  obtain ⟨b353, q354, hix355⟩ := rdL_ix (hL.rdO 0 rfl) hz352 ha356
                  refine OW.cons (OP.val (v := (.pointer (some ⟨b353, q354, none⟩))) rfl (x_ix Try.underlying33 Try_T48 rfl rfl hix355) ?_)
                  refine OW.cons (OP.val (v := (.pointer (some ⟨b353, q354 + 3, none⟩))) rfl (x_fieldAddr (fsz := 1) q354 3 (q354 + 3) Try.underlying48 rfl Try_T2 rfl rfl rfl) ?_)
                  refine OW.cons (S_storeX (j := 3) (Penalty.mk x350.Race x350.Boat x350.Kind 0) hL 0 rfl Try_T2 hix355 ha356 rfl rfl rfl rfl rfl rfl ?_)
                  intro wd357 hL
                  refine OW.nil ?_
                  exact ⟨(x241.2.1, x241.2.2, s_l1.2.2.1.set (x88.1 : Int).toNat (Penalty.mk x350.Race x350.Boat x350.Kind 0)), hm, ⟨S74, f82, f83, f84, hL⟩⟩
                · refine CW.seq ?_
                  refine CW.regionL ?_
                  refine OW.cons (OP.val (v := (.bool (x241.1 == 4))) rfl (x_eql rfl rfl) ?_)
                  refine OW.cons (OP.val (v := (.bool (x241.1 == 4))) rfl (x_assign) ?_)
                  refine OW.nil ?_
                  refine CW.condM (t := x241.1 == 4) rfl hm (fun hb358 hm => ?_) (fun hb358 hm => ?_)
                  · refine CW.draw Try_mixed ?_
                    have hL := hL.call (Mod.drew _)
                    refine DW.pre (fuel := 1) (fin := (((((((((((((((Array.replicate 15 false).setIfInBounds 0 true).setIfInBounds 1 true).setIfInBounds 2 true).setIfInBounds 3 true).setIfInBounds 4 true).setIfInBounds 5 true).setIfInBounds 6 true).setIfInBounds 7 true).setIfInBounds 8 true).setIfInBounds 9 true).setIfInBounds 10 true).setIfInBounds 11 true).setIfInBounds 12 true).setIfInBounds 13 true)) (C := fun w' => Mod None_ _ w') [0, 1, 2, 3, 4, 5, 6, 7, 8, 9, 10, 11, 12, 13] (Mod.refl _ _) (by kernel_rfl) (by kernel_rfl) ?_
                    refine QW.cons rfl (QP.val (v := v73) rfl (fun w' hm' => x_mv f84) ?_)
                    refine QW.cons rfl (QP.val (v := (.int .i64 x88.1)) rfl (fun w' hm' => x_move) ?_)
                    refine QW.cons rfl (QP.val (v := v73) rfl (fun w' hm' => x_mv f84) ?_)
                    refine QW.cons rfl (QP.val (v := (.int .i64 x88.1)) rfl (fun w' hm' => x_move) ?_)
                    obtain ⟨x359, ha360, hm⟩ := bndE hm
                    obtain ⟨hz361, ha365⟩ := idxE ha360
                    obtain ⟨b362, q363, hix364⟩ := rdL_ix (hL.rdO 0 rfl) hz361 ha365
                    refine QW.cons rfl (QP.val (v := (.pointer (some ⟨b362, q363, none⟩))) rfl (fun w' hm' => x_ix Try.underlying33 Try_T48 rfl rfl hix364) ?_)
                    refine QW.cons rfl (QP.val (v := (.pointer (some ⟨b362, q363, none⟩))) rfl (fun w' hm' => x_fieldAddr (fsz := 1) q363 0 q363 Try.underlying48 rfl Try_T2 rfl rfl rfl) ?_)
                    refine QW.cons rfl (QP.val (v := (.int .i64 x359.Race)) rfl (fun w' hm' => x_load1 Try.underlying2 rfl rfl (rdF_cells ((hL.call hm').rdO 0 rfl) hix364 ha365 0 _ rfl)) ?_)
                    refine QW.cons rfl (QP.val (v := v73) rfl (fun w' hm' => x_mv f84) ?_)
                    refine QW.cons rfl (QP.val (v := (.int .i64 x88.1)) rfl (fun w' hm' => x_move) ?_)
                    obtain ⟨x366, ha367, hm⟩ := bndE hm
                    obtain ⟨hz368, ha372⟩ := idxE ha367
                    obtain ⟨b369, q370, hix371⟩ := rdL_ix (hL.rdO 0 rfl) hz368 ha372
                    refine QW.cons rfl (QP.val (v := (.pointer (some ⟨b369, q370, none⟩))) rfl (fun w' hm' => x_ix Try.underlying33 Try_T48 rfl rfl hix371) ?_)
                    refine QW.cons rfl (QP.val (v := (.pointer (some ⟨b369, q370 + 1, none⟩))) rfl (fun w' hm' => x_fieldAddr (fsz := 1) q370 1 (q370 + 1) Try.underlying48 rfl Try_T2 rfl rfl rfl) ?_)
                    refine QW.cons rfl (QP.val (v := (.int .i64 x366.Boat)) rfl (fun w' hm' => x_load1 Try.underlying2 rfl rfl (rdF_cells ((hL.call hm').rdO 0 rfl) hix371 ha372 1 _ rfl)) ?_)
                    refine QW.cons rfl (QP.val (v := (.agg #[(.int .i64 x359.Race), (.int .i64 x366.Boat), (.int .i64 2), (.int .i64 1000000000)])) rfl (fun w' hm' => x_build Try_B48 (ps := [(0, (.int .i64 x359.Race)), (1, (.int .i64 x366.Boat)), (2, (.int .i64 2)), (3, (.int .i64 1000000000))]) ⟨⟨rfl, rfl⟩, ⟨rfl, rfl⟩, ⟨rfl, rfl⟩, ⟨rfl, rfl⟩, trivial⟩ (by simp [Instr.fill, cells_int, cells_bool, cells_string, cells_agg, cells_slice, cells_pointer])) ?_)
                    obtain ⟨x373, ha374, hm⟩ := bndE hm
                    obtain ⟨hz375, ha379⟩ := idxE ha374
                    obtain ⟨b376, q377, hix378⟩ := rdL_ix (hL.rdO 0 rfl) hz375 ha379
                    refine QW.cons rfl (QP.val (v := (.pointer (some ⟨b376, q377, none⟩))) rfl (fun w' hm' => x_ix Try.underlying33 Try_T48 rfl rfl hix378) ?_)
                    refine QW.nil ?_
                    intro wd380 hmod
                    have hL := hL.call hmod
                    refine DW.only 14 rfl (by kernel_rfl) (S_storeXN (l := [(.int .i64 x359.Race), (.int .i64 x366.Boat), (.int .i64 2), (.int .i64 1000000000)]) (Penalty.mk x359.Race x366.Boat 2 1000000000) hL 0 rfl Try_T48 hix378 ha379 rfl rfl rfl ?_)
                    intro wd381 hL
                    refine DW.done (by kernel_rfl) ?_
                    exact ⟨(x241.2.1, x241.2.2, s_l1.2.2.1.set (x88.1 : Int).toNat (Penalty.mk x359.Race x366.Boat 2 1000000000)), hm, ⟨S74, f82, f83, f84, hL⟩⟩
                  · refine CW.skip ?_
                    exact ⟨(x241.2.1, x241.2.2, s_l1.2.2.1), hm, ⟨S74, f82, f83, f84, hL⟩⟩
        · intro s_j2 F312 wd313 hJ hm
          unfold M.spec_l21Draw_j2 at hm
          obtain ⟨S311, f314, f315, f316, hL⟩ := hJ
          exact ⟨(s_j2.1, s_j2.2.1, s_j2.2.2), hm, ⟨S311, f314, f315, f316, hL⟩⟩
      · intro s_j1 F235 wd236 hJ hm
        unfold M.spec_l21Draw_j1 at hm
        obtain ⟨S234, f237, f238, f239, hL⟩ := hJ
        refine CW.seq ?_
        refine CW.regionL ?_
        refine OW.cons (OP.val (v := (.agg #[(.int .i64 x7.1.Boats), (.int .i64 x7.1.Scheme), v10])) rfl (x_loadN (cs := [(.int .i64 x7.1.Boats), (.int .i64 x7.1.Scheme), v10]) Try.underlying31 Try_T31 rfl f238 (hL.cellsB 1 rfl (o := 0) (l := [(.int .i64 x7.1.Boats), (.int .i64 x7.1.Scheme), v10]) (by intro j u hj; exact (by simpa using hj)))) ?_)
        refine OW.cons (OP.val (v := v73) rfl (x_mv f239) ?_)
        refine OW.cons (S_storeN (l := [(.int .i64 x7.1.Boats), (.int .i64 x7.1.Scheme), v10]) (cs' := #[(.int .i64 x7.1.Boats), (.int .i64 x7.1.Scheme), v10]) hL 3 rfl Try_T31 f237 rfl (List.forall_mem_cons.2 ⟨rfl, (List.forall_mem_cons.2 ⟨rfl, (List.forall_mem_cons.2 ⟨rdL_one (hL.rdO 2 rfl), (fun _ h => by cases h)⟩)⟩)⟩) rfl (Nat.le_of_ble_eq_true rfl) rfl ?_)
        intro wd240 hL
        refine OW.cons (OP.val (v := v73) rfl (x_assign) ?_)
        refine OW.nil ?_
        refine CW.ret ?_
        obtain rfl := Option.some.inj hm
        exact RRct rfl f237 (run_loadBlk Try.underlying31 Try_T31 (hL.get 3 rfl) rfl) rfl ⟨v10, S9, v73, S234, rfl, hL.mutOut 5 rfl [4, 2, 0] (by decide) (by decide) rfl⟩
  · intro s_l1 F382 wd383 t75 hJ hm hr76
    unfold M.spec_l21Draw_l1 at hm
    obtain ⟨v73, S74, f384, f385, f386, f387, f388, hL⟩ := hJ
    refine CW.seq ?_
    refine CW.seqJ (fun (s_j3 : Bool) (F : Fr) (w : World) => F 0 = (.pointer (some ⟨b1, 0, none⟩)) ∧ F 2 = (.pointer (some ⟨b6, 0, none⟩)) ∧ F 4 = (.pointer (some ⟨b15, 0, none⟩)) ∧ F 5 = v73 ∧ F 6 = (.int .i64 s_l1.2.2.2) ∧ F 20 = (.bool s_j3) ∧ Hp w0 [Ent.own 48 S74 v73 s_l1.2.2.1, Ent.blk b15 31 #[(.int .i64 x7.1.Boats), (.int .i64 x7.1.Scheme), v10], Ent.own 46 S9 v10 x7.1.Races, Ent.blk b6 31 #[(.int .i64 0), (.int .i64 0), (.slice none 0 0)], Ent.blk b1 94 #[v2, (.int .i64 s_l1.1), (.int .i64 s_l1.2.1)], Ent.frz w0 (Ent.blk b1 94 #[v2, .int .i64 a0.at_, .int .i64 a0.seed]).S] w) (fun s_j3 => M.spec_l21Draw_j3 a0 x7 s_l1 s_j3 = some t75) ?_ ?_
    · refine CW.regionL ?_
      refine OW.cons (OP.val (v := (.int .i64 s_l1.2.2.2)) rfl (x_mv f388) ?_)
      refine OW.cons (OP.val (v := (.bool (decide (0 < s_l1.2.2.2)))) rfl (x_gtr rfl rfl) ?_)
      refine OW.cons (OP.val (v := (.bool (decide (0 < s_l1.2.2.2)))) rfl (x_move) ?_)
      refine ifB_elim hm (fun hb411 hm => ?_) (fun hb411 hm => ?_)
      · refine OW.cons (OP.yes' rfl rfl hb411 (OP.val (v := (.pointer (some ⟨b15, 2, none⟩))) rfl (x_fieldAddr (fsz := 1) 0 2 2 Try.underlying31 rfl Try_T29 rfl f386 rfl) ?_))
        refine OW.cons (OP.yes' rfl rfl hb411 (OP.val (v := v10) rfl (x_load1 Try.underlying29 rfl rfl (hL.cellB 1 rfl rfl)) ?_))
        refine OW.cons (OP.yes' rfl rfl hb411 (OP.val (v := (.int .i64 (x7.1.Races.length : Int))) rfl (x_lenR Try.underlying29 rfl (hL.rdO 2 rfl)) ?_))
        refine OW.cons (OP.yes' rfl rfl hb411 (OP.val (v := (.bool (decide (0 < (x7.1.Races.length : Int))))) rfl (x_gtr rfl rfl) ?_))
        refine OW.cons (OP.val (v := (.bool (decide (0 < (x7.1.Races.length : Int))))) rfl (x_pickT' rfl hb411 rfl) ?_)
        refine OW.nil ?_
        exact ⟨decide (0 < (x7.1.Races.length : Int)), hm, ⟨f384, f385, f386, f387, f388, rfl, hL⟩⟩
      · refine OW.cons (OP.no' rfl rfl hb411 rfl ?_)
        refine OW.cons (OP.no' rfl rfl hb411 rfl ?_)
        refine OW.cons (OP.no' rfl rfl hb411 rfl ?_)
        refine OW.cons (OP.no' rfl rfl hb411 rfl ?_)
        refine OW.cons (OP.val (v := (.bool false)) rfl (x_pickF' rfl hb411 rfl) ?_)
        refine OW.nil ?_
        exact ⟨false, hm, ⟨f384, f385, f386, f387, f388, rfl, hL⟩⟩
    · intro s_j3 F390 wd391 hJ hm
      unfold M.spec_l21Draw_j3 at hm
      obtain ⟨f392, f393, f394, f395, f396, f397, hL⟩ := hJ
      refine CW.condM (t := s_j3) f397 hm (fun hb398 hm => ?_) (fun hb398 hm => ?_)
      · refine CW.skip ?_
        refine CW.seq ?_
        refine CW.block ?_
        refine CW.regionL ?_
        refine OW.cons (OP.val (v := v73) rfl (x_mv f395) ?_)
        refine OW.cons (OP.val (v := (.pointer (some ⟨b1, 0, none⟩))) rfl (x_mv f392) ?_)
        refine OW.cons (OP.val (v := (.agg #[(.int .i64 x7.1.Boats), (.int .i64 x7.1.Scheme), v10])) rfl (x_loadN (cs := [(.int .i64 x7.1.Boats), (.int .i64 x7.1.Scheme), v10]) Try.underlying31 Try_T31 rfl f394 (hL.cellsB 1 rfl (o := 0) (l := [(.int .i64 x7.1.Boats), (.int .i64 x7.1.Scheme), v10]) (by intro j u hj; exact (by simpa using hj)))) ?_)
        obtain ⟨x399, hx400, hm⟩ := bndE hm
        refine OW.cons (OP.call rfl (x_call (vs := [(.pointer (some ⟨b1, 0, none⟩)), (.agg #[(.int .i64 x7.1.Boats), (.int .i64 x7.1.Scheme), v10])]) Try_C69 ⟨rfl, rfl, trivial⟩) (M.spec_l21DrawPenalty_ok _ (Src.mk a0.code s_l1.1 s_l1.2.1) (hL.exZ 5 4 (by decide) rfl rfl h3) (hL.get 4 rfl) x7.1 (hL.exO 2 4 (by decide) rfl rfl) hx400) ?_)
        rintro e401 wd402 ⟨rfl, hF403⟩
        refine ⟨_, rfl, ?_⟩
        have hL := hL.mut 4 rfl hF403
        simp only [List.cons_append, List.nil_append, List.set_cons_zero, List.set_cons_succ] at hL
        refine OW.cons (S_lit ([x399.1] : List Penalty) hL Try.underlying33 Try_T48 rfl (by decide) (by first | (simp [Instr.fill, madeCells, Value.cells, ev, upd, Flat.enc, Flat.sz]; done) | rfl | kernel_rfl) rfl rfl ?_)
        intro wd404 v405 S406 hL
        obtain ⟨hc410, hm⟩ := chkE hm
        refine OW.cons (S_append (ys := ([x399.1] : List Penalty)) hL 1 rfl Try.underlying33 Try_T48 rfl rfl rfl (hL.rdO 0 rfl) hc410 (by decide) rfl ?_)
        intro wd407 v408 S409 hL
        refine OW.cons (OP.val (v := v408) rfl (x_assign) ?_)
        refine OW.nil ?_
        refine CW.regionL ?_
        refine OW.cons (OP.val (v := (.int .i64 s_l1.2.2.2)) rfl (x_mv f396) ?_)
        refine OW.cons (OP.val (v := (.int .i64 (w64 (s_l1.2.2.2 - 1)))) rfl (x_sub rfl rfl) ?_)
        refine OW.cons (OP.val (v := (.int .i64 (w64 (s_l1.2.2.2 - 1)))) rfl (x_assign) ?_)
        refine OW.nil ?_
        have hL := hL.sel [1, 2, 3, 4, 5, 6] (by decide) rfl
        obtain rfl := Option.some.inj hm
        exact ⟨_, rfl, ⟨v408, S409, f392, f393, f394, rfl, rfl, hL⟩⟩
      · refine CW.exit ?_
        refine XJ.hit ?_
        obtain rfl := Option.some.inj hm
        exact ⟨_, rfl, ⟨v73, S74, f392, f393, f394, f395, f396, hL⟩⟩

theorem M.spec_DrawPenalizedSeries_ok (w0 : World) (a0 : List UInt8) {v1 : Value} (h2 : rdL (· < w0.heap.size) w0 v1 a0) {r : Series × (List Penalty)} (hm : M.spec_DrawPenalizedSeries a0 = some r) :
    Calls Try.prog 17 #[v1] w0 fun e w' => ∃ (rv0 : Value) (rS0 : Nat → Prop), ∃ (rv1 : Value) (rS1 : Nat → Prop), e = .returned (.tuple #[(.agg #[(.int .i64 r.1.Boats), (.int .i64 r.1.Scheme), rv0]), rv1]) ∧ Fresh w0 w' [Ent.own 46 rS0 rv0 r.1.Races, Ent.own 48 rS1 rv1 r.2] := by
  unfold M.spec_DrawPenalizedSeries at hm
  refine calls_CW (args := [v1]) Try.func17 rfl rfl rfl ?_
  have hL := Hp.start w0
  refine CW.seq ?_
  refine CW.regionL ?_
  refine OW.cons (S_alloc (cs := #[(.int .i64 0), (.int .i64 0), (.slice none 0 0)]) hL Try_T31 rfl rfl ?_)
  intro wd3 b4 hL
  refine OW.cons (OP.val (v := (.slice none 0 0)) rfl (x_assign) ?_)
  refine OW.nil ?_
  refine CW.seq ?_
  refine CW.regionL ?_
  refine OW.cons (OP.val (v := v1) rfl (x_move) ?_)
  obtain ⟨x5, hx6, hm⟩ := bndE hm
  refine OW.cons (OP.call rfl (x_call (vs := [v1]) Try_C42 ⟨rfl, trivial⟩) (M.spec_l01From_ok _ a0 (hL.rdS 1 rfl h2) hx6) ?_)
  rintro e8 wd9 ⟨b7, rfl, hF10⟩
  refine ⟨_, rfl, ?_⟩
  have hL := hL.pushAll hF10
  simp only [List.cons_append, List.nil_append, List.set_cons_zero, List.set_cons_succ] at hL
  obtain ⟨x11, hx12, hm⟩ := bndE hm
  refine OW.cons (OP.call rfl (x_call (vs := [(.pointer (some ⟨b7, 0, none⟩))]) Try_C41 ⟨rfl, trivial⟩) (M.spec_l21Draw_ok _ (Src.mk a0 x5.1 x5.2) (hL.exS 2 0 (by decide) rfl rfl h2) (hL.get 0 rfl) hx12) ?_)
  rintro e17 wd18 ⟨v14, S13, v16, S15, rfl, hF19⟩
  refine ⟨_, rfl, ?_⟩
  have hL := hL.mut 0 rfl hF19
  simp only [List.cons_append, List.nil_append, List.set_cons_zero, List.set_cons_succ] at hL
  refine OW.cons (OP.val (v := (.agg #[(.int .i64 x11.1.1.Boats), (.int .i64 x11.1.1.Scheme), v14])) rfl (x_extract rfl rfl) ?_)
  refine OW.cons (OP.val (v := v16) rfl (x_extract rfl rfl) ?_)
  refine OW.cons (S_storeN (l := [(.int .i64 x11.1.1.Boats), (.int .i64 x11.1.1.Scheme), v14]) (cs' := #[(.int .i64 x11.1.1.Boats), (.int .i64 x11.1.1.Scheme), v14]) hL 3 rfl Try_T31 rfl rfl (List.forall_mem_cons.2 ⟨rfl, (List.forall_mem_cons.2 ⟨rfl, (List.forall_mem_cons.2 ⟨rdL_one (hL.rdO 0 rfl), (fun _ h => by cases h)⟩)⟩)⟩) rfl (Nat.le_of_ble_eq_true rfl) rfl ?_)
  intro wd20 hL
  refine OW.cons (OP.val (v := v16) rfl (x_assign) ?_)
  refine OW.nil ?_
  refine CW.ret ?_
  obtain rfl := Option.some.inj hm
  exact RRct rfl rfl (run_loadBlk Try.underlying31 Try_T31 (hL.get 3 rfl) rfl) rfl ⟨v14, S13, v16, S15, rfl, hL.fresh 4 rfl [0, 1] (by decide) (by decide) rfl⟩

theorem M.impl_penaltyCode_ok (w0 : World) (a0 : Series) {v1 : Value} (h2 : rdL (· < w0.heap.size) w0 v1 a0.Races) (a1 : List Penalty) {v3 : Value} (h4 : rdL (· < w0.heap.size) w0 v3 a1) {r : Int} (hm : M.impl_penaltyCode a0 a1 = some r) :
    Calls Try.prog 43 #[(.agg #[(.int .i64 a0.Boats), (.int .i64 a0.Scheme), v1]), v3] w0 fun e w' => e = .returned (.int .i64 r) ∧ Fresh w0 w' [] := by
  unfold M.impl_penaltyCode at hm
  refine calls_CW (args := [(.agg #[(.int .i64 a0.Boats), (.int .i64 a0.Scheme), v1]), v3]) Try.func43 rfl rfl rfl ?_
  have hL := Hp.start w0
  refine CW.seq ?_
  refine CW.regionL ?_
  refine OW.cons (S_box (cs := #[(.int .i64 a0.Boats), (.int .i64 a0.Scheme), v1]) hL rfl rfl rfl ?_)
  intro wd5 b6 hL
  refine OW.cons (OP.val (v := (.int .i64 0)) rfl (x_assign) ?_)
  refine OW.nil ?_
  refine CW.seq ?_
  refine CW.seq ?_
  refine CW.regionL ?_
  refine OW.cons (OP.val (v := (.agg #[(.int .i64 a0.Boats), (.int .i64 a0.Scheme), v1])) rfl (x_loadN (cs := [(.int .i64 a0.Boats), (.int .i64 a0.Scheme), v1]) Try.underlying31 Try_T31 rfl rfl (hL.cellsB 0 rfl (o := 0) (l := [(.int .i64 a0.Boats), (.int .i64 a0.Scheme), v1]) (by intro j u hj; exact (by simpa using hj)))) ?_)
  obtain ⟨x7, hx8, hm⟩ := bndE hm
  refine OW.cons (OP.call rfl (x_call (vs := [(.agg #[(.int .i64 a0.Boats), (.int .i64 a0.Scheme), v1])]) Try_C21 ⟨rfl, trivial⟩) (M.impl_IsSeries_ok _ a0 (hL.rdS 1 rfl h2) hx8) ?_)
  rintro e9 wd10 ⟨rfl, hF11⟩
  refine ⟨_, rfl, ?_⟩
  have hL := hL.pushAll hF11
  simp only [List.cons_append, List.nil_append, List.set_cons_zero, List.set_cons_succ] at hL
  refine OW.cons (OP.val (v := (.bool (!x7))) rfl (x_not rfl) ?_)
  refine OW.nil ?_
  refine CW.condM (t := !x7) rfl hm (fun hb12 hm => ?_) (fun hb12 hm => ?_)
  · refine CW.seq ?_
    refine CW.regionL ?_
    refine OW.cons (OP.val (v := (.int .i64 1)) rfl (x_assign) ?_)
    refine OW.nil ?_
    refine CW.ret ?_
    obtain rfl := Option.some.inj hm
    exact RR1 rfl rfl ⟨rfl, hL.fresh 1 rfl [] (by decide) (by decide) rfl⟩
  · refine CW.skip ?_
    refine CW.seq ?_
    refine CW.seq ?_
    refine CW.regionL ?_
    refine OW.cons (OP.val (v := (.agg #[(.int .i64 a0.Boats), (.int .i64 a0.Scheme), v1])) rfl (x_loadN (cs := [(.int .i64 a0.Boats), (.int .i64 a0.Scheme), v1]) Try.underlying31 Try_T31 rfl rfl (hL.cellsB 0 rfl (o := 0) (l := [(.int .i64 a0.Boats), (.int .i64 a0.Scheme), v1]) (by intro j u hj; exact (by simpa using hj)))) ?_)
    refine OW.cons (OP.val (v := v3) rfl (x_move) ?_)
    obtain ⟨x13, hx14, hm⟩ := bndE hm
    refine OW.cons (OP.call rfl (x_call (vs := [(.agg #[(.int .i64 a0.Boats), (.int .i64 a0.Scheme), v1]), v3]) Try_C38 ⟨rfl, rfl, trivial⟩) (M.impl_arePenalties_ok _ a0 (hL.rdS 1 rfl h2) a1 (hL.rdS 1 rfl h4) hx14) ?_)
    rintro e15 wd16 ⟨rfl, hF17⟩
    refine ⟨_, rfl, ?_⟩
    have hL := hL.pushAll hF17
    simp only [List.cons_append, List.nil_append, List.set_cons_zero, List.set_cons_succ] at hL
    refine OW.cons (OP.val (v := (.bool (!x13))) rfl (x_not rfl) ?_)
    refine OW.nil ?_
    refine CW.condM (t := !x13) rfl hm (fun hb18 hm => ?_) (fun hb18 hm => ?_)
    · refine CW.seq ?_
      refine CW.regionL ?_
      refine OW.cons (OP.val (v := (.int .i64 2)) rfl (x_assign) ?_)
      refine OW.nil ?_
      refine CW.ret ?_
      obtain rfl := Option.some.inj hm
      exact RR1 rfl rfl ⟨rfl, hL.fresh 1 rfl [] (by decide) (by decide) rfl⟩
    · refine CW.skip ?_
      refine CW.seq ?_
      refine CW.regionL ?_
      refine OW.cons (OP.val (v := (.int .i64 0)) rfl (x_assign) ?_)
      refine OW.nil ?_
      refine CW.ret ?_
      obtain rfl := Option.some.inj hm
      exact RR1 rfl rfl ⟨rfl, hL.fresh 1 rfl [] (by decide) (by decide) rfl⟩

theorem M.impl_penalizedSeries_ok (w0 : World) (a0 : Series) {v1 : Value} (h2 : rdL (· < w0.heap.size) w0 v1 a0.Races) (a1 : List Penalty) {v3 : Value} (h4 : rdL (· < w0.heap.size) w0 v3 a1) {r : Series} (hm : M.impl_penalizedSeries a0 a1 = some r) :
    Calls Try.prog 44 #[(.agg #[(.int .i64 a0.Boats), (.int .i64 a0.Scheme), v1]), v3] w0 fun e w' => ∃ (rv0 : Value) (rS0 : Nat → Prop), e = .returned (.agg #[(.int .i64 r.Boats), (.int .i64 r.Scheme), rv0]) ∧ Fresh w0 w' [Ent.own 46 rS0 rv0 r.Races] := by
  unfold M.impl_penalizedSeries at hm
  refine calls_CW (args := [(.agg #[(.int .i64 a0.Boats), (.int .i64 a0.Scheme), v1]), v3]) Try.func44 rfl rfl rfl ?_
  have hL := Hp.start w0
  refine CW.seq ?_
  refine CW.regionL ?_
  refine OW.cons (S_box (cs := #[(.int .i64 a0.Boats), (.int .i64 a0.Scheme), v1]) hL rfl rfl rfl ?_)
  intro wd5 b6 hL
  refine OW.cons (S_alloc (cs := #[(.int .i64 0), (.int .i64 0), (.slice none 0 0)]) hL Try_T31 rfl rfl ?_)
  intro wd7 b8 hL
  refine OW.nil ?_
  refine CW.seq ?_
  refine CW.regionL ?_
  refine OW.cons (OP.val (v := (.pointer (some ⟨b6, 0, none⟩))) rfl (x_fieldAddr (fsz := 1) 0 0 0 Try.underlying31 rfl Try_T2 rfl rfl rfl) ?_)
  refine OW.cons (OP.val (v := (.int .i64 a0.Boats)) rfl (x_load1 Try.underlying2 rfl rfl (hL.cellB 1 rfl rfl)) ?_)
  refine OW.cons (OP.val (v := (.pointer (some ⟨b6, 1, none⟩))) rfl (x_fieldAddr (fsz := 1) 0 1 1 Try.underlying31 rfl Try_T2 rfl rfl rfl) ?_)
  refine OW.cons (OP.val (v := (.int .i64 a0.Scheme)) rfl (x_load1 Try.underlying2 rfl rfl (hL.cellB 1 rfl rfl)) ?_)
  refine OW.cons (OP.val (v := (.agg #[(.int .i64 a0.Boats), (.int .i64 a0.Scheme), (.slice none 0 0)])) rfl (x_build Try_B31 (ps := [(0, (.int .i64 a0.Boats)), (1, (.int .i64 a0.Scheme))]) ⟨⟨rfl, rfl⟩, ⟨rfl, rfl⟩, trivial⟩ (by simp [Instr.fill, cells_int, cells_bool, cells_string, cells_agg, cells_slice, cells_pointer])) ?_)
  refine OW.cons (S_alloc (cs := #[(.int .i64 0), (.int .i64 0), (.slice none 0 0)]) hL Try_T31 rfl rfl ?_)
  intro wd9 b10 hL
  refine OW.cons (S_storeN (l := [(.int .i64 a0.Boats), (.int .i64 a0.Scheme), (.slice none 0 0)]) (cs' := #[(.int .i64 a0.Boats), (.int .i64 a0.Scheme), (.slice none 0 0)]) hL 0 rfl Try_T31 rfl rfl (List.forall_mem_cons.2 ⟨rfl, (List.forall_mem_cons.2 ⟨rfl, (List.forall_mem_cons.2 ⟨rfl, (fun _ h => by cases h)⟩)⟩)⟩) rfl (Nat.le_of_ble_eq_true rfl) rfl ?_)
  intro wd11 hL
  refine OW.nil ?_
  refine CW.seq ?_
  refine CW.seq ?_
  refine CW.regionL ?_
  refine OW.cons (OP.val (v := (.pointer (some ⟨b6, 2, none⟩))) rfl (x_fieldAddr (fsz := 1) 0 2 2 Try.underlying31 rfl Try_T29 rfl rfl rfl) ?_)
  refine OW.cons (OP.val (v := v1) rfl (x_load1 Try.underlying29 rfl rfl (hL.cellB 2 rfl rfl)) ?_)
  refine OW.cons (OP.val (v := (.int .i64 (a0.Races.length : Int))) rfl (x_lenR Try.underlying29 rfl (hL.rdS 3 rfl h2)) ?_)
  refine OW.cons (OP.val (v := (.int .i64 0)) rfl (x_move) ?_)
  refine OW.nil ?_
  obtain ⟨o108, ho109, hm⟩ := bndE hm
  have hL := hL.pushNil Race 46
  refine CW.loopB (fun (s_l1 : (List Race) × Int) (F : Fr) (w : World) => ∃ (v104 : Value) (S105 : Nat → Prop), F 1 = v3 ∧ F 4 = (.pointer (some ⟨b8, 0, none⟩)) ∧ F 5 = (.pointer (some ⟨b10, 0, none⟩)) ∧ F 19 = v1 ∧ F 20 = (.int .i64 (a0.Races.length : Int)) ∧ F 21 = (.int .i64 s_l1.2) ∧ Hp w0 [Ent.own 46 S105 v104 s_l1.1, Ent.blk b10 31 #[(.int .i64 a0.Boats), (.int .i64 a0.Scheme), v104], Ent.blk b8 31 #[(.int .i64 0), (.int .i64 0), (.slice none 0 0)], Ent.blk b6 31 #[(.int .i64 a0.Boats), (.int .i64 a0.Scheme), v1], Ent.snap w0 w0.heap.size] w) (fun o => outc o (fun x => some x) (fun s => M.impl_penalizedSeries_a1 a0 a1 s) = some r) ho109 hm ⟨(.slice none 0 0), None_, rfl, rfl, rfl, rfl, rfl, rfl, hL⟩ ?_ ?_
  · intro s_l1 F110 wd111 hJ hm
    have hm := outcE hm
    have hm : M.impl_penalizedSeries_a1 a0 a1 s_l1 = some r := hm
    unfold M.impl_penalizedSeries_a1 at hm
    obtain ⟨v104, S105, f112, f113, f114, f115, f116, f117, hL⟩ := hJ
    refine CW.seq ?_
    refine CW.seq ?_
    refine CW.regionL ?_
    refine OW.cons (OP.val (v := v3) rfl (x_mv f112) ?_)
    refine OW.cons (OP.val (v := (.int .i64 (a1.length : Int))) rfl (x_lenR Try.underlying33 rfl (hL.rdS 4 rfl h4)) ?_)
    refine OW.cons (OP.val (v := (.int .i64 0)) rfl (x_move) ?_)
    refine OW.nil ?_
    obtain ⟨o586, ho587, hm⟩ := bndE hm
    refine CW.loopB (fun (s_l2 : (List Race) × Int) (F : Fr) (w : World) => ∃ (S583 : Nat → Prop), F 1 = v3 ∧ F 4 = (.pointer (some ⟨b8, 0, none⟩)) ∧ F 5 = (.pointer (some ⟨b10, 0, none⟩)) ∧ F 36 = v3 ∧ F 37 = (.int .i64 (a1.length : Int)) ∧ F 38 = (.int .i64 s_l2.2) ∧ Hp w0 [Ent.own 46 S583 v104 s_l2.1, Ent.blk b10 31 #[(.int .i64 a0.Boats), (.int .i64 a0.Scheme), v104], Ent.blk b8 31 #[(.int .i64 0), (.int .i64 0), (.slice none 0 0)], Ent.blk b6 31 #[(.int .i64 a0.Boats), (.int .i64 a0.Scheme), v1], Ent.snap w0 w0.heap.size] w) (fun o => outc o (fun x => some x) (fun s => M.impl_penalizedSeries_a2 a0 a1 s) = some r) ho587 hm ⟨S105, f112, f113, f114, rfl, rfl, rfl, hL⟩ ?_ ?_
    · intro s_l2 F588 wd589 hJ hm
      have hm := outcE hm
      have hm : M.impl_penalizedSeries_a2 a0 a1 s_l2 = some r := hm
      unfold M.impl_penalizedSeries_a2 at hm
      obtain ⟨S583, f590, f591, f592, f593, f594, f595, hL⟩ := hJ
      refine CW.seq ?_
      refine CW.seq ?_
      refine CW.regionL ?_
      refine OW.cons (OP.val (v := v3) rfl (x_mv f590) ?_)
      refine OW.cons (OP.val (v := (.int .i64 (a1.length : Int))) rfl (x_lenR Try.underlying33 rfl (hL.rdS 4 rfl h4)) ?_)
      refine OW.cons (OP.val (v := (.int .i64 0)) rfl (x_move) ?_)
      refine OW.nil ?_
      obtain ⟨o930, ho931, hm⟩ := bndE hm
      refine CW.loopB (fun (s_l3 : (List Race) × Int) (F : Fr) (w : World) => ∃ (S927 : Nat → Prop), F 4 = (.pointer (some ⟨b8, 0, none⟩)) ∧ F 5 = (.pointer (some ⟨b10, 0, none⟩)) ∧ F 74 = v3 ∧ F 75 = (.int .i64 (a1.length : Int)) ∧ F 76 = (.int .i64 s_l3.2) ∧ Hp w0 [Ent.own 46 S927 v104 s_l3.1, Ent.blk b10 31 #[(.int .i64 a0.Boats), (.int .i64 a0.Scheme), v104], Ent.blk b8 31 #[(.int .i64 0), (.int .i64 0), (.slice none 0 0)], Ent.blk b6 31 #[(.int .i64 a0.Boats), (.int .i64 a0.Scheme), v1], Ent.snap w0 w0.heap.size] w) (fun o => outc o (fun x => some x) (fun s => M.impl_penalizedSeries_a3 a0 s) = some r) ho931 hm ⟨S583, f591, f592, rfl, rfl, rfl, hL⟩ ?_ ?_
      · intro s_l3 F932 wd933 hJ hm
        have hm := outcE hm
        have hm : M.impl_penalizedSeries_a3 a0 s_l3 = some r := hm
        unfold M.impl_penalizedSeries_a3 at hm
        obtain ⟨S927, f934, f935, f936, f937, f938, hL⟩ := hJ
        refine CW.seq ?_
        refine CW.regionL ?_
        refine OW.cons (OP.val (v := (.agg #[(.int .i64 a0.Boats), (.int .i64 a0.Scheme), v104])) rfl (x_loadN (cs := [(.int .i64 a0.Boats), (.int .i64 a0.Scheme), v104]) Try.underlying31 Try_T31 rfl f935 (hL.cellsB 1 rfl (o := 0) (l := [(.int .i64 a0.Boats), (.int .i64 a0.Scheme), v104]) (by intro j u hj; exact (by simpa using hj)))) ?_)
        refine OW.cons (S_storeN (l := [(.int .i64 a0.Boats), (.int .i64 a0.Scheme), v104]) (cs' := #[(.int .i64 a0.Boats), (.int .i64 a0.Scheme), v104]) hL 2 rfl Try_T31 f934 rfl (List.forall_mem_cons.2 ⟨rfl, (List.forall_mem_cons.2 ⟨rfl, (List.forall_mem_cons.2 ⟨rdL_one (hL.rdO 0 rfl), (fun _ h => by cases h)⟩)⟩)⟩) rfl (Nat.le_of_ble_eq_true rfl) rfl ?_)
        intro wd939 hL
        refine OW.nil ?_
        refine CW.ret ?_
        obtain rfl := Option.some.inj hm
        exact RRc rfl f934 (run_loadBlk Try.underlying31 Try_T31 (hL.get 2 rfl) rfl) ⟨v104, S927, rfl, hL.fresh 4 rfl [0] (by decide) (by decide) rfl⟩
      · intro s_l3 F940 wd941 t928 hJ hm hr929
        unfold M.impl_penalizedSeries_l3 at hm
        obtain ⟨S927, f942, f943, f944, f945, f946, hL⟩ := hJ
        refine CW.seq ?_
        refine CW.regionL ?_
        refine OW.cons (OP.val (v := (.bool (decide (s_l3.2 < (a1.length : Int))))) rfl (x_lss f946 f945) ?_)
        refine OW.nil ?_
        refine CW.seq ?_
        refine CW.condM (t := decide (s_l3.2 < (a1.length : Int))) rfl hm (fun hb947 hm => ?_) (fun hb947 hm => ?_)
        · refine CW.skip ?_
          refine CW.seqJ (fun (s_j1 : (List Race)) (F : Fr) (w : World) => ∃ (S1026 : Nat → Prop), F 4 = (.pointer (some ⟨b8, 0, none⟩)) ∧ F 5 = (.pointer (some ⟨b10, 0, none⟩)) ∧ F 74 = v3 ∧ F 75 = (.int .i64 (a1.length : Int)) ∧ F 76 = (.int .i64 s_l3.2) ∧ Hp w0 [Ent.own 46 S1026 v104 s_j1, Ent.blk b10 31 #[(.int .i64 a0.Boats), (.int .i64 a0.Scheme), v104], Ent.blk b8 31 #[(.int .i64 0), (.int .i64 0), (.slice none 0 0)], Ent.blk b6 31 #[(.int .i64 a0.Boats), (.int .i64 a0.Scheme), v1], Ent.snap w0 w0.heap.size] w) (fun s_j1 => M.impl_penalizedSeries_j1 s_l3 s_j1 = some t928) ?_ ?_
          · refine CW.blockJ (fun (s_j2 : (List Race)) (F : Fr) (w : World) => ∃ (S1069 : Nat → Prop), F 4 = (.pointer (some ⟨b8, 0, none⟩)) ∧ F 5 = (.pointer (some ⟨b10, 0, none⟩)) ∧ F 74 = v3 ∧ F 75 = (.int .i64 (a1.length : Int)) ∧ F 76 = (.int .i64 s_l3.2) ∧ Hp w0 [Ent.own 46 S1069 v104 s_j2, Ent.blk b10 31 #[(.int .i64 a0.Boats), (.int .i64 a0.Scheme), v104], Ent.blk b8 31 #[(.int .i64 0), (.int .i64 0), (.slice none 0 0)], Ent.blk b6 31 #[(.int .i64 a0.Boats), (.int .i64 a0.Scheme), v1], Ent.snap w0 w0.heap.size] w) (fun s_j2 => M.impl_penalizedSeries_j2 s_l3 s_j2 = some t928) ?_ ?_
            · refine CW.seq ?_
              refine CW.regionL ?_
              obtain ⟨x1077, ha1078, hm⟩ := bndE hm
              obtain ⟨hz1079, ha1083⟩ := idxE ha1078
              obtain ⟨b1080, q1081, hix1082⟩ := rdL_ix (hL.rdS 4 rfl h4) hz1079 ha1083
              refine OW.cons (OP.val (v := (.pointer (some ⟨b1080, q1081, none⟩))) rfl (x_ix Try.underlying33 Try_T48 f944 f946 hix1082) ?_)
              refine OW.cons (OP.val (v := (.agg #[(.int .i64 x1077.Race), (.int .i64 x1077.Boat), (.int .i64 x1077.Kind), (.int .i64 x1077.Value)])) rfl (x_loadN (cs := [(.int .i64 x1077.Race), (.int .i64 x1077.Boat), (.int .i64 x1077.Kind), (.int .i64 x1077.Value)]) Try.underlying48 Try_T48 rfl rfl (rdF_cells (hL.rdS 4 rfl h4) hix1082 ha1083)) ?_)
              refine OW.cons (S_alloc (cs := #[(.int .i64 0), (.int .i64 0), (.int .i64 0), (.int .i64 0)]) hL Try_T48 rfl rfl ?_)
              intro wd1084 b1085 hL
              refine OW.cons (S_storeN (l := [(.int .i64 x1077.Race), (.int .i64 x1077.Boat), (.int .i64 x1077.Kind), (.int .i64 x1077.Value)]) (cs' := #[(.int .i64 x1077.Race), (.int .i64 x1077.Boat), (.int .i64 x1077.Kind), (.int .i64 x1077.Value)]) hL 0 rfl Try_T48 rfl rfl (List.forall_mem_cons.2 ⟨rfl, (List.forall_mem_cons.2 ⟨rfl, (List.forall_mem_cons.2 ⟨rfl, (List.forall_mem_cons.2 ⟨rfl, (fun _ h => by cases h)⟩)⟩)⟩)⟩) rfl (Nat.le_of_ble_eq_true rfl) rfl ?_)
              intro wd1086 hL
              refine OW.nil ?_
              refine CW.seq ?_
              refine CW.regionL ?_
              refine OW.cons (OP.val (v := (.pointer (some ⟨b1085, 2, none⟩))) rfl (x_fieldAddr (fsz := 1) 0 2 2 Try.underlying48 rfl Try_T2 rfl rfl rfl) ?_)
              refine OW.cons (OP.val (v := (.int .i64 x1077.Kind)) rfl (x_load1 Try.underlying2 rfl rfl (hL.cellB 0 rfl rfl)) ?_)
              refine OW.cons (OP.val (v := (.bool (x1077.Kind == 1))) rfl (x_eql rfl rfl) ?_)
              refine OW.nil ?_
              refine CW.condM (t := x1077.Kind == 1) rfl hm (fun hb1087 hm => ?_) (fun hb1087 hm => ?_)
              · obtain ⟨wz1088, hL, ho1089⟩ := hL.freeze 1 rfl
                simp only [List.set_cons_zero, List.set_cons_succ] at hL
                refine CW.draw Try_mixed ?_
                have hL := hL.call (Mod.drew _)
                refine DW.pre (fuel := 1) (fin := ((((((((((((((((Array.replicate 16 false).setIfInBounds 0 true).setIfInBounds 1 true).setIfInBounds 2 true).setIfInBounds 3 true).setIfInBounds 4 true).setIfInBounds 5 true).setIfInBounds 6 true).setIfInBounds 7 true).setIfInBounds 8 true).setIfInBounds 9 true).setIfInBounds 10 true).setIfInBounds 11 true).setIfInBounds 12 true).setIfInBounds 13 true).setIfInBounds 14 true)) (C := fun w' => Mod None_ _ w') [0, 1, 2, 3, 4, 5, 6, 7, 8, 9, 10, 11, 12, 13, 14] (Mod.refl _ _) (by kernel_rfl) (by kernel_rfl) ?_
                refine QW.cons rfl (QP.val (v := (.pointer (some ⟨b10, 2, none⟩))) rfl (fun w' hm' => x_fieldAddr (fsz := 1) 0 2 2 Try.underlying31 rfl Try_T29 rfl f943 rfl) ?_)
                refine QW.cons rfl (QP.val (v := v104) rfl (fun w' hm' => x_load1 Try.underlying29 rfl rfl ((hL.call hm').cellB 2 rfl rfl)) ?_)
                refine QW.cons rfl (QP.val (v := (.pointer (some ⟨b1085, 0, none⟩))) rfl (fun w' hm' => x_fieldAddr (fsz := 1) 0 0 0 Try.underlying48 rfl Try_T2 rfl rfl rfl) ?_)
                refine QW.cons rfl (QP.val (v := (.int .i64 x1077.Race)) rfl (fun w' hm' => x_load1 Try.underlying2 rfl rfl ((hL.call hm').cellB 0 rfl rfl)) ?_)
                obtain ⟨x1090, ha1091, hm⟩ := bndE hm
                obtain ⟨hz1092, ha1100⟩ := idxE ha1091
                obtain ⟨b1093, q1094, v1095, hix1096, hs1097, hc1098, hr1099⟩ := rdN_at ho1089.1.rdL hz1092 ha1100
                refine QW.cons rfl (QP.val (v := (.pointer (some ⟨b1093, q1094, none⟩))) rfl (fun w' hm' => x_ix Try.underlying29 Try_T46 rfl rfl hix1096) ?_)
                refine QW.cons rfl (QP.val (v := (.pointer (some ⟨b1093, q1094, none⟩))) rfl (fun w' hm' => x_fieldAddr (fsz := 1) q1094 0 q1094 Try.underlying46 rfl Try_T44 rfl rfl rfl) ?_)
                refine QW.cons rfl (QP.val (v := v1095) rfl (fun w' hm' => x_load1 Try.underlying44 rfl rfl ((hL.call hm').cellF 1 rfl hs1097 hc1098)) ?_)
                refine QW.cons rfl (QP.val (v := (.pointer (some ⟨b1085, 1, none⟩))) rfl (fun w' hm' => x_fieldAddr (fsz := 1) 0 1 1 Try.underlying48 rfl Try_T2 rfl rfl rfl) ?_)
                refine QW.cons rfl (QP.val (v := (.int .i64 x1077.Boat)) rfl (fun w' hm' => x_load1 Try.underlying2 rfl rfl ((hL.call hm').cellB 0 rfl rfl)) ?_)
                refine QW.cons rfl (QP.val (v := (.pointer (some ⟨b1085, 1, none⟩))) rfl (fun w' hm' => x_fieldAddr (fsz := 1) 0 1 1 Try.underlying48 rfl Try_T2 rfl rfl rfl) ?_)
                refine QW.cons rfl (QP.val (v := (.int .i64 x1077.Boat)) rfl (fun w' hm' => x_load1 Try.underlying2 rfl rfl ((hL.call hm').cellB 0 rfl rfl)) ?_)
                refine QW.cons rfl (QP.val (v := (.pointer (some ⟨b1085, 3, none⟩))) rfl (fun w' hm' => x_fieldAddr (fsz := 1) 0 3 3 Try.underlying48 rfl Try_T2 rfl rfl rfl) ?_)
                refine QW.cons rfl (QP.val (v := (.int .i64 x1077.Value)) rfl (fun w' hm' => x_load1 Try.underlying2 rfl rfl ((hL.call hm').cellB 0 rfl rfl)) ?_)
                refine QW.cons rfl (QP.val (v := (.agg #[(.int .i64 x1077.Boat), (.int .i64 x1077.Value), (.int .i64 0)])) rfl (fun w' hm' => x_build Try_B50 (ps := [(0, (.int .i64 x1077.Boat)), (1, (.int .i64 x1077.Value)), (2, (.int .i64 0))]) ⟨⟨rfl, rfl⟩, ⟨rfl, rfl⟩, ⟨rfl, rfl⟩, trivial⟩ (by simp [Instr.fill, cells_int, cells_bool, cells_string, cells_agg, cells_slice, cells_pointer])) ?_)
                obtain ⟨x1101, ha1102, hm⟩ := bndE hm
                obtain ⟨hz1103, ha1107⟩ := idxE ha1102
                obtain ⟨b1104, q1105, hix1106⟩ := rdL_ix (hL.rdF 1 rfl hr1099) hz1103 ha1107
                refine QW.cons rfl (QP.val (v := (.pointer (some ⟨b1104, q1105, none⟩))) rfl (fun w' hm' => x_ix Try.underlying44 Try_T50 rfl rfl hix1106) ?_)
                refine QW.nil ?_
                intro wd1108 hmod
                have hL := hL.call hmod
                have hc1110 := hL.cellF 1 rfl hs1097 hc1098
                have hL := hL.thaw 1 rfl ho1089
                simp only [List.set_cons_zero, List.set_cons_succ] at hL
                refine DW.only 15 rfl (by kernel_rfl) (S_inRow (α := Finish) (x1090.Finishes.set (x1077.Boat : Int).toNat (Finish.mk x1077.Boat x1077.Value 0)) (Race.mk (x1090.Finishes.set (x1077.Boat : Int).toNat (Finish.mk x1077.Boat x1077.Value 0))) rfl hL 1 rfl hix1096 ha1100 hc1110 (fun E2 S1 hL hK => S_storeXN (l := [(.int .i64 x1077.Boat), (.int .i64 x1077.Value), (.int .i64 0)]) (Finish.mk x1077.Boat x1077.Value 0) hL 0 rfl Try_T50 hix1106 ha1107 rfl rfl rfl hK) ?_)
                intro wd1109 S1111 hL
                simp only [List.set_cons_zero, List.set_cons_succ] at hL
                refine DW.done (by kernel_rfl) ?_
                have hL := hL.sel [1, 2, 3, 4, 5] (by decide) rfl
                exact ⟨s_l3.1.set (x1077.Race : Int).toNat (Race.mk (x1090.Finishes.set (x1077.Boat : Int).toNat (Finish.mk x1077.Boat x1077.Value 0))), hm, ⟨S1111, f942, f943, f944, f945, f946, hL⟩⟩
              · refine CW.skip ?_
                have hL := hL.sel [1, 2, 3, 4, 5] (by decide) rfl
                exact ⟨s_l3.1, hm, ⟨S927, f942, f943, f944, f945, f946, hL⟩⟩
            · intro s_j2 F1070 wd1071 hJ hm
              unfold M.impl_penalizedSeries_j2 at hm
              obtain ⟨S1069, f1072, f1073, f1074, f1075, f1076, hL⟩ := hJ
              exact ⟨s_j2, hm, ⟨S1069, f1072, f1073, f1074, f1075, f1076, hL⟩⟩
          · intro s_j1 F1027 wd1028 hJ hm
            unfold M.impl_penalizedSeries_j1 at hm
            obtain ⟨S1026, f1029, f1030, f1031, f1032, f1033, hL⟩ := hJ
            refine CW.regionL ?_
            refine OW.cons (OP.val (v := (.int .i64 (w64 (s_l3.2 + 1)))) rfl (x_add f1033 rfl) ?_)
            refine OW.cons (OP.val (v := (.int .i64 (w64 (s_l3.2 + 1)))) rfl (x_move) ?_)
            refine OW.nil ?_
            obtain rfl := Option.some.inj hm
            exact ⟨_, rfl, ⟨S1026, f1029, f1030, f1031, f1032, rfl, hL⟩⟩
        · refine CW.exit ?_
          refine XJ.hit ?_
          obtain rfl := Option.some.inj hm
          exact ⟨_, rfl, ⟨S927, f942, f943, f944, f945, f946, hL⟩⟩
    · intro s_l2 F1112 wd1113 t584 hJ hm hr585
      unfold M.impl_penalizedSeries_l2 at hm
      obtain ⟨S583, f1114, f1115, f1116, f1117, f1118, f1119, hL⟩ := hJ
      refine CW.seq ?_
      refine CW.regionL ?_
      refine OW.cons (OP.val (v := (.bool (decide (s_l2.2 < (a1.length : Int))))) rfl (x_lss f1119 f1118) ?_)
      refine OW.nil ?_
      refine CW.seq ?_
      refine CW.condM (t := decide (s_l2.2 < (a1.length : Int))) rfl hm (fun hb1120 hm => ?_) (fun hb1120 hm => ?_)
      · refine CW.skip ?_
        refine CW.seqJ (fun (s_j3 : (List Race)) (F : Fr) (w : World) => ∃ (S1232 : Nat → Prop), F 1 = v3 ∧ F 4 = (.pointer (some ⟨b8, 0, none⟩)) ∧ F 5 = (.pointer (some ⟨b10, 0, none⟩)) ∧ F 36 = v3 ∧ F 37 = (.int .i64 (a1.length : Int)) ∧ F 38 = (.int .i64 s_l2.2) ∧ Hp w0 [Ent.own 46 S1232 v104 s_j3, Ent.blk b10 31 #[(.int .i64 a0.Boats), (.int .i64 a0.Scheme), v104], Ent.blk b8 31 #[(.int .i64 0), (.int .i64 0), (.slice none 0 0)], Ent.blk b6 31 #[(.int .i64 a0.Boats), (.int .i64 a0.Scheme), v1], Ent.snap w0 w0.heap.size] w) (fun s_j3 => M.impl_penalizedSeries_j3 s_l2 s_j3 = some t584) ?_ ?_
        · refine CW.blockJ (fun (s_j4 : (List Race)) (F : Fr) (w : World) => ∃ (S1292 : Nat → Prop), F 1 = v3 ∧ F 4 = (.pointer (some ⟨b8, 0, none⟩)) ∧ F 5 = (.pointer (some ⟨b10, 0, none⟩)) ∧ F 36 = v3 ∧ F 37 = (.int .i64 (a1.length : Int)) ∧ F 38 = (.int .i64 s_l2.2) ∧ Hp w0 [Ent.own 46 S1292 v104 s_j4, Ent.blk b10 31 #[(.int .i64 a0.Boats), (.int .i64 a0.Scheme), v104], Ent.blk b8 31 #[(.int .i64 0), (.int .i64 0), (.slice none 0 0)], Ent.blk b6 31 #[(.int .i64 a0.Boats), (.int .i64 a0.Scheme), v1], Ent.snap w0 w0.heap.size] w) (fun s_j4 => M.impl_penalizedSeries_j4 s_l2 s_j4 = some t584) ?_ ?_
          · refine CW.seq ?_
            refine CW.regionL ?_
            obtain ⟨x1301, ha1302, hm⟩ := bndE hm
            obtain ⟨hz1303, ha1307⟩ := idxE ha1302
            obtain ⟨b1304, q1305, hix1306⟩ := rdL_ix (hL.rdS 4 rfl h4) hz1303 ha1307
            refine OW.cons (OP.val (v := (.pointer (some ⟨b1304, q1305, none⟩))) rfl (x_ix Try.underlying33 Try_T48 f1117 f1119 hix1306) ?_)
            refine OW.cons (OP.val (v := (.agg #[(.int .i64 x1301.Race), (.int .i64 x1301.Boat), (.int .i64 x1301.Kind), (.int .i64 x1301.Value)])) rfl (x_loadN (cs := [(.int .i64 x1301.Race), (.int .i64 x1301.Boat), (.int .i64 x1301.Kind), (.int .i64 x1301.Value)]) Try.underlying48 Try_T48 rfl rfl (rdF_cells (hL.rdS 4 rfl h4) hix1306 ha1307)) ?_)
            refine OW.cons (S_alloc (cs := #[(.int .i64 0), (.int .i64 0), (.int .i64 0), (.int .i64 0)]) hL Try_T48 rfl rfl ?_)
            intro wd1308 b1309 hL
            refine OW.cons (S_storeN (l := [(.int .i64 x1301.Race), (.int .i64 x1301.Boat), (.int .i64 x1301.Kind), (.int .i64 x1301.Value)]) (cs' := #[(.int .i64 x1301.Race), (.int .i64 x1301.Boat), (.int .i64 x1301.Kind), (.int .i64 x1301.Value)]) hL 0 rfl Try_T48 rfl rfl (List.forall_mem_cons.2 ⟨rfl, (List.forall_mem_cons.2 ⟨rfl, (List.forall_mem_cons.2 ⟨rfl, (List.forall_mem_cons.2 ⟨rfl, (fun _ h => by cases h)⟩)⟩)⟩)⟩) rfl (Nat.le_of_ble_eq_true rfl) rfl ?_)
            intro wd1310 hL
            refine OW.nil ?_
            refine CW.seq ?_
            obtain ⟨wz1311, hL, ho1312⟩ := hL.freeze 1 rfl
            simp only [List.set_cons_zero, List.set_cons_succ] at hL
            refine CW.draw Try_mixed ?_
            have hL := hL.call (Mod.drew _)
            refine DW.pre (fuel := 0) (fin := ((((((((((((Array.replicate 11 false).setIfInBounds 0 true).setIfInBounds 1 true).setIfInBounds 2 true).setIfInBounds 3 true).setIfInBounds 4 true).setIfInBounds 5 true).setIfInBounds 6 true).setIfInBounds 7 true).setIfInBounds 8 true).setIfInBounds 9 true).setIfInBounds 10 true)) (C := fun w' => Mod None_ _ w') [0, 1, 2, 3, 4, 5, 6, 7, 8, 9, 10] (Mod.refl _ _) (by kernel_rfl) (by kernel_rfl) ?_
            refine QW.cons rfl (QP.val (v := (.pointer (some ⟨b10, 2, none⟩))) rfl (fun w' hm' => x_fieldAddr (fsz := 1) 0 2 2 Try.underlying31 rfl Try_T29 rfl f1116 rfl) ?_)
            refine QW.cons rfl (QP.val (v := v104) rfl (fun w' hm' => x_load1 Try.underlying29 rfl rfl ((hL.call hm').cellB 2 rfl rfl)) ?_)
            refine QW.cons rfl (QP.val (v := (.pointer (some ⟨b1309, 0, none⟩))) rfl (fun w' hm' => x_fieldAddr (fsz := 1) 0 0 0 Try.underlying48 rfl Try_T2 rfl rfl rfl) ?_)
            refine QW.cons rfl (QP.val (v := (.int .i64 x1301.Race)) rfl (fun w' hm' => x_load1 Try.underlying2 rfl rfl ((hL.call hm').cellB 0 rfl rfl)) ?_)
            obtain ⟨x1313, ha1314, hm⟩ := bndE hm
            obtain ⟨hz1315, ha1323⟩ := idxE ha1314
            obtain ⟨b1316, q1317, v1318, hix1319, hs1320, hc1321, hr1322⟩ := rdN_at ho1312.1.rdL hz1315 ha1323
            refine QW.cons rfl (QP.val (v := (.pointer (some ⟨b1316, q1317, none⟩))) rfl (fun w' hm' => x_ix Try.underlying29 Try_T46 rfl rfl hix1319) ?_)
            refine QW.cons rfl (QP.val (v := (.pointer (some ⟨b1316, q1317, none⟩))) rfl (fun w' hm' => x_fieldAddr (fsz := 1) q1317 0 q1317 Try.underlying46 rfl Try_T44 rfl rfl rfl) ?_)
            refine QW.cons rfl (QP.val (v := v1318) rfl (fun w' hm' => x_load1 Try.underlying44 rfl rfl ((hL.call hm').cellF 1 rfl hs1320 hc1321)) ?_)
            refine QW.cons rfl (QP.val (v := (.pointer (some ⟨b1309, 1, none⟩))) rfl (fun w' hm' => x_fieldAddr (fsz := 1) 0 1 1 Try.underlying48 rfl Try_T2 rfl rfl rfl) ?_)
            refine QW.cons rfl (QP.val (v := (.int .i64 x1301.Boat)) rfl (fun w' hm' => x_load1 Try.underlying2 rfl rfl ((hL.call hm').cellB 0 rfl rfl)) ?_)
            obtain ⟨x1324, ha1325, hm⟩ := bndE hm
            obtain ⟨hz1326, ha1330⟩ := idxE ha1325
            obtain ⟨b1327, q1328, hix1329⟩ := rdL_ix (hL.rdF 1 rfl hr1322) hz1326 ha1330
            refine QW.cons rfl (QP.val (v := (.pointer (some ⟨b1327, q1328, none⟩))) rfl (fun w' hm' => x_ix Try.underlying44 Try_T50 rfl rfl hix1329) ?_)
            refine QW.cons rfl (QP.val (v := (.pointer (some ⟨b1327, q1328, none⟩))) rfl (fun w' hm' => x_assign) ?_)
            refine QW.nil ?_
            intro wd1331 hmod
            have hL := hL.call hmod
            refine DW.done (by kernel_rfl) ?_
            refine CW.seqJ (fun (s_j5 : Bool) (F : Fr) (w : World) => F 1 = v3 ∧ F 4 = (.pointer (some ⟨b8, 0, none⟩)) ∧ F 5 = (.pointer (some ⟨b10, 0, none⟩)) ∧ F 9 = (.pointer (some ⟨b1309, 0, none⟩)) ∧ F 10 = (.pointer (some ⟨b1327, q1328, none⟩)) ∧ F 36 = v3 ∧ F 37 = (.int .i64 (a1.length : Int)) ∧ F 38 = (.int .i64 s_l2.2) ∧ F 61 = (.bool s_j5) ∧ Hp w0 [Ent.blk b1309 48 #[(.int .i64 x1301.Race), (.int .i64 x1301.Boat), (.int .i64 x1301.Kind), (.int .i64 x1301.Value)], Ent.frzS wz1311 S583, Ent.blk b10 31 #[(.int .i64 a0.Boats), (.int .i64 a0.Scheme), v104], Ent.blk b8 31 #[(.int .i64 0), (.int .i64 0), (.slice none 0 0)], Ent.blk b6 31 #[(.int .i64 a0.Boats), (.int .i64 a0.Scheme), v1], Ent.snap w0 w0.heap.size] w) (fun s_j5 => M.impl_penalizedSeries_j5 s_l2 x1301 x1313 x1324 s_j5 = some t584) ?_ ?_
            · refine CW.regionL ?_
              refine OW.cons (OP.val (v := (.pointer (some ⟨b1309, 2, none⟩))) rfl (x_fieldAddr (fsz := 1) 0 2 2 Try.underlying48 rfl Try_T2 rfl rfl rfl) ?_)
              refine OW.cons (OP.val (v := (.int .i64 x1301.Kind)) rfl (x_load1 Try.underlying2 rfl rfl (hL.cellB 0 rfl rfl)) ?_)
              refine OW.cons (OP.val (v := (.bool (x1301.Kind == 2))) rfl (x_eql rfl rfl) ?_)
              refine OW.cons (OP.val (v := (.bool (x1301.Kind == 2))) rfl (x_move) ?_)
              refine ifB_elim hm (fun hb1351 hm => ?_) (fun hb1351 hm => ?_)
              · refine OW.cons (OP.yes' rfl rfl hb1351 (OP.val (v := (.pointer (some ⟨b1327, q1328, none⟩))) rfl (x_move) ?_))
                refine OW.cons (OP.yes' rfl rfl hb1351 (OP.val (v := (.pointer (some ⟨b1327, q1328, none⟩))) rfl (x_nilCheck rfl) ?_))
                refine OW.cons (OP.yes' rfl rfl hb1351 (OP.val (v := (.pointer (some ⟨b1327, q1328 + 1, none⟩))) rfl (x_fieldAddr (fsz := 1) q1328 1 (q1328 + 1) Try.underlying50 rfl Try_T2 rfl rfl rfl) ?_))
                refine OW.cons (OP.yes' rfl rfl hb1351 (OP.val (v := (.int .i64 x1324.Code)) rfl (x_load1 Try.underlying2 rfl rfl (rdF_cells (hL.rdF 1 rfl hr1322) hix1329 ha1330 1 _ rfl)) ?_))
                refine OW.cons (OP.yes' rfl rfl hb1351 (OP.val (v := (.bool (x1324.Code == 0))) rfl (x_eql rfl rfl) ?_))
                refine OW.cons (OP.val (v := (.bool (x1324.Code == 0))) rfl (x_pickT' rfl hb1351 rfl) ?_)
                refine OW.nil ?_
                exact ⟨x1324.Code == 0, hm, ⟨f1114, f1115, f1116, rfl, rfl, f1117, f1118, f1119, rfl, hL⟩⟩
              · refine OW.cons (OP.no' rfl rfl hb1351 rfl ?_)
                refine OW.cons (OP.no' rfl rfl hb1351 rfl ?_)
                refine OW.cons (OP.no' rfl rfl hb1351 rfl ?_)
                refine OW.cons (OP.no' rfl rfl hb1351 rfl ?_)
                refine OW.cons (OP.no' rfl rfl hb1351 rfl ?_)
                refine OW.cons (OP.val (v := (.bool false)) rfl (x_pickF' rfl hb1351 rfl) ?_)
                refine OW.nil ?_
                exact ⟨false, hm, ⟨f1114, f1115, f1116, rfl, rfl, f1117, f1118, f1119, rfl, hL⟩⟩
            · intro s_j5 F1333 wd1334 hJ hm
              unfold M.impl_penalizedSeries_j5 at hm
              obtain ⟨f1335, f1336, f1337, f1338, f1339, f1340, f1341, f1342, f1343, hL⟩ := hJ
              refine CW.condM (t := s_j5) f1343 hm (fun hb1344 hm => ?_) (fun hb1344 hm => ?_)
              · refine CW.drawH (fun w' => Hp w0 [Ent.blk b1309 48 #[(.int .i64 x1301.Race), (.int .i64 x1301.Boat), (.int .i64 x1301.Kind), (.int .i64 x1301.Value)], Ent.blk b10 31 #[(.int .i64 a0.Boats), (.int .i64 a0.Scheme), v104], Ent.blk b8 31 #[(.int .i64 0), (.int .i64 0), (.slice none 0 0)], Ent.blk b6 31 #[(.int .i64 a0.Boats), (.int .i64 a0.Scheme), v1], Ent.snap w0 w0.heap.size] w') Try_mixed ?_
                have hL := hL.call (Mod.drew _)
                have hS := (hL.sel [0, 2, 3, 4, 5] (by decide) rfl)
                refine DH.take 0 rfl (by kernel_rfl) (by kernel_rfl) (by kernel_rfl) rfl rfl hS (YH.val (v := (.pointer (some ⟨b1327, q1328, none⟩))) (fun w' hS' => x_mv f1339)) ?_
                have hS := (hL.sel [0, 2, 3, 4, 5] (by decide) rfl)
                refine DH.take 1 rfl (by kernel_rfl) (by kernel_rfl) (by kernel_rfl) rfl rfl hS (YH.val (v := (.pointer (some ⟨b1327, q1328, none⟩))) (fun w' hS' => x_mv f1339)) ?_
                have hS := (hL.sel [0, 2, 3, 4, 5] (by decide) rfl)
                refine DH.take 2 rfl (by kernel_rfl) (by kernel_rfl) (by kernel_rfl) rfl rfl hS (YH.val (v := (.pointer (some ⟨b1327, q1328, none⟩))) (fun w' hS' => x_nilCheck rfl)) ?_
                have hS := (hL.sel [0, 2, 3, 4, 5] (by decide) rfl)
                refine DH.take 3 rfl (by kernel_rfl) (by kernel_rfl) (by kernel_rfl) rfl rfl hS (YH.val (v := (.pointer (some ⟨b1327, q1328 + 2, none⟩))) (fun w' hS' => x_fieldAddr (fsz := 1) q1328 2 (q1328 + 2) Try.underlying50 rfl Try_T2 rfl rfl rfl)) ?_
                have hS := (hL.sel [0, 2, 3, 4, 5] (by decide) rfl)
                refine DH.take 5 rfl (by kernel_rfl) (by kernel_rfl) (by kernel_rfl) rfl rfl hS (YH.val (v := (.pointer (some ⟨b1309, 3, none⟩))) (fun w' hS' => x_fieldAddr (fsz := 1) 0 3 3 Try.underlying48 rfl Try_T2 rfl f1338 rfl)) ?_
                have hS := (hL.sel [0, 2, 3, 4, 5] (by decide) rfl)
                refine DH.take 6 rfl (by kernel_rfl) (by kernel_rfl) (by kernel_rfl) rfl rfl hS (YH.val (v := (.int .i64 x1301.Value)) (fun w' hS' => x_load1 Try.underlying2 rfl rfl (hS'.cellB 0 rfl rfl))) ?_
                refine DH.only 4 rfl (by kernel_rfl) (OP.val (v := (.int .i64 x1324.Time)) rfl (x_load1 Try.underlying2 rfl rfl (rdF_cells (hL.rdF 1 rfl hr1322) hix1329 ha1330 2 _ rfl)) ?_)
                refine ⟨(hL.sel [0, 2, 3, 4, 5] (by decide) rfl), ?_⟩
                have hS := (hL.sel [0, 2, 3, 4, 5] (by decide) rfl)
                refine DH.take 7 rfl (by kernel_rfl) (by kernel_rfl) (by kernel_rfl) rfl rfl hS (YH.val (v := (.int .i64 (w64 (x1324.Time + x1301.Value)))) (fun w' hS' => x_add rfl rfl)) ?_
                have hS := (hL.sel [0, 2, 3, 4, 5] (by decide) rfl)
                refine DH.take 8 rfl (by kernel_rfl) (by kernel_rfl) (by kernel_rfl) rfl rfl hS (YH.val (v := (.int .i64 (min 1000000000 (w64 (x1324.Time + x1301.Value))))) (fun w' hS' => x_min2 rfl rfl)) ?_
                have hS := (hL.sel [0, 2, 3, 4, 5] (by decide) rfl)
                refine DH.take 9 rfl (by kernel_rfl) (by kernel_rfl) (by kernel_rfl) rfl rfl hS (YH.val (v := (.pointer (some ⟨b1327, q1328, none⟩))) (fun w' hS' => x_nilCheck rfl)) ?_
                have hS := (hL.sel [0, 2, 3, 4, 5] (by decide) rfl)
                refine DH.take 10 rfl (by kernel_rfl) (by kernel_rfl) (by kernel_rfl) rfl rfl hS (YH.val (v := (.pointer (some ⟨b1327, q1328 + 2, none⟩))) (fun w' hS' => x_fieldAddr (fsz := 1) q1328 2 (q1328 + 2) Try.underlying50 rfl Try_T2 rfl rfl rfl)) ?_
                have hc1349 := hL.cellF 1 rfl hs1320 hc1321
                have hL := hL.thaw 1 rfl ho1312
                simp only [List.set_cons_zero, List.set_cons_succ] at hL
                refine DH.only 11 rfl (by kernel_rfl) (S_inRow (α := Finish) (x1313.Finishes.set (x1301.Boat : Int).toNat (Finish.mk x1324.Boat x1324.Code (min 1000000000 (w64 (x1324.Time + x1301.Value))))) (Race.mk (x1313.Finishes.set (x1301.Boat : Int).toNat (Finish.mk x1324.Boat x1324.Code (min 1000000000 (w64 (x1324.Time + x1301.Value)))))) rfl hL 1 rfl hix1319 ha1323 hc1349 (fun E2 S1 hL hK => S_storeX (j := 2) (Finish.mk x1324.Boat x1324.Code (min 1000000000 (w64 (x1324.Time + x1301.Value)))) hL 0 rfl Try_T2 hix1329 ha1330 rfl rfl rfl rfl rfl rfl hK) ?_)
                intro wd1348 S1350 hL
                simp only [List.set_cons_zero, List.set_cons_succ] at hL
                refine ⟨(hL.sel [0, 2, 3, 4, 5] (by decide) rfl), ?_⟩
                refine DH.done (by kernel_rfl) ?_
                have hL := hL.sel [1, 2, 3, 4, 5] (by decide) rfl
                exact ⟨s_l2.1.set (x1301.Race : Int).toNat (Race.mk (x1313.Finishes.set (x1301.Boat : Int).toNat (Finish.mk x1324.Boat x1324.Code (min 1000000000 (w64 (x1324.Time + x1301.Value)))))), hm, ⟨S1350, f1335, f1336, f1337, f1340, f1341, f1342, hL⟩⟩
              · refine CW.skip ?_
                have hL := hL.thaw 1 rfl ho1312
                have hL := hL.sel [1, 2, 3, 4, 5] (by decide) rfl
                exact ⟨s_l2.1, hm, ⟨S583, f1335, f1336, f1337, f1340, f1341, f1342, hL⟩⟩
          · intro s_j4 F1293 wd1294 hJ hm
            unfold M.impl_penalizedSeries_j4 at hm
            obtain ⟨S1292, f1295, f1296, f1297, f1298, f1299, f1300, hL⟩ := hJ
            exact ⟨s_j4, hm, ⟨S1292, f1295, f1296, f1297, f1298, f1299, f1300, hL⟩⟩
        · intro s_j3 F1233 wd1234 hJ hm
          unfold M.impl_penalizedSeries_j3 at hm
          obtain ⟨S1232, f1235, f1236, f1237, f1238, f1239, f1240, hL⟩ := hJ
          refine CW.regionL ?_
          refine OW.cons (OP.val (v := (.int .i64 (w64 (s_l2.2 + 1)))) rfl (x_add f1240 rfl) ?_)
          refine OW.cons (OP.val (v := (.int .i64 (w64 (s_l2.2 + 1)))) rfl (x_move) ?_)
          refine OW.nil ?_
          obtain rfl := Option.some.inj hm
          exact ⟨_, rfl, ⟨S1232, f1235, f1236, f1237, f1238, f1239, rfl, hL⟩⟩
      · refine CW.exit ?_
        refine XJ.hit ?_
        obtain rfl := Option.some.inj hm
        exact ⟨_, rfl, ⟨S583, f1114, f1115, f1116, f1117, f1118, f1119, hL⟩⟩
  · intro s_l1 F1352 wd1353 t106 hJ hm hr107
    unfold M.impl_penalizedSeries_l1 at hm
    obtain ⟨v104, S105, f1354, f1355, f1356, f1357, f1358, f1359, hL⟩ := hJ
    refine CW.seq ?_
    refine CW.regionL ?_
    refine OW.cons (OP.val (v := (.bool (decide (s_l1.2 < (a0.Races.length : Int))))) rfl (x_lss f1359 f1358) ?_)
    refine OW.nil ?_
    refine CW.seq ?_
    refine CW.condM (t := decide (s_l1.2 < (a0.Races.length : Int))) rfl hm (fun hb1360 hm => ?_) (fun hb1360 hm => ?_)
    · refine CW.skip ?_
      refine CW.seq ?_
      refine CW.block ?_
      refine CW.seq ?_
      refine CW.regionL ?_
      obtain ⟨x1361, ha1362, hm⟩ := bndE hm
      obtain ⟨hz1363, ha1371⟩ := idxE ha1362
      obtain ⟨b1364, q1365, v1366, hix1367, hs1368, hc1369, hr1370⟩ := rdN_at h2 hz1363 ha1371
      refine OW.cons (OP.val (v := (.pointer (some ⟨b1364, q1365, none⟩))) rfl (x_ix Try.underlying29 Try_T46 f1357 f1359 hix1367) ?_)
      refine OW.cons (OP.val (v := (.agg #[v1366])) rfl (x_loadN (cs := [v1366]) Try.underlying46 Try_T46 rfl rfl (by intro j u hj; match j, hj with | 0, hj => (simp at hj; subst hj; exact (hL.cellS 4 rfl hs1368 hc1369)))) ?_)
      refine OW.cons (S_alloc (cs := #[(.slice none 0 0)]) hL Try_T46 rfl rfl ?_)
      intro wd1372 b1373 hL
      refine OW.cons (S_storeN (l := [v1366]) (cs' := #[v1366]) hL 0 rfl Try_T46 rfl rfl (List.forall_mem_cons.2 ⟨rdL_one (hL.rdS 5 rfl hr1370), (fun _ h => by cases h)⟩) rfl (Nat.le_of_ble_eq_true rfl) rfl ?_)
      intro wd1374 hL
      refine OW.nil ?_
      refine CW.drawH (fun w' => Hp w0 [Ent.blk b1373 46 #[v1366], Ent.blk b8 31 #[(.int .i64 0), (.int .i64 0), (.slice none 0 0)], Ent.blk b6 31 #[(.int .i64 a0.Boats), (.int .i64 a0.Scheme), v1], Ent.snap w0 w0.heap.size] w') Try_mixed ?_
      have hL := hL.call (Mod.drew _)
      have hS := (hL.sel [0, 3, 4, 5] (by decide) rfl)
      refine DH.take 0 rfl (by kernel_rfl) (by kernel_rfl) (by kernel_rfl) rfl rfl hS (YH.val (v := (.pointer (some ⟨b10, 2, none⟩))) (fun w' hS' => x_fieldAddr (fsz := 1) 0 2 2 Try.underlying31 rfl Try_T29 rfl f1356 rfl)) ?_
      have hS := (hL.sel [0, 3, 4, 5] (by decide) rfl)
      refine DH.take 3 rfl (by kernel_rfl) (by kernel_rfl) (by kernel_rfl) rfl rfl hS (YH.val (v := (.pointer (some ⟨b1373, 0, none⟩))) (fun w' hS' => x_fieldAddr (fsz := 1) 0 0 0 Try.underlying46 rfl Try_T44 rfl rfl rfl)) ?_
      have hS := (hL.sel [0, 3, 4, 5] (by decide) rfl)
      refine DH.take 4 rfl (by kernel_rfl) (by kernel_rfl) (by kernel_rfl) rfl rfl hS (YH.val (v := v1366) (fun w' hS' => x_load1 Try.underlying44 rfl rfl (hS'.cellB 0 rfl rfl))) ?_
      obtain ⟨hc1396, hm⟩ := chkE hm
      obtain ⟨hc1403, hm⟩ := chkE hm
      refine DH.node (listed' := #[true, true, true, true, true, true, true, true, true, true, true]) (fuel' := 0) (fun (F : Fr) (w : World) => ∃ (v1436 : Value) (S1437 : Nat → Prop), F 1 = v3 ∧ F 4 = (.pointer (some ⟨b8, 0, none⟩)) ∧ F 5 = (.pointer (some ⟨b10, 0, none⟩)) ∧ F 19 = v1 ∧ F 20 = (.int .i64 (a0.Races.length : Int)) ∧ F 21 = (.int .i64 s_l1.2) ∧ Hp w0 [Ent.own 46 S1437 v1436 (s_l1.1 ++ ([(Race.mk (([] : List Finish) ++ x1361.Finishes))] : List Race)), Ent.blk b1373 46 #[v1366], Ent.blk b10 31 #[(.int .i64 a0.Boats), (.int .i64 a0.Scheme), v1436], Ent.blk b8 31 #[(.int .i64 0), (.int .i64 0), (.slice none 0 0)], Ent.blk b6 31 #[(.int .i64 a0.Boats), (.int .i64 a0.Scheme), v1], Ent.snap w0 w0.heap.size] w) ?_ (fun hN1427 => ?_)
      · intro F1452 wd1453 hJ
        obtain ⟨v1436, S1437, f1454, f1455, f1456, f1457, f1458, f1459, hL⟩ := hJ
        refine DH.done (by kernel_rfl) ?_
        refine CW.regionL ?_
        refine OW.cons (OP.val (v := (.int .i64 (w64 (s_l1.2 + 1)))) rfl (x_add f1459 rfl) ?_)
        refine OW.cons (OP.val (v := (.int .i64 (w64 (s_l1.2 + 1)))) rfl (x_move) ?_)
        refine OW.nil ?_
        have hL := hL.sel [0, 2, 3, 4, 5] (by decide) rfl
        obtain rfl := Option.some.inj hm
        exact ⟨_, rfl, ⟨v1436, S1437, f1454, f1455, f1456, f1457, f1458, rfl, hL⟩⟩
      refine DH.node (listed' := #[true, true, true, true, true, true, true, true, true, true, false]) (fuel' := 1) (fun (F : Fr) (w : World) => ∃ (v1438 : Value) (S1439 : Nat → Prop), F 1 = v3 ∧ F 4 = (.pointer (some ⟨b8, 0, none⟩)) ∧ F 5 = (.pointer (some ⟨b10, 0, none⟩)) ∧ F 19 = v1 ∧ F 20 = (.int .i64 (a0.Races.length : Int)) ∧ F 21 = (.int .i64 s_l1.2) ∧ F 33 = v1438 ∧ F 34 = (.pointer (some ⟨b10, 2, none⟩)) ∧ Hp w0 [Ent.own 46 S1439 v1438 (s_l1.1 ++ ([(Race.mk (([] : List Finish) ++ x1361.Finishes))] : List Race)), Ent.blk b1373 46 #[v1366], Ent.blk b10 31 #[(.int .i64 a0.Boats), (.int .i64 a0.Scheme), v104], Ent.blk b8 31 #[(.int .i64 0), (.int .i64 0), (.slice none 0 0)], Ent.blk b6 31 #[(.int .i64 a0.Boats), (.int .i64 a0.Scheme), v1], Ent.snap w0 w0.heap.size] w) ?_ (fun hN1428 => ?_)
      · intro F1460 wd1461 hJ
        obtain ⟨v1438, S1439, f1462, f1463, f1464, f1465, f1466, f1467, f1468, f1469, hL⟩ := hJ
        refine DH.only 10 rfl (by kernel_rfl) (S_store (cs' := #[(.int .i64 a0.Boats), (.int .i64 a0.Scheme), v1438]) hL 2 rfl Try_T29 f1469 (rdL_one (hL.rdO 0 rfl)) f1468 rfl rfl ?_)
        intro wd1470 hL
        refine ⟨(hL.sel [1, 3, 4, 5] (by decide) rfl), ?_⟩
        exact DH.relist (listed' := #[true, true, true, true, true, true, true, true, true, true, true]) (by kernel_rfl) (hN1427 _ _ ⟨v1438, S1439, f1462, f1463, f1464, f1465, f1466, f1467, hL⟩)
      refine DH.node (listed' := #[true, true, true, true, true, true, true, true, false, false, false]) (fuel' := 3) (fun (F : Fr) (w : World) => ∃ (v1440 : Value) (S1441 : Nat → Prop), F 1 = v3 ∧ F 4 = (.pointer (some ⟨b8, 0, none⟩)) ∧ F 5 = (.pointer (some ⟨b10, 0, none⟩)) ∧ F 19 = v1 ∧ F 20 = (.int .i64 (a0.Races.length : Int)) ∧ F 21 = (.int .i64 s_l1.2) ∧ F 26 = v104 ∧ F 32 = v1440 ∧ Hp w0 [Ent.own 46 S1441 v1440 ([(Race.mk (([] : List Finish) ++ x1361.Finishes))] : List Race), Ent.blk b1373 46 #[v1366], Ent.own 46 S105 v104 s_l1.1, Ent.blk b10 31 #[(.int .i64 a0.Boats), (.int .i64 a0.Scheme), v104], Ent.blk b8 31 #[(.int .i64 0), (.int .i64 0), (.slice none 0 0)], Ent.blk b6 31 #[(.int .i64 a0.Boats), (.int .i64 a0.Scheme), v1], Ent.snap w0 w0.heap.size] w) ?_ (fun hN1429 => ?_)
      · intro F1471 wd1472 hJ
        obtain ⟨v1440, S1441, f1473, f1474, f1475, f1476, f1477, f1478, f1479, f1480, hL⟩ := hJ
        have hL := hL.sel [2, 0, 1, 3, 4, 5, 6] (by decide) rfl
        refine DH.only 8 rfl (by kernel_rfl) (S_appendN Finish hL Try.underlying29 Try_T46 rfl f1479 f1480 hc1403 (by decide) rfl ?_)
        intro wd1481 v1482 S1483 hL
        refine ⟨(hL.sel [1, 3, 4, 5] (by decide) rfl), ?_⟩
        have hS := (hL.sel [1, 3, 4, 5] (by decide) rfl)
        refine DH.take 9 rfl (by kernel_rfl) (by kernel_rfl) (by kernel_rfl) rfl rfl hS (YH.val (v := (.pointer (some ⟨b10, 2, none⟩))) (fun w' hS' => x_fieldAddr (fsz := 1) 0 2 2 Try.underlying31 rfl Try_T29 rfl f1475 rfl)) ?_
        exact DH.relist (listed' := #[true, true, true, true, true, true, true, true, true, true, false]) (by kernel_rfl) (hN1428 _ _ ⟨v1482, S1483, f1473, f1474, f1475, f1476, f1477, f1478, rfl, rfl, hL⟩)
      refine DH.node (listed' := #[true, true, true, true, true, true, true, false, false, false, false]) (fuel' := 4) (fun (F : Fr) (w : World) => ∃ (v1442 : Value) (S1443 : Nat → Prop), F 1 = v3 ∧ F 4 = (.pointer (some ⟨b8, 0, none⟩)) ∧ F 5 = (.pointer (some ⟨b10, 0, none⟩)) ∧ F 19 = v1 ∧ F 20 = (.int .i64 (a0.Races.length : Int)) ∧ F 21 = (.int .i64 s_l1.2) ∧ F 26 = v104 ∧ F 31 = (.agg #[v1442]) ∧ Hp w0 [Ent.own 50 S1443 v1442 (([] : List Finish) ++ x1361.Finishes), Ent.blk b1373 46 #[v1366], Ent.own 46 S105 v104 s_l1.1, Ent.blk b10 31 #[(.int .i64 a0.Boats), (.int .i64 a0.Scheme), v104], Ent.blk b8 31 #[(.int .i64 0), (.int .i64 0), (.slice none 0 0)], Ent.blk b6 31 #[(.int .i64 a0.Boats), (.int .i64 a0.Scheme), v1], Ent.snap w0 w0.heap.size] w) ?_ (fun hN1430 => ?_)
      · intro F1484 wd1485 hJ
        obtain ⟨v1442, S1443, f1486, f1487, f1488, f1489, f1490, f1491, f1492, f1493, hL⟩ := hJ
        refine DH.only 7 rfl (by kernel_rfl) (S_lit1 (Race.mk (([] : List Finish) ++ x1361.Finishes)) rfl hL Try.underlying29 Try_T46 ((congrArg Value.cells f1493).trans rfl) rfl ?_)
        intro wd1494 v1495 S1496 hL
        refine ⟨(hL.sel [1, 4, 5, 6] (by decide) rfl), ?_⟩
        exact DH.relist (listed' := #[true, true, true, true, true, true, true, true, false, false, false]) (by kernel_rfl) (hN1429 _ _ ⟨v1495, S1496, f1486, f1487, f1488, f1489, f1490, f1491, f1492, rfl, hL⟩)
      refine DH.node (listed' := #[true, false, true, true, true, true, true, true, false, false, false]) (fuel' := 4) (fun (F : Fr) (w : World) => ∃ (v1444 : Value) (S1445 : Nat → Prop), F 1 = v3 ∧ F 4 = (.pointer (some ⟨b8, 0, none⟩)) ∧ F 5 = (.pointer (some ⟨b10, 0, none⟩)) ∧ F 19 = v1 ∧ F 20 = (.int .i64 (a0.Races.length : Int)) ∧ F 21 = (.int .i64 s_l1.2) ∧ F 25 = (.pointer (some ⟨b10, 2, none⟩)) ∧ F 32 = v1444 ∧ Hp w0 [Ent.own 46 S1445 v1444 ([(Race.mk (([] : List Finish) ++ x1361.Finishes))] : List Race), Ent.blk b1373 46 #[v1366], Ent.own 46 S105 v104 s_l1.1, Ent.blk b10 31 #[(.int .i64 a0.Boats), (.int .i64 a0.Scheme), v104], Ent.blk b8 31 #[(.int .i64 0), (.int .i64 0), (.slice none 0 0)], Ent.blk b6 31 #[(.int .i64 a0.Boats), (.int .i64 a0.Scheme), v1], Ent.snap w0 w0.heap.size] w) ?_ (fun hN1431 => ?_)
      · intro F1497 wd1498 hJ
        obtain ⟨v1444, S1445, f1499, f1500, f1501, f1502, f1503, f1504, f1505, f1506, hL⟩ := hJ
        refine DH.only 1 rfl (by kernel_rfl) (OP.val (v := v104) rfl (x_load1 Try.underlying29 rfl f1505 (hL.cellB 3 rfl rfl)) ?_)
        refine ⟨(hL.sel [1, 4, 5, 6] (by decide) rfl), ?_⟩
        exact DH.relist (listed' := #[true, true, true, true, true, true, true, true, false, false, false]) (by kernel_rfl) (hN1429 _ _ ⟨v1444, S1445, f1499, f1500, f1501, f1502, f1503, f1504, rfl, f1506, hL⟩)
      refine DH.node (listed' := #[true, false, true, true, true, true, true, false, false, false, false]) (fuel' := 5) (fun (F : Fr) (w : World) => ∃ (v1446 : Value) (S1447 : Nat → Prop), F 1 = v3 ∧ F 4 = (.pointer (some ⟨b8, 0, none⟩)) ∧ F 5 = (.pointer (some ⟨b10, 0, none⟩)) ∧ F 19 = v1 ∧ F 20 = (.int .i64 (a0.Races.length : Int)) ∧ F 21 = (.int .i64 s_l1.2) ∧ F 25 = (.pointer (some ⟨b10, 2, none⟩)) ∧ F 31 = (.agg #[v1446]) ∧ Hp w0 [Ent.own 50 S1447 v1446 (([] : List Finish) ++ x1361.Finishes), Ent.blk b1373 46 #[v1366], Ent.own 46 S105 v104 s_l1.1, Ent.blk b10 31 #[(.int .i64 a0.Boats), (.int .i64 a0.Scheme), v104], Ent.blk b8 31 #[(.int .i64 0), (.int .i64 0), (.slice none 0 0)], Ent.blk b6 31 #[(.int .i64 a0.Boats), (.int .i64 a0.Scheme), v1], Ent.snap w0 w0.heap.size] w) ?_ (fun hN1432 => ?_)
      · intro F1507 wd1508 hJ
        obtain ⟨v1446, S1447, f1509, f1510, f1511, f1512, f1513, f1514, f1515, f1516, hL⟩ := hJ
        refine DH.all (rs := [1, 7]) (by kernel_rfl) (by simp) ?_
        intro i1517 hi1518
        simp only [List.mem_cons, List.not_mem_nil, or_false] at hi1518
        rcases hi1518 with rfl | rfl
        · refine ⟨_, rfl, ?_⟩
          refine OP.val (v := v104) rfl (x_load1 Try.underlying29 rfl f1515 (hL.cellB 3 rfl rfl)) ?_
          refine ⟨(hL.sel [1, 4, 5, 6] (by decide) rfl), ?_⟩
          exact DH.relist (listed' := #[true, true, true, true, true, true, true, false, false, false, false]) (by kernel_rfl) (hN1430 _ _ ⟨v1446, S1447, f1509, f1510, f1511, f1512, f1513, f1514, rfl, f1516, hL⟩)
        · refine ⟨_, rfl, ?_⟩
          refine S_lit1 (Race.mk (([] : List Finish) ++ x1361.Finishes)) rfl hL Try.underlying29 Try_T46 ((congrArg Value.cells f1516).trans rfl) rfl ?_
          intro wd1519 v1520 S1521 hL
          refine ⟨(hL.sel [1, 4, 5, 6] (by decide) rfl), ?_⟩
          exact DH.relist (listed' := #[true, false, true, true, true, true, true, true, false, false, false]) (by kernel_rfl) (hN1431 _ _ ⟨v1520, S1521, f1509, f1510, f1511, f1512, f1513, f1514, f1515, rfl, hL⟩)
      refine DH.node (listed' := #[true, true, true, true, true, false, false, false, false, false, false]) (fuel' := 6) (fun (F : Fr) (w : World) => ∃ (v1448 : Value) (S1449 : Nat → Prop), F 1 = v3 ∧ F 4 = (.pointer (some ⟨b8, 0, none⟩)) ∧ F 5 = (.pointer (some ⟨b10, 0, none⟩)) ∧ F 19 = v1 ∧ F 20 = (.int .i64 (a0.Races.length : Int)) ∧ F 21 = (.int .i64 s_l1.2) ∧ F 26 = v104 ∧ F 27 = v1448 ∧ F 29 = v1366 ∧ Hp w0 [Ent.own 50 S1449 v1448 ([] : List Finish), Ent.blk b1373 46 #[v1366], Ent.own 46 S105 v104 s_l1.1, Ent.blk b10 31 #[(.int .i64 a0.Boats), (.int .i64 a0.Scheme), v104], Ent.blk b8 31 #[(.int .i64 0), (.int .i64 0), (.slice none 0 0)], Ent.blk b6 31 #[(.int .i64 a0.Boats), (.int .i64 a0.Scheme), v1], Ent.snap w0 w0.heap.size] w) ?_ (fun hN1433 => ?_)
      · intro F1522 wd1523 hJ
        obtain ⟨v1448, S1449, f1524, f1525, f1526, f1527, f1528, f1529, f1530, f1531, f1532, hL⟩ := hJ
        refine DH.only 5 rfl (by kernel_rfl) (S_append (ys := x1361.Finishes) hL 0 rfl Try.underlying44 Try_T50 rfl f1531 f1532 (hL.rdS 6 rfl hr1370) hc1396 (by decide) rfl ?_)
        intro wd1533 v1534 S1535 hL
        refine ⟨(hL.sel [1, 4, 5, 6] (by decide) rfl), ?_⟩
        have hS := (hL.sel [1, 4, 5, 6] (by decide) rfl)
        refine DH.take 6 rfl (by kernel_rfl) (by kernel_rfl) (by kernel_rfl) rfl rfl hS (YH.val (v := (.agg #[v1534])) (fun w' hS' => x_build Try_B46 (ps := [(0, v1534)]) ⟨⟨rfl, rfl⟩, trivial⟩ (by simp [Instr.fill, cells_int, cells_bool, cells_string, cells_agg, cells_slice, cells_pointer, (rdL_cells (hL.rdO 0 rfl))]))) ?_
        exact DH.relist (listed' := #[true, true, true, true, true, true, true, false, false, false, false]) (by kernel_rfl) (hN1430 _ _ ⟨v1534, S1535, f1524, f1525, f1526, f1527, f1528, f1529, f1530, rfl, hL⟩)
      refine DH.node (listed' := #[true, true, false, true, true, false, false, false, false, false, false]) (fuel' := 7) (fun (F : Fr) (w : World) => F 1 = v3 ∧ F 4 = (.pointer (some ⟨b8, 0, none⟩)) ∧ F 5 = (.pointer (some ⟨b10, 0, none⟩)) ∧ F 19 = v1 ∧ F 20 = (.int .i64 (a0.Races.length : Int)) ∧ F 21 = (.int .i64 s_l1.2) ∧ F 26 = v104 ∧ F 29 = v1366 ∧ Hp w0 [Ent.blk b1373 46 #[v1366], Ent.own 46 S105 v104 s_l1.1, Ent.blk b10 31 #[(.int .i64 a0.Boats), (.int .i64 a0.Scheme), v104], Ent.blk b8 31 #[(.int .i64 0), (.int .i64 0), (.slice none 0 0)], Ent.blk b6 31 #[(.int .i64 a0.Boats), (.int .i64 a0.Scheme), v1], Ent.snap w0 w0.heap.size] w) ?_ (fun hN1434 => ?_)
      · intro F1536 wd1537 hJ
        obtain ⟨f1538, f1539, f1540, f1541, f1542, f1543, f1544, f1545, hL⟩ := hJ
        refine DH.only 2 rfl (by kernel_rfl) (S_lit ([] : List Finish) hL Try.underlying44 Try_T50 rfl (by decide) (by first | (simp [Instr.fill, madeCells, Value.cells, ev, upd, Flat.enc, Flat.sz]; done) | rfl | kernel_rfl) rfl rfl ?_)
        intro wd1546 v1547 S1548 hL
        refine ⟨(hL.sel [1, 4, 5, 6] (by decide) rfl), ?_⟩
        exact DH.relist (listed' := #[true, true, true, true, true, false, false, false, false, false, false]) (by kernel_rfl) (hN1433 _ _ ⟨v1547, S1548, f1538, f1539, f1540, f1541, f1542, f1543, f1544, rfl, f1545, hL⟩)
      refine DH.node (listed' := #[true, false, true, true, true, false, false, false, false, false, false]) (fuel' := 7) (fun (F : Fr) (w : World) => ∃ (v1450 : Value) (S1451 : Nat → Prop), F 1 = v3 ∧ F 4 = (.pointer (some ⟨b8, 0, none⟩)) ∧ F 5 = (.pointer (some ⟨b10, 0, none⟩)) ∧ F 19 = v1 ∧ F 20 = (.int .i64 (a0.Races.length : Int)) ∧ F 21 = (.int .i64 s_l1.2) ∧ F 25 = (.pointer (some ⟨b10, 2, none⟩)) ∧ F 27 = v1450 ∧ F 29 = v1366 ∧ Hp w0 [Ent.own 50 S1451 v1450 ([] : List Finish), Ent.blk b1373 46 #[v1366], Ent.own 46 S105 v104 s_l1.1, Ent.blk b10 31 #[(.int .i64 a0.Boats), (.int .i64 a0.Scheme), v104], Ent.blk b8 31 #[(.int .i64 0), (.int .i64 0), (.slice none 0 0)], Ent.blk b6 31 #[(.int .i64 a0.Boats), (.int .i64 a0.Scheme), v1], Ent.snap w0 w0.heap.size] w) ?_ (fun hN1435 => ?_)
      · intro F1549 wd1550 hJ
        obtain ⟨v1450, S1451, f1551, f1552, f1553, f1554, f1555, f1556, f1557, f1558, f1559, hL⟩ := hJ
        refine DH.all (rs := [1, 5]) (by kernel_rfl) (by simp) ?_
        intro i1560 hi1561
        simp only [List.mem_cons, List.not_mem_nil, or_false] at hi1561
        rcases hi1561 with rfl | rfl
        · refine ⟨_, rfl, ?_⟩
          refine OP.val (v := v104) rfl (x_load1 Try.underlying29 rfl f1557 (hL.cellB 3 rfl rfl)) ?_
          refine ⟨(hL.sel [1, 4, 5, 6] (by decide) rfl), ?_⟩
          exact DH.relist (listed' := #[true, true, true, true, true, false, false, false, false, false, false]) (by kernel_rfl) (hN1433 _ _ ⟨v1450, S1451, f1551, f1552, f1553, f1554, f1555, f1556, rfl, f1558, f1559, hL⟩)
        · refine ⟨_, rfl, ?_⟩
          refine S_append (ys := x1361.Finishes) hL 0 rfl Try.underlying44 Try_T50 rfl f1558 f1559 (hL.rdS 6 rfl hr1370) hc1396 (by decide) rfl ?_
          intro wd1562 v1563 S1564 hL
          refine ⟨(hL.sel [1, 4, 5, 6] (by decide) rfl), ?_⟩
          have hS := (hL.sel [1, 4, 5, 6] (by decide) rfl)
          refine DH.take 6 rfl (by kernel_rfl) (by kernel_rfl) (by kernel_rfl) rfl rfl hS (YH.val (v := (.agg #[v1563])) (fun w' hS' => x_build Try_B46 (ps := [(0, v1563)]) ⟨⟨rfl, rfl⟩, trivial⟩ (by simp [Instr.fill, cells_int, cells_bool, cells_string, cells_agg, cells_slice, cells_pointer, (rdL_cells (hL.rdO 0 rfl))]))) ?_
          exact DH.relist (listed' := #[true, false, true, true, true, true, true, false, false, false, false]) (by kernel_rfl) (hN1432 _ _ ⟨v1563, S1564, f1551, f1552, f1553, f1554, f1555, f1556, f1557, rfl, hL⟩)
      refine DH.all (rs := [1, 2]) (by kernel_rfl) (by simp) ?_
      intro i1565 hi1566
      simp only [List.mem_cons, List.not_mem_nil, or_false] at hi1566
      rcases hi1566 with rfl | rfl
      · refine ⟨_, rfl, ?_⟩
        refine OP.val (v := v104) rfl (x_load1 Try.underlying29 rfl rfl (hL.cellB 2 rfl rfl)) ?_
        refine ⟨(hL.sel [0, 3, 4, 5] (by decide) rfl), ?_⟩
        exact DH.relist (listed' := #[true, true, false, true, true, false, false, false, false, false, false]) (by kernel_rfl) (hN1434 _ _ ⟨f1354, f1355, f1356, f1357, f1358, f1359, rfl, rfl, hL⟩)
      · refine ⟨_, rfl, ?_⟩
        refine S_lit ([] : List Finish) hL Try.underlying44 Try_T50 rfl (by decide) (by first | (simp [Instr.fill, madeCells, Value.cells, ev, upd, Flat.enc, Flat.sz]; done) | rfl | kernel_rfl) rfl rfl ?_
        intro wd1567 v1568 S1569 hL
        refine ⟨(hL.sel [1, 4, 5, 6] (by decide) rfl), ?_⟩
        exact DH.relist (listed' := #[true, false, true, true, true, false, false, false, false, false, false]) (by kernel_rfl) (hN1435 _ _ ⟨v1568, S1569, f1354, f1355, f1356, f1357, f1358, f1359, rfl, rfl, rfl, hL⟩)
    · refine CW.exit ?_
      refine XJ.hit ?_
      obtain rfl := Option.some.inj hm
      exact ⟨_, rfl, ⟨v104, S105, f1354, f1355, f1356, f1357, f1358, f1359, hL⟩⟩

theorem M.impl_PenalizedSeries_ok (w0 : World) (a0 : Series) {v1 : Value} (h2 : rdL (· < w0.heap.size) w0 v1 a0.Races) (a1 : List Penalty) {v3 : Value} (h4 : rdL (· < w0.heap.size) w0 v3 a1) {r : Series × Int} (hm : M.impl_PenalizedSeries a0 a1 = some r) :
    Calls Try.prog 18 #[(.agg #[(.int .i64 a0.Boats), (.int .i64 a0.Scheme), v1]), v3] w0 fun e w' => ∃ (rv0 : Value) (rS0 : Nat → Prop), e = .returned (.tuple #[(.agg #[(.int .i64 r.1.Boats), (.int .i64 r.1.Scheme), rv0]), (.int .i64 r.2)]) ∧ Fresh w0 w' [Ent.own 46 rS0 rv0 r.1.Races] := by
  unfold M.impl_PenalizedSeries at hm
  refine calls_CW (args := [(.agg #[(.int .i64 a0.Boats), (.int .i64 a0.Scheme), v1]), v3]) Try.func18 rfl rfl rfl ?_
  have hL := Hp.start w0
  refine CW.seq ?_
  refine CW.regionL ?_
  refine OW.cons (S_box (cs := #[(.int .i64 a0.Boats), (.int .i64 a0.Scheme), v1]) hL rfl rfl rfl ?_)
  intro wd5 b6 hL
  refine OW.cons (S_alloc (cs := #[(.int .i64 0), (.int .i64 0), (.slice none 0 0)]) hL Try_T31 rfl rfl ?_)
  intro wd7 b8 hL
  refine OW.cons (OP.val (v := (.int .i64 0)) rfl (x_assign) ?_)
  refine OW.nil ?_
  refine CW.seq ?_
  refine CW.seq ?_
  refine CW.regionL ?_
  refine OW.cons (OP.val (v := (.agg #[(.int .i64 a0.Boats), (.int .i64 a0.Scheme), v1])) rfl (x_loadN (cs := [(.int .i64 a0.Boats), (.int .i64 a0.Scheme), v1]) Try.underlying31 Try_T31 rfl rfl (hL.cellsB 1 rfl (o := 0) (l := [(.int .i64 a0.Boats), (.int .i64 a0.Scheme), v1]) (by intro j u hj; exact (by simpa using hj)))) ?_)
  refine OW.cons (OP.val (v := v3) rfl (x_move) ?_)
  obtain ⟨x9, hx10, hm⟩ := bndE hm
  refine OW.cons (OP.call rfl (x_call (vs := [(.agg #[(.int .i64 a0.Boats), (.int .i64 a0.Scheme), v1]), v3]) Try_C43 ⟨rfl, rfl, trivial⟩) (M.impl_penaltyCode_ok _ a0 (hL.rdS 2 rfl h2) a1 (hL.rdS 2 rfl h4) hx10) ?_)
  rintro e11 wd12 ⟨rfl, hF13⟩
  refine ⟨_, rfl, ?_⟩
  have hL := hL.pushAll hF13
  simp only [List.cons_append, List.nil_append, List.set_cons_zero, List.set_cons_succ] at hL
  refine OW.cons (OP.val (v := (.int .i64 x9)) rfl (x_assign) ?_)
  refine OW.nil ?_
  refine CW.seq ?_
  refine CW.regionL ?_
  refine OW.cons (OP.val (v := (.int .i64 x9)) rfl (x_move) ?_)
  refine OW.cons (OP.val (v := (.bool (x9 != 0))) rfl (x_neq rfl rfl) ?_)
  refine OW.nil ?_
  refine CW.condM (t := x9 != 0) rfl hm (fun hb14 hm => ?_) (fun hb14 hm => ?_)
  · refine CW.seq ?_
    refine CW.regionL ?_
    refine OW.cons (OP.val (v := (.agg #[(.int .i64 0), (.int .i64 0), (.slice none 0 0)])) rfl (x_build Try_B31 (ps := []) trivial (by simp [Instr.fill, cells_int, cells_bool, cells_string, cells_agg, cells_slice, cells_pointer])) ?_)
    refine OW.cons (OP.val (v := (.int .i64 x9)) rfl (x_move) ?_)
    refine OW.cons (S_storeN (l := [(.int .i64 0), (.int .i64 0), (.slice none 0 0)]) (cs' := #[(.int .i64 0), (.int .i64 0), (.slice none 0 0)]) hL 0 rfl Try_T31 rfl rfl (List.forall_mem_cons.2 ⟨rfl, (List.forall_mem_cons.2 ⟨rfl, (List.forall_mem_cons.2 ⟨rfl, (fun _ h => by cases h)⟩)⟩)⟩) rfl (Nat.le_of_ble_eq_true rfl) rfl ?_)
    intro wd15 hL
    refine OW.cons (OP.val (v := (.int .i64 x9)) rfl (x_assign) ?_)
    refine OW.nil ?_
    refine CW.ret ?_
    have hL := hL.pushNil Race 46
    obtain rfl := Option.some.inj hm
    exact RRct rfl rfl (run_loadBlk Try.underlying31 Try_T31 (hL.get 1 rfl) rfl) rfl ⟨(.slice none 0 0), None_, rfl, hL.fresh 3 rfl [0] (by decide) (by decide) rfl⟩
  · refine CW.skip ?_
    refine CW.seq ?_
    refine CW.regionL ?_
    refine OW.cons (OP.val (v := (.agg #[(.int .i64 a0.Boats), (.int .i64 a0.Scheme), v1])) rfl (x_loadN (cs := [(.int .i64 a0.Boats), (.int .i64 a0.Scheme), v1]) Try.underlying31 Try_T31 rfl rfl (hL.cellsB 1 rfl (o := 0) (l := [(.int .i64 a0.Boats), (.int .i64 a0.Scheme), v1]) (by intro j u hj; exact (by simpa using hj)))) ?_)
    refine OW.cons (OP.val (v := v3) rfl (x_move) ?_)
    obtain ⟨x16, hx17, hm⟩ := bndE hm
    refine OW.cons (OP.call rfl (x_call (vs := [(.agg #[(.int .i64 a0.Boats), (.int .i64 a0.Scheme), v1]), v3]) Try_C44 ⟨rfl, rfl, trivial⟩) (M.impl_penalizedSeries_ok _ a0 (hL.rdS 2 rfl h2) a1 (hL.rdS 2 rfl h4) hx17) ?_)
    rintro e20 wd21 ⟨v19, S18, rfl, hF22⟩
    refine ⟨_, rfl, ?_⟩
    have hL := hL.pushAll hF22
    simp only [List.cons_append, List.nil_append, List.set_cons_zero, List.set_cons_succ] at hL
    refine OW.cons (S_storeN (l := [(.int .i64 x16.Boats), (.int .i64 x16.Scheme), v19]) (cs' := #[(.int .i64 x16.Boats), (.int .i64 x16.Scheme), v19]) hL 1 rfl Try_T31 rfl rfl (List.forall_mem_cons.2 ⟨rfl, (List.forall_mem_cons.2 ⟨rfl, (List.forall_mem_cons.2 ⟨rdL_one (hL.rdO 0 rfl), (fun _ h => by cases h)⟩)⟩)⟩) rfl (Nat.le_of_ble_eq_true rfl) rfl ?_)
    intro wd23 hL
    refine OW.cons (OP.val (v := (.int .i64 0)) rfl (x_assign) ?_)
    refine OW.nil ?_
    refine CW.ret ?_
    obtain rfl := Option.some.inj hm
    exact RRct rfl rfl (run_loadBlk Try.underlying31 Try_T31 (hL.get 1 rfl) rfl) rfl ⟨v19, S18, rfl, hL.fresh 3 rfl [0] (by decide) (by decide) rfl⟩

theorem M.spec_l21Result_ok (w0 : World) (a0 : Series) {v1 : Value} (h2 : rdL (· < w0.heap.size) w0 v1 a0.Races) (a1 : List Penalty) {v3 : Value} (h4 : rdL (· < w0.heap.size) w0 v3 a1) {r : Int} (hm : M.spec_l21Result a0 a1 = some r) :
    Calls Try.prog 45 #[(.agg #[(.int .i64 a0.Boats), (.int .i64 a0.Scheme), v1]), v3] w0 fun e w' => e = .returned (.int .i64 r) ∧ Fresh w0 w' [] := by
  unfold M.spec_l21Result at hm
  refine calls_CW (args := [(.agg #[(.int .i64 a0.Boats), (.int .i64 a0.Scheme), v1]), v3]) Try.func45 rfl rfl rfl ?_
  have hL := Hp.start w0
  refine CW.seq ?_
  refine CW.regionL ?_
  refine OW.cons (S_box (cs := #[(.int .i64 a0.Boats), (.int .i64 a0.Scheme), v1]) hL rfl rfl rfl ?_)
  intro wd5 b6 hL
  refine OW.cons (OP.val (v := (.int .i64 0)) rfl (x_assign) ?_)
  refine OW.nil ?_
  refine CW.seq ?_
  refine CW.seq ?_
  refine CW.regionL ?_
  refine OW.cons (OP.val (v := (.agg #[(.int .i64 a0.Boats), (.int .i64 a0.Scheme), v1])) rfl (x_loadN (cs := [(.int .i64 a0.Boats), (.int .i64 a0.Scheme), v1]) Try.underlying31 Try_T31 rfl rfl (hL.cellsB 0 rfl (o := 0) (l := [(.int .i64 a0.Boats), (.int .i64 a0.Scheme), v1]) (by intro j u hj; exact (by simpa using hj)))) ?_)
  obtain ⟨x7, hx8, hm⟩ := bndE hm
  refine OW.cons (OP.call rfl (x_call (vs := [(.agg #[(.int .i64 a0.Boats), (.int .i64 a0.Scheme), v1])]) Try_C34 ⟨rfl, trivial⟩) (M.spec_IsSeries_ok _ a0 (hL.rdS 1 rfl h2) hx8) ?_)
  rintro e9 wd10 ⟨rfl, hF11⟩
  refine ⟨_, rfl, ?_⟩
  have hL := hL.pushAll hF11
  simp only [List.cons_append, List.nil_append, List.set_cons_zero, List.set_cons_succ] at hL
  refine OW.cons (OP.val (v := (.bool (!x7))) rfl (x_not rfl) ?_)
  refine OW.nil ?_
  refine CW.condM (t := !x7) rfl hm (fun hb12 hm => ?_) (fun hb12 hm => ?_)
  · refine CW.seq ?_
    refine CW.regionL ?_
    refine OW.cons (OP.val (v := (.int .i64 1)) rfl (x_assign) ?_)
    refine OW.nil ?_
    refine CW.ret ?_
    obtain rfl := Option.some.inj hm
    exact RR1 rfl rfl ⟨rfl, hL.fresh 1 rfl [] (by decide) (by decide) rfl⟩
  · refine CW.skip ?_
    refine CW.seq ?_
    refine CW.seq ?_
    refine CW.regionL ?_
    refine OW.cons (OP.val (v := (.agg #[(.int .i64 a0.Boats), (.int .i64 a0.Scheme), v1])) rfl (x_loadN (cs := [(.int .i64 a0.Boats), (.int .i64 a0.Scheme), v1]) Try.underlying31 Try_T31 rfl rfl (hL.cellsB 0 rfl (o := 0) (l := [(.int .i64 a0.Boats), (.int .i64 a0.Scheme), v1]) (by intro j u hj; exact (by simpa using hj)))) ?_)
    refine OW.cons (OP.val (v := v3) rfl (x_move) ?_)
    obtain ⟨x13, hx14, hm⟩ := bndE hm
    refine OW.cons (OP.call rfl (x_call (vs := [(.agg #[(.int .i64 a0.Boats), (.int .i64 a0.Scheme), v1]), v3]) Try_C35 ⟨rfl, rfl, trivial⟩) (M.spec_l21Valid_ok _ a0 (hL.rdS 1 rfl h2) a1 (hL.rdS 1 rfl h4) hx14) ?_)
    rintro e15 wd16 ⟨rfl, hF17⟩
    refine ⟨_, rfl, ?_⟩
    have hL := hL.pushAll hF17
    simp only [List.cons_append, List.nil_append, List.set_cons_zero, List.set_cons_succ] at hL
    refine OW.cons (OP.val (v := (.bool (!x13))) rfl (x_not rfl) ?_)
    refine OW.nil ?_
    refine CW.condM (t := !x13) rfl hm (fun hb18 hm => ?_) (fun hb18 hm => ?_)
    · refine CW.seq ?_
      refine CW.regionL ?_
      refine OW.cons (OP.val (v := (.int .i64 2)) rfl (x_assign) ?_)
      refine OW.nil ?_
      refine CW.ret ?_
      obtain rfl := Option.some.inj hm
      exact RR1 rfl rfl ⟨rfl, hL.fresh 1 rfl [] (by decide) (by decide) rfl⟩
    · refine CW.skip ?_
      refine CW.seq ?_
      refine CW.regionL ?_
      refine OW.cons (OP.val (v := (.int .i64 0)) rfl (x_assign) ?_)
      refine OW.nil ?_
      refine CW.ret ?_
      obtain rfl := Option.some.inj hm
      exact RR1 rfl rfl ⟨rfl, hL.fresh 1 rfl [] (by decide) (by decide) rfl⟩

theorem M.spec_l26Done_ok (w0 : World) (a0 : Finish) {r : Bool} (hm : M.spec_l26Done a0 = some r) :
    Calls Try.prog 70 #[(.agg #[(.int .i64 a0.Boat), (.int .i64 a0.Code), (.int .i64 a0.Time)])] w0 fun e w' => e = .returned (.bool r) ∧ Fresh w0 w' [] := by
  unfold M.spec_l26Done at hm
  refine calls_CW (args := [(.agg #[(.int .i64 a0.Boat), (.int .i64 a0.Code), (.int .i64 a0.Time)])]) Try.func70 rfl rfl rfl ?_
  have hL := Hp.start w0
  refine CW.seq ?_
  refine CW.regionL ?_
  refine OW.cons (S_box (cs := #[(.int .i64 a0.Boat), (.int .i64 a0.Code), (.int .i64 a0.Time)]) hL rfl rfl rfl ?_)
  intro wd1 b2 hL
  refine OW.cons (OP.val (v := (.bool false)) rfl (x_assign) ?_)
  refine OW.nil ?_
  refine CW.seq ?_
  refine CW.regionL ?_
  refine OW.cons (OP.val (v := (.pointer (some ⟨b2, 1, none⟩))) rfl (x_fieldAddr (fsz := 1) 0 1 1 Try.underlying50 rfl Try_T2 rfl rfl rfl) ?_)
  refine OW.cons (OP.val (v := (.int .i64 a0.Code)) rfl (x_load1 Try.underlying2 rfl rfl (hL.cellB 0 rfl rfl)) ?_)
  refine OW.cons (OP.val (v := (.bool (a0.Code == 0))) rfl (x_eql rfl rfl) ?_)
  refine OW.cons (OP.val (v := (.bool (a0.Code == 0))) rfl (x_assign) ?_)
  refine OW.nil ?_
  refine CW.ret ?_
  obtain rfl := Option.some.inj hm
  exact RR1 rfl rfl ⟨rfl, hL.fresh 1 rfl [] (by decide) (by decide) rfl⟩

theorem M.spec_l21Series_ok (w0 : World) (a0 : Series) {v1 : Value} (h2 : rdL (· < w0.heap.size) w0 v1 a0.Races) (a1 : List Penalty) {v3 : Value} (h4 : rdL (· < w0.heap.size) w0 v3 a1) {r : Series} (hm : M.spec_l21Series a0 a1 = some r) :
    Calls Try.prog 46 #[(.agg #[(.int .i64 a0.Boats), (.int .i64 a0.Scheme), v1]), v3] w0 fun e w' => ∃ (rv0 : Value) (rS0 : Nat → Prop), e = .returned (.agg #[(.int .i64 r.Boats), (.int .i64 r.Scheme), rv0]) ∧ Fresh w0 w' [Ent.own 46 rS0 rv0 r.Races] := by
  unfold M.spec_l21Series at hm
  refine calls_CW (args := [(.agg #[(.int .i64 a0.Boats), (.int .i64 a0.Scheme), v1]), v3]) Try.func46 rfl rfl rfl ?_
  have hL := Hp.start w0
  refine CW.seq ?_
  refine CW.regionL ?_
  refine OW.cons (S_box (cs := #[(.int .i64 a0.Boats), (.int .i64 a0.Scheme), v1]) hL rfl rfl rfl ?_)
  intro wd5 b6 hL
  refine OW.cons (S_alloc (cs := #[(.int .i64 0), (.int .i64 0), (.slice none 0 0)]) hL Try_T31 rfl rfl ?_)
  intro wd7 b8 hL
  refine OW.nil ?_
  refine CW.seq ?_
  refine CW.regionL ?_
  refine OW.cons (S_lit0 (α := Finish) Race hL Try.underlying29 Try_T46 rfl ?_)
  intro wd9 v10 S11 hL
  refine OW.cons (OP.val (v := v10) rfl (x_assign) ?_)
  refine OW.nil ?_
  refine CW.seq ?_
  refine CW.seq ?_
  refine CW.regionL ?_
  refine OW.cons (OP.val (v := (.int .i64 0)) rfl (x_assign) ?_)
  refine OW.nil ?_
  obtain ⟨o70, ho71, hm⟩ := bndE hm
  refine CW.loopB (fun (s_l1 : (List Race) × Int) (F : Fr) (w : World) => ∃ (v66 : Value) (S67 : Nat → Prop), F 1 = v3 ∧ F 2 = (.pointer (some ⟨b6, 0, none⟩)) ∧ F 4 = (.pointer (some ⟨b8, 0, none⟩)) ∧ F 5 = v66 ∧ F 6 = (.int .i64 s_l1.2) ∧ Hp w0 [Ent.own 46 S67 v66 s_l1.1, Ent.blk b8 31 #[(.int .i64 0), (.int .i64 0), (.slice none 0 0)], Ent.blk b6 31 #[(.int .i64 a0.Boats), (.int .i64 a0.Scheme), v1], Ent.snap w0 w0.heap.size] w) (fun o => outc o (fun x => some x) (fun s => M.spec_l21Series_a1 a0 a1 s) = some r) ho71 hm ⟨v10, S11, rfl, rfl, rfl, rfl, rfl, hL⟩ ?_ ?_
  · intro s_l1 F72 wd73 hJ hm
    have hm := outcE hm
    have hm : M.spec_l21Series_a1 a0 a1 s_l1 = some r := hm
    unfold M.spec_l21Series_a1 at hm
    obtain ⟨v66, S67, f74, f75, f76, f77, f78, hL⟩ := hJ
    refine CW.seq ?_
    refine CW.seq ?_
    refine CW.regionL ?_
    refine OW.cons (OP.val (v := (.int .i64 0)) rfl (x_assign) ?_)
    refine OW.nil ?_
    obtain ⟨o1101, ho1102, hm⟩ := bndE hm
    refine CW.loopB (fun (s_l2 : (List Race) × Int) (F : Fr) (w : World) => ∃ (S1098 : Nat → Prop), F 1 = v3 ∧ F 2 = (.pointer (some ⟨b6, 0, none⟩)) ∧ F 4 = (.pointer (some ⟨b8, 0, none⟩)) ∧ F 5 = v66 ∧ F 7 = (.int .i64 s_l2.2) ∧ Hp w0 [Ent.own 46 S1098 v66 s_l2.1, Ent.blk b8 31 #[(.int .i64 0), (.int .i64 0), (.slice none 0 0)], Ent.blk b6 31 #[(.int .i64 a0.Boats), (.int .i64 a0.Scheme), v1], Ent.snap w0 w0.heap.size] w) (fun o => outc o (fun x => some x) (fun s => M.spec_l21Series_a2 a0 a1 s) = some r) ho1102 hm ⟨S67, f74, f75, f76, f77, rfl, hL⟩ ?_ ?_
    · intro s_l2 F1103 wd1104 hJ hm
      have hm := outcE hm
      have hm : M.spec_l21Series_a2 a0 a1 s_l2 = some r := hm
      unfold M.spec_l21Series_a2 at hm
      obtain ⟨S1098, f1105, f1106, f1107, f1108, f1109, hL⟩ := hJ
      refine CW.seq ?_
      refine CW.seq ?_
      refine CW.regionL ?_
      refine OW.cons (OP.val (v := (.int .i64 0)) rfl (x_assign) ?_)
      refine OW.nil ?_
      obtain ⟨o1444, ho1445, hm⟩ := bndE hm
      refine CW.loopB (fun (s_l3 : (List Race) × Int) (F : Fr) (w : World) => ∃ (S1441 : Nat → Prop), F 1 = v3 ∧ F 2 = (.pointer (some ⟨b6, 0, none⟩)) ∧ F 4 = (.pointer (some ⟨b8, 0, none⟩)) ∧ F 5 = v66 ∧ F 10 = (.int .i64 s_l3.2) ∧ Hp w0 [Ent.own 46 S1441 v66 s_l3.1, Ent.blk b8 31 #[(.int .i64 0), (.int .i64 0), (.slice none 0 0)], Ent.blk b6 31 #[(.int .i64 a0.Boats), (.int .i64 a0.Scheme), v1], Ent.snap w0 w0.heap.size] w) (fun o => outc o (fun x => some x) (fun s => M.spec_l21Series_a3 a0 s) = some r) ho1445 hm ⟨S1098, f1105, f1106, f1107, f1108, rfl, hL⟩ ?_ ?_
      · intro s_l3 F1446 wd1447 hJ hm
        have hm := outcE hm
        have hm : M.spec_l21Series_a3 a0 s_l3 = some r := hm
        unfold M.spec_l21Series_a3 at hm
        obtain ⟨S1441, f1448, f1449, f1450, f1451, f1452, hL⟩ := hJ
        refine CW.seq ?_
        refine CW.regionL ?_
        refine OW.cons (OP.val (v := (.pointer (some ⟨b6, 0, none⟩))) rfl (x_fieldAddr (fsz := 1) 0 0 0 Try.underlying31 rfl Try_T2 rfl f1449 rfl) ?_)
        refine OW.cons (OP.val (v := (.int .i64 a0.Boats)) rfl (x_load1 Try.underlying2 rfl rfl (hL.cellB 2 rfl rfl)) ?_)
        refine OW.cons (OP.val (v := (.pointer (some ⟨b6, 1, none⟩))) rfl (x_fieldAddr (fsz := 1) 0 1 1 Try.underlying31 rfl Try_T2 rfl f1449 rfl) ?_)
        refine OW.cons (OP.val (v := (.int .i64 a0.Scheme)) rfl (x_load1 Try.underlying2 rfl rfl (hL.cellB 2 rfl rfl)) ?_)
        refine OW.cons (OP.val (v := v66) rfl (x_mv f1451) ?_)
        refine OW.cons (OP.val (v := (.agg #[(.int .i64 a0.Boats), (.int .i64 a0.Scheme), v66])) rfl (x_build Try_B31 (ps := [(0, (.int .i64 a0.Boats)), (1, (.int .i64 a0.Scheme)), (2, v66)]) ⟨⟨rfl, rfl⟩, ⟨rfl, rfl⟩, ⟨rfl, rfl⟩, trivial⟩ (by simp [Instr.fill, cells_int, cells_bool, cells_string, cells_agg, cells_slice, cells_pointer, (rdL_cells (hL.rdO 0 rfl))])) ?_)
        refine OW.cons (S_storeN (l := [(.int .i64 a0.Boats), (.int .i64 a0.Scheme), v66]) (cs' := #[(.int .i64 a0.Boats), (.int .i64 a0.Scheme), v66]) hL 1 rfl Try_T31 f1450 rfl (List.forall_mem_cons.2 ⟨rfl, (List.forall_mem_cons.2 ⟨rfl, (List.forall_mem_cons.2 ⟨rdL_one (hL.rdO 0 rfl), (fun _ h => by cases h)⟩)⟩)⟩) rfl (Nat.le_of_ble_eq_true rfl) rfl ?_)
        intro wd1453 hL
        refine OW.nil ?_
        refine CW.ret ?_
        obtain rfl := Option.some.inj hm
        exact RRc rfl f1450 (run_loadBlk Try.underlying31 Try_T31 (hL.get 1 rfl) rfl) ⟨v66, S1441, rfl, hL.fresh 3 rfl [0] (by decide) (by decide) rfl⟩
      · intro s_l3 F1454 wd1455 t1442 hJ hm hr1443
        unfold M.spec_l21Series_l3 at hm
        obtain ⟨S1441, f1456, f1457, f1458, f1459, f1460, hL⟩ := hJ
        refine CW.seq ?_
        refine CW.seq ?_
        refine CW.regionL ?_
        refine OW.cons (OP.val (v := (.int .i64 s_l3.2)) rfl (x_mv f1460) ?_)
        refine OW.cons (OP.val (v := v3) rfl (x_mv f1456) ?_)
        refine OW.cons (OP.val (v := (.int .i64 (a1.length : Int))) rfl (x_lenR Try.underlying33 rfl (hL.rdS 3 rfl h4)) ?_)
        refine OW.cons (OP.val (v := (.bool (decide (s_l3.2 < (a1.length : Int))))) rfl (x_lss rfl rfl) ?_)
        refine OW.nil ?_
        refine CW.condM (t := decide (s_l3.2 < (a1.length : Int))) rfl hm (fun hb1461 hm => ?_) (fun hb1461 hm => ?_)
        · refine CW.skip ?_
          refine CW.seqJ (fun (s_j1 : (List Race)) (F : Fr) (w : World) => ∃ (S1540 : Nat → Prop), F 1 = v3 ∧ F 2 = (.pointer (some ⟨b6, 0, none⟩)) ∧ F 4 = (.pointer (some ⟨b8, 0, none⟩)) ∧ F 5 = v66 ∧ F 10 = (.int .i64 s_l3.2) ∧ Hp w0 [Ent.own 46 S1540 v66 s_j1, Ent.blk b8 31 #[(.int .i64 0), (.int .i64 0), (.slice none 0 0)], Ent.blk b6 31 #[(.int .i64 a0.Boats), (.int .i64 a0.Scheme), v1], Ent.snap w0 w0.heap.size] w) (fun s_j1 => M.spec_l21Series_j1 s_l3 s_j1 = some t1442) ?_ ?_
          · refine CW.blockJ (fun (s_j2 : (List Race)) (F : Fr) (w : World) => ∃ (S1583 : Nat → Prop), F 1 = v3 ∧ F 2 = (.pointer (some ⟨b6, 0, none⟩)) ∧ F 4 = (.pointer (some ⟨b8, 0, none⟩)) ∧ F 5 = v66 ∧ F 10 = (.int .i64 s_l3.2) ∧ Hp w0 [Ent.own 46 S1583 v66 s_j2, Ent.blk b8 31 #[(.int .i64 0), (.int .i64 0), (.slice none 0 0)], Ent.blk b6 31 #[(.int .i64 a0.Boats), (.int .i64 a0.Scheme), v1], Ent.snap w0 w0.heap.size] w) (fun s_j2 => M.spec_l21Series_j2 s_l3 s_j2 = some t1442) ?_ ?_
            · refine CW.seq ?_
              refine CW.regionL ?_
              refine OW.cons (OP.val (v := v3) rfl (x_mv f1456) ?_)
              refine OW.cons (OP.val (v := (.int .i64 s_l3.2)) rfl (x_mv f1460) ?_)
              obtain ⟨x1591, ha1592, hm⟩ := bndE hm
              obtain ⟨hz1593, ha1597⟩ := idxE ha1592
              obtain ⟨b1594, q1595, hix1596⟩ := rdL_ix (hL.rdS 3 rfl h4) hz1593 ha1597
              refine OW.cons (OP.val (v := (.pointer (some ⟨b1594, q1595, none⟩))) rfl (x_ix Try.underlying33 Try_T48 rfl rfl hix1596) ?_)
              refine OW.cons (OP.val (v := (.agg #[(.int .i64 x1591.Race), (.int .i64 x1591.Boat), (.int .i64 x1591.Kind), (.int .i64 x1591.Value)])) rfl (x_loadN (cs := [(.int .i64 x1591.Race), (.int .i64 x1591.Boat), (.int .i64 x1591.Kind), (.int .i64 x1591.Value)]) Try.underlying48 Try_T48 rfl rfl (rdF_cells (hL.rdS 3 rfl h4) hix1596 ha1597)) ?_)
              refine OW.cons (S_alloc (cs := #[(.int .i64 0), (.int .i64 0), (.int .i64 0), (.int .i64 0)]) hL Try_T48 rfl rfl ?_)
              intro wd1598 b1599 hL
              refine OW.cons (S_storeN (l := [(.int .i64 x1591.Race), (.int .i64 x1591.Boat), (.int .i64 x1591.Kind), (.int .i64 x1591.Value)]) (cs' := #[(.int .i64 x1591.Race), (.int .i64 x1591.Boat), (.int .i64 x1591.Kind), (.int .i64 x1591.Value)]) hL 0 rfl Try_T48 rfl rfl (List.forall_mem_cons.2 ⟨rfl, (List.forall_mem_cons.2 ⟨rfl, (List.forall_mem_cons.2 ⟨rfl, (List.forall_mem_cons.2 ⟨rfl, (fun _ h => by cases h)⟩)⟩)⟩)⟩) rfl (Nat.le_of_ble_eq_true rfl) rfl ?_)
              intro wd1600 hL
              refine OW.nil ?_
              refine CW.seq ?_
              refine CW.regionL ?_
              refine OW.cons (OP.val (v := (.pointer (some ⟨b1599, 2, none⟩))) rfl (x_fieldAddr (fsz := 1) 0 2 2 Try.underlying48 rfl Try_T2 rfl rfl rfl) ?_)
              refine OW.cons (OP.val (v := (.int .i64 x1591.Kind)) rfl (x_load1 Try.underlying2 rfl rfl (hL.cellB 0 rfl rfl)) ?_)
              refine OW.cons (OP.val (v := (.bool (x1591.Kind == 1))) rfl (x_eql rfl rfl) ?_)
              refine OW.nil ?_
              refine CW.condM (t := x1591.Kind == 1) rfl hm (fun hb1601 hm => ?_) (fun hb1601 hm => ?_)
              · obtain ⟨wz1602, hL, ho1603⟩ := hL.freeze 1 rfl
                simp only [List.set_cons_zero, List.set_cons_succ] at hL
                refine CW.draw Try_mixed ?_
                have hL := hL.call (Mod.drew _)
                refine DW.pre (fuel := 1) (fin := (((((((((((((((Array.replicate 15 false).setIfInBounds 0 true).setIfInBounds 1 true).setIfInBounds 2 true).setIfInBounds 3 true).setIfInBounds 4 true).setIfInBounds 5 true).setIfInBounds 6 true).setIfInBounds 7 true).setIfInBounds 8 true).setIfInBounds 9 true).setIfInBounds 10 true).setIfInBounds 11 true).setIfInBounds 12 true).setIfInBounds 13 true)) (C := fun w' => Mod None_ _ w') [0, 1, 2, 3, 4, 5, 6, 7, 8, 9, 10, 11, 12, 13] (Mod.refl _ _) (by kernel_rfl) (by kernel_rfl) ?_
                refine QW.cons rfl (QP.val (v := v66) rfl (fun w' hm' => x_mv f1459) ?_)
                refine QW.cons rfl (QP.val (v := (.pointer (some ⟨b1599, 0, none⟩))) rfl (fun w' hm' => x_fieldAddr (fsz := 1) 0 0 0 Try.underlying48 rfl Try_T2 rfl rfl rfl) ?_)
                refine QW.cons rfl (QP.val (v := (.int .i64 x1591.Race)) rfl (fun w' hm' => x_load1 Try.underlying2 rfl rfl ((hL.call hm').cellB 0 rfl rfl)) ?_)
                obtain ⟨x1604, ha1605, hm⟩ := bndE hm
                obtain ⟨hz1606, ha1614⟩ := idxE ha1605
                obtain ⟨b1607, q1608, v1609, hix1610, hs1611, hc1612, hr1613⟩ := rdN_at ho1603.1.rdL hz1606 ha1614
                refine QW.cons rfl (QP.val (v := (.pointer (some ⟨b1607, q1608, none⟩))) rfl (fun w' hm' => x_ix Try.underlying29 Try_T46 rfl rfl hix1610) ?_)
                refine QW.cons rfl (QP.val (v := (.pointer (some ⟨b1607, q1608, none⟩))) rfl (fun w' hm' => x_fieldAddr (fsz := 1) q1608 0 q1608 Try.underlying46 rfl Try_T44 rfl rfl rfl) ?_)
                refine QW.cons rfl (QP.val (v := v1609) rfl (fun w' hm' => x_load1 Try.underlying44 rfl rfl ((hL.call hm').cellF 1 rfl hs1611 hc1612)) ?_)
                refine QW.cons rfl (QP.val (v := (.pointer (some ⟨b1599, 1, none⟩))) rfl (fun w' hm' => x_fieldAddr (fsz := 1) 0 1 1 Try.underlying48 rfl Try_T2 rfl rfl rfl) ?_)
                refine QW.cons rfl (QP.val (v := (.int .i64 x1591.Boat)) rfl (fun w' hm' => x_load1 Try.underlying2 rfl rfl ((hL.call hm').cellB 0 rfl rfl)) ?_)
                refine QW.cons rfl (QP.val (v := (.pointer (some ⟨b1599, 1, none⟩))) rfl (fun w' hm' => x_fieldAddr (fsz := 1) 0 1 1 Try.underlying48 rfl Try_T2 rfl rfl rfl) ?_)
                refine QW.cons rfl (QP.val (v := (.int .i64 x1591.Boat)) rfl (fun w' hm' => x_load1 Try.underlying2 rfl rfl ((hL.call hm').cellB 0 rfl rfl)) ?_)
                refine QW.cons rfl (QP.val (v := (.pointer (some ⟨b1599, 3, none⟩))) rfl (fun w' hm' => x_fieldAddr (fsz := 1) 0 3 3 Try.underlying48 rfl Try_T2 rfl rfl rfl) ?_)
                refine QW.cons rfl (QP.val (v := (.int .i64 x1591.Value)) rfl (fun w' hm' => x_load1 Try.underlying2 rfl rfl ((hL.call hm').cellB 0 rfl rfl)) ?_)
                refine QW.cons rfl (QP.val (v := (.agg #[(.int .i64 x1591.Boat), (.int .i64 x1591.Value), (.int .i64 0)])) rfl (fun w' hm' => x_build Try_B50 (ps := [(0, (.int .i64 x1591.Boat)), (1, (.int .i64 x1591.Value))]) ⟨⟨rfl, rfl⟩, ⟨rfl, rfl⟩, trivial⟩ (by simp [Instr.fill, cells_int, cells_bool, cells_string, cells_agg, cells_slice, cells_pointer])) ?_)
                obtain ⟨x1615, ha1616, hm⟩ := bndE hm
                obtain ⟨hz1617, ha1621⟩ := idxE ha1616
                obtain ⟨b1618, q1619, hix1620⟩ := rdL_ix (hL.rdF 1 rfl hr1613) hz1617 ha1621
                refine QW.cons rfl (QP.val (v := (.pointer (some ⟨b1618, q1619, none⟩))) rfl (fun w' hm' => x_ix Try.underlying44 Try_T50 rfl rfl hix1620) ?_)
                refine QW.nil ?_
                intro wd1622 hmod
                have hL := hL.call hmod
                have hc1624 := hL.cellF 1 rfl hs1611 hc1612
                have hL := hL.thaw 1 rfl ho1603
                simp only [List.set_cons_zero, List.set_cons_succ] at hL
                refine DW.only 14 rfl (by kernel_rfl) (S_inRow (α := Finish) (x1604.Finishes.set (x1591.Boat : Int).toNat (Finish.mk x1591.Boat x1591.Value 0)) (Race.mk (x1604.Finishes.set (x1591.Boat : Int).toNat (Finish.mk x1591.Boat x1591.Value 0))) rfl hL 1 rfl hix1610 ha1614 hc1624 (fun E2 S1 hL hK => S_storeXN (l := [(.int .i64 x1591.Boat), (.int .i64 x1591.Value), (.int .i64 0)]) (Finish.mk x1591.Boat x1591.Value 0) hL 0 rfl Try_T50 hix1620 ha1621 rfl rfl rfl hK) ?_)
                intro wd1623 S1625 hL
                simp only [List.set_cons_zero, List.set_cons_succ] at hL
                refine DW.done (by kernel_rfl) ?_
                have hL := hL.sel [1, 2, 3, 4] (by decide) rfl
                exact ⟨s_l3.1.set (x1591.Race : Int).toNat (Race.mk (x1604.Finishes.set (x1591.Boat : Int).toNat (Finish.mk x1591.Boat x1591.Value 0))), hm, ⟨S1625, f1456, f1457, f1458, f1459, f1460, hL⟩⟩
              · refine CW.skip ?_
                have hL := hL.sel [1, 2, 3, 4] (by decide) rfl
                exact ⟨s_l3.1, hm, ⟨S1441, f1456, f1457, f1458, f1459, f1460, hL⟩⟩
            · intro s_j2 F1584 wd1585 hJ hm
              unfold M.spec_l21Series_j2 at hm
              obtain ⟨S1583, f1586, f1587, f1588, f1589, f1590, hL⟩ := hJ
              exact ⟨s_j2, hm, ⟨S1583, f1586, f1587, f1588, f1589, f1590, hL⟩⟩
          · intro s_j1 F1541 wd1542 hJ hm
            unfold M.spec_l21Series_j1 at hm
            obtain ⟨S1540, f1543, f1544, f1545, f1546, f1547, hL⟩ := hJ
            refine CW.regionL ?_
            refine OW.cons (OP.val (v := (.int .i64 s_l3.2)) rfl (x_mv f1547) ?_)
            refine OW.cons (OP.val (v := (.int .i64 (w64 (s_l3.2 + 1)))) rfl (x_add rfl rfl) ?_)
            refine OW.cons (OP.val (v := (.int .i64 (w64 (s_l3.2 + 1)))) rfl (x_assign) ?_)
            refine OW.nil ?_
            obtain rfl := Option.some.inj hm
            exact ⟨_, rfl, ⟨S1540, f1543, f1544, f1545, f1546, rfl, hL⟩⟩
        · refine CW.exit ?_
          refine XJ.hit ?_
          obtain rfl := Option.some.inj hm
          exact ⟨_, rfl, ⟨S1441, f1456, f1457, f1458, f1459, f1460, hL⟩⟩
    · intro s_l2 F1626 wd1627 t1099 hJ hm hr1100
      unfold M.spec_l21Series_l2 at hm
      obtain ⟨S1098, f1628, f1629, f1630, f1631, f1632, hL⟩ := hJ
      refine CW.seq ?_
      refine CW.seq ?_
      refine CW.regionL ?_
      refine OW.cons (OP.val (v := (.int .i64 s_l2.2)) rfl (x_mv f1632) ?_)
      refine OW.cons (OP.val (v := v3) rfl (x_mv f1628) ?_)
      refine OW.cons (OP.val (v := (.int .i64 (a1.length : Int))) rfl (x_lenR Try.underlying33 rfl (hL.rdS 3 rfl h4)) ?_)
      refine OW.cons (OP.val (v := (.bool (decide (s_l2.2 < (a1.length : Int))))) rfl (x_lss rfl rfl) ?_)
      refine OW.nil ?_
      refine CW.condM (t := decide (s_l2.2 < (a1.length : Int))) rfl hm (fun hb1633 hm => ?_) (fun hb1633 hm => ?_)
      · refine CW.skip ?_
        refine CW.seqJ (fun (s_j3 : (List Race)) (F : Fr) (w : World) => ∃ (S1884 : Nat → Prop), F 1 = v3 ∧ F 2 = (.pointer (some ⟨b6, 0, none⟩)) ∧ F 4 = (.pointer (some ⟨b8, 0, none⟩)) ∧ F 5 = v66 ∧ F 7 = (.int .i64 s_l2.2) ∧ Hp w0 [Ent.own 46 S1884 v66 s_j3, Ent.blk b8 31 #[(.int .i64 0), (.int .i64 0), (.slice none 0 0)], Ent.blk b6 31 #[(.int .i64 a0.Boats), (.int .i64 a0.Scheme), v1], Ent.snap w0 w0.heap.size] w) (fun s_j3 => M.spec_l21Series_j3 s_l2 s_j3 = some t1099) ?_ ?_
        · refine CW.blockJ (fun (s_j4 : (List Race)) (F : Fr) (w : World) => ∃ (S2013 : Nat → Prop), F 1 = v3 ∧ F 2 = (.pointer (some ⟨b6, 0, none⟩)) ∧ F 4 = (.pointer (some ⟨b8, 0, none⟩)) ∧ F 5 = v66 ∧ F 7 = (.int .i64 s_l2.2) ∧ Hp w0 [Ent.own 46 S2013 v66 s_j4, Ent.blk b8 31 #[(.int .i64 0), (.int .i64 0), (.slice none 0 0)], Ent.blk b6 31 #[(.int .i64 a0.Boats), (.int .i64 a0.Scheme), v1], Ent.snap w0 w0.heap.size] w) (fun s_j4 => M.spec_l21Series_j4 s_l2 s_j4 = some t1099) ?_ ?_
          · refine CW.seq ?_
            refine CW.regionL ?_
            refine OW.cons (OP.val (v := v3) rfl (x_mv f1628) ?_)
            refine OW.cons (OP.val (v := (.int .i64 s_l2.2)) rfl (x_mv f1632) ?_)
            obtain ⟨x2021, ha2022, hm⟩ := bndE hm
            obtain ⟨hz2023, ha2027⟩ := idxE ha2022
            obtain ⟨b2024, q2025, hix2026⟩ := rdL_ix (hL.rdS 3 rfl h4) hz2023 ha2027
            refine OW.cons (OP.val (v := (.pointer (some ⟨b2024, q2025, none⟩))) rfl (x_ix Try.underlying33 Try_T48 rfl rfl hix2026) ?_)
            refine OW.cons (OP.val (v := (.agg #[(.int .i64 x2021.Race), (.int .i64 x2021.Boat), (.int .i64 x2021.Kind), (.int .i64 x2021.Value)])) rfl (x_loadN (cs := [(.int .i64 x2021.Race), (.int .i64 x2021.Boat), (.int .i64 x2021.Kind), (.int .i64 x2021.Value)]) Try.underlying48 Try_T48 rfl rfl (rdF_cells (hL.rdS 3 rfl h4) hix2026 ha2027)) ?_)
            refine OW.cons (S_alloc (cs := #[(.int .i64 0), (.int .i64 0), (.int .i64 0), (.int .i64 0)]) hL Try_T48 rfl rfl ?_)
            intro wd2028 b2029 hL
            refine OW.cons (S_storeN (l := [(.int .i64 x2021.Race), (.int .i64 x2021.Boat), (.int .i64 x2021.Kind), (.int .i64 x2021.Value)]) (cs' := #[(.int .i64 x2021.Race), (.int .i64 x2021.Boat), (.int .i64 x2021.Kind), (.int .i64 x2021.Value)]) hL 0 rfl Try_T48 rfl rfl (List.forall_mem_cons.2 ⟨rfl, (List.forall_mem_cons.2 ⟨rfl, (List.forall_mem_cons.2 ⟨rfl, (List.forall_mem_cons.2 ⟨rfl, (fun _ h => by cases h)⟩)⟩)⟩)⟩) rfl (Nat.le_of_ble_eq_true rfl) rfl ?_)
            intro wd2030 hL
            refine OW.nil ?_
            refine CW.seq ?_
            obtain ⟨wz2031, hL, ho2032⟩ := hL.freeze 1 rfl
            simp only [List.set_cons_zero, List.set_cons_succ] at hL
            refine CW.drawH (fun w' => Hp w0 [Ent.blk b2029 48 #[(.int .i64 x2021.Race), (.int .i64 x2021.Boat), (.int .i64 x2021.Kind), (.int .i64 x2021.Value)], Ent.frzS wz2031 S1098, Ent.blk b8 31 #[(.int .i64 0), (.int .i64 0), (.slice none 0 0)], Ent.blk b6 31 #[(.int .i64 a0.Boats), (.int .i64 a0.Scheme), v1], Ent.snap w0 w0.heap.size] w') Try_mixed ?_
            have hL := hL.call (Mod.drew _)
            have hS := (hL.sel [0, 1, 2, 3, 4] (by decide) rfl)
            refine DH.take 0 rfl (by kernel_rfl) (by kernel_rfl) (by kernel_rfl) rfl rfl hS (YH.val (v := v66) (fun w' hS' => x_mv f1631)) ?_
            have hS := (hL.sel [0, 1, 2, 3, 4] (by decide) rfl)
            refine DH.take 1 rfl (by kernel_rfl) (by kernel_rfl) (by kernel_rfl) rfl rfl hS (YH.val (v := (.pointer (some ⟨b2029, 0, none⟩))) (fun w' hS' => x_fieldAddr (fsz := 1) 0 0 0 Try.underlying48 rfl Try_T2 rfl rfl rfl)) ?_
            have hS := (hL.sel [0, 1, 2, 3, 4] (by decide) rfl)
            refine DH.take 2 rfl (by kernel_rfl) (by kernel_rfl) (by kernel_rfl) rfl rfl hS (YH.val (v := (.int .i64 x2021.Race)) (fun w' hS' => x_load1 Try.underlying2 rfl rfl (hS'.cellB 0 rfl rfl))) ?_
            have hS := (hL.sel [0, 1, 2, 3, 4] (by decide) rfl)
            obtain ⟨x2054, ha2055, hm⟩ := bndE hm
            obtain ⟨hz2056, ha2064⟩ := idxE ha2055
            obtain ⟨b2057, q2058, v2059, hix2060, hs2061, hc2062, hr2063⟩ := rdN_at ho2032.1.rdL hz2056 ha2064
            refine DH.take 3 rfl (by kernel_rfl) (by kernel_rfl) (by kernel_rfl) rfl rfl hS (YH.val (v := (.pointer (some ⟨b2057, q2058, none⟩))) (fun w' hS' => x_ix Try.underlying29 Try_T46 rfl rfl hix2060)) ?_
            have hS := (hL.sel [0, 1, 2, 3, 4] (by decide) rfl)
            refine DH.take 4 rfl (by kernel_rfl) (by kernel_rfl) (by kernel_rfl) rfl rfl hS (YH.val (v := (.pointer (some ⟨b2057, q2058, none⟩))) (fun w' hS' => x_fieldAddr (fsz := 1) q2058 0 q2058 Try.underlying46 rfl Try_T44 rfl rfl rfl)) ?_
            have hS := (hL.sel [0, 1, 2, 3, 4] (by decide) rfl)
            refine DH.take 5 rfl (by kernel_rfl) (by kernel_rfl) (by kernel_rfl) rfl rfl hS (YH.val (v := v2059) (fun w' hS' => x_load1 Try.underlying44 rfl rfl (hS'.cellF 1 rfl hs2061 hc2062))) ?_
            have hS := (hL.sel [0, 1, 2, 3, 4] (by decide) rfl)
            refine DH.take 6 rfl (by kernel_rfl) (by kernel_rfl) (by kernel_rfl) rfl rfl hS (YH.val (v := (.pointer (some ⟨b2029, 1, none⟩))) (fun w' hS' => x_fieldAddr (fsz := 1) 0 1 1 Try.underlying48 rfl Try_T2 rfl rfl rfl)) ?_
            have hS := (hL.sel [0, 1, 2, 3, 4] (by decide) rfl)
            refine DH.take 7 rfl (by kernel_rfl) (by kernel_rfl) (by kernel_rfl) rfl rfl hS (YH.val (v := (.int .i64 x2021.Boat)) (fun w' hS' => x_load1 Try.underlying2 rfl rfl (hS'.cellB 0 rfl rfl))) ?_
            have hS := (hL.sel [0, 1, 2, 3, 4] (by decide) rfl)
            obtain ⟨x2065, ha2066, hm⟩ := bndE hm
            obtain ⟨hz2067, ha2071⟩ := idxE ha2066
            obtain ⟨b2068, q2069, hix2070⟩ := rdL_ix (hL.rdF 1 rfl hr2063) hz2067 ha2071
            refine DH.take 8 rfl (by kernel_rfl) (by kernel_rfl) (by kernel_rfl) rfl rfl hS (YH.val (v := (.pointer (some ⟨b2068, q2069, none⟩))) (fun w' hS' => x_ix Try.underlying44 Try_T50 rfl rfl hix2070)) ?_
            have hS := (hL.sel [0, 1, 2, 3, 4] (by decide) rfl)
            refine DH.take 9 rfl (by kernel_rfl) (by kernel_rfl) (by kernel_rfl) rfl rfl hS (YH.val (v := (.agg #[(.int .i64 x2065.Boat), (.int .i64 x2065.Code), (.int .i64 x2065.Time)])) (fun w' hS' => x_loadN (cs := [(.int .i64 x2065.Boat), (.int .i64 x2065.Code), (.int .i64 x2065.Time)]) Try.underlying50 Try_T50 rfl rfl (rdF_cells (hS'.rdF 1 rfl hr2063) hix2070 ha2071))) ?_
            refine DH.only 10 rfl (by kernel_rfl) (S_alloc (cs := #[(.int .i64 0), (.int .i64 0), (.int .i64 0)]) hL Try_T50 rfl rfl ?_)
            intro wd2072 b2073 hL
            refine ⟨(hL.sel [1, 2, 3, 4, 5] (by decide) rfl), ?_⟩
            refine DH.only 11 rfl (by kernel_rfl) (S_storeN (l := [(.int .i64 x2065.Boat), (.int .i64 x2065.Code), (.int .i64 x2065.Time)]) (cs' := #[(.int .i64 x2065.Boat), (.int .i64 x2065.Code), (.int .i64 x2065.Time)]) hL 0 rfl Try_T50 rfl rfl (List.forall_mem_cons.2 ⟨rfl, (List.forall_mem_cons.2 ⟨rfl, (List.forall_mem_cons.2 ⟨rfl, (fun _ h => by cases h)⟩)⟩)⟩) rfl (Nat.le_of_ble_eq_true rfl) rfl ?_)
            intro wd2074 hL
            refine ⟨(hL.sel [1, 2, 3, 4, 5] (by decide) rfl), ?_⟩
            refine DH.done (by kernel_rfl) ?_
            have hL := hL.thaw 2 rfl ho2032
            refine CW.seqJ (fun (s_j5 : Bool) (F : Fr) (w : World) => F 1 = v3 ∧ F 2 = (.pointer (some ⟨b6, 0, none⟩)) ∧ F 4 = (.pointer (some ⟨b8, 0, none⟩)) ∧ F 5 = v66 ∧ F 7 = (.int .i64 s_l2.2) ∧ F 8 = (.pointer (some ⟨b2029, 0, none⟩)) ∧ F 9 = (.pointer (some ⟨b2073, 0, none⟩)) ∧ F 58 = (.bool s_j5) ∧ Hp w0 [Ent.blk b2073 50 #[(.int .i64 x2065.Boat), (.int .i64 x2065.Code), (.int .i64 x2065.Time)], Ent.blk b2029 48 #[(.int .i64 x2021.Race), (.int .i64 x2021.Boat), (.int .i64 x2021.Kind), (.int .i64 x2021.Value)], Ent.own 46 S1098 v66 s_l2.1, Ent.blk b8 31 #[(.int .i64 0), (.int .i64 0), (.slice none 0 0)], Ent.blk b6 31 #[(.int .i64 a0.Boats), (.int .i64 a0.Scheme), v1], Ent.snap w0 w0.heap.size] w) (fun s_j5 => M.spec_l21Series_j5 s_l2 x2021 x2065 s_j5 = some t1099) ?_ ?_
            · refine CW.regionL ?_
              refine OW.cons (OP.val (v := (.pointer (some ⟨b2029, 2, none⟩))) rfl (x_fieldAddr (fsz := 1) 0 2 2 Try.underlying48 rfl Try_T2 rfl rfl rfl) ?_)
              refine OW.cons (OP.val (v := (.int .i64 x2021.Kind)) rfl (x_load1 Try.underlying2 rfl rfl (hL.cellB 1 rfl rfl)) ?_)
              refine OW.cons (OP.val (v := (.bool (x2021.Kind == 2))) rfl (x_eql rfl rfl) ?_)
              refine OW.cons (OP.val (v := (.bool (x2021.Kind == 2))) rfl (x_move) ?_)
              refine ifB_elim hm (fun hb2136 hm => ?_) (fun hb2136 hm => ?_)
              · refine OW.cons (OP.yes' rfl rfl hb2136 (OP.val (v := (.agg #[(.int .i64 x2065.Boat), (.int .i64 x2065.Code), (.int .i64 x2065.Time)])) rfl (x_loadN (cs := [(.int .i64 x2065.Boat), (.int .i64 x2065.Code), (.int .i64 x2065.Time)]) Try.underlying50 Try_T50 rfl rfl (hL.cellsB 0 rfl (o := 0) (l := [(.int .i64 x2065.Boat), (.int .i64 x2065.Code), (.int .i64 x2065.Time)]) (by intro j u hj; exact (by simpa using hj)))) ?_))
                obtain ⟨x2137, hx2138, hm⟩ := bndE hm
                refine OW.cons (OP.yes' rfl rfl hb2136 (OP.call rfl (x_call (vs := [(.agg #[(.int .i64 x2065.Boat), (.int .i64 x2065.Code), (.int .i64 x2065.Time)])]) Try_C70 ⟨rfl, trivial⟩) (M.spec_l26Done_ok _ x2065 hx2138) ?_))
                rintro e2139 wd2140 ⟨rfl, hF2141⟩
                refine ⟨_, rfl, ?_⟩
                have hL := hL.pushAll hF2141
                simp only [List.cons_append, List.nil_append, List.set_cons_zero, List.set_cons_succ] at hL
                refine OW.cons (OP.val (v := (.bool x2137)) rfl (x_pickT' rfl hb2136 rfl) ?_)
                refine OW.nil ?_
                exact ⟨x2137, hm, ⟨f1628, f1629, f1630, f1631, f1632, rfl, rfl, rfl, hL⟩⟩
              · refine OW.cons (OP.no' rfl rfl hb2136 rfl ?_)
                refine OW.cons (OP.no' rfl rfl hb2136 rfl ?_)
                refine OW.cons (OP.val (v := (.bool false)) rfl (x_pickF' rfl hb2136 rfl) ?_)
                refine OW.nil ?_
                exact ⟨false, hm, ⟨f1628, f1629, f1630, f1631, f1632, rfl, rfl, rfl, hL⟩⟩
            · intro s_j5 F2081 wd2082 hJ hm
              unfold M.spec_l21Series_j5 at hm
              obtain ⟨f2083, f2084, f2085, f2086, f2087, f2088, f2089, f2090, hL⟩ := hJ
              refine CW.condM (t := s_j5) f2090 hm (fun hb2091 hm => ?_) (fun hb2091 hm => ?_)
              · obtain ⟨wz2092, hL, ho2093⟩ := hL.freeze 2 rfl
                simp only [List.set_cons_zero, List.set_cons_succ] at hL
                refine CW.drawH (fun w' => Hp w0 [Ent.blk b2073 50 #[(.int .i64 x2065.Boat), (.int .i64 x2065.Code), (.int .i64 x2065.Time)], Ent.blk b2029 48 #[(.int .i64 x2021.Race), (.int .i64 x2021.Boat), (.int .i64 x2021.Kind), (.int .i64 x2021.Value)], Ent.blk b8 31 #[(.int .i64 0), (.int .i64 0), (.slice none 0 0)], Ent.blk b6 31 #[(.int .i64 a0.Boats), (.int .i64 a0.Scheme), v1], Ent.snap w0 w0.heap.size] w') Try_mixed ?_
                have hL := hL.call (Mod.drew _)
                have hS := (hL.sel [0, 1, 3, 4, 5] (by decide) rfl)
                refine DH.take 0 rfl (by kernel_rfl) (by kernel_rfl) (by kernel_rfl) rfl rfl hS (YH.val (v := v66) (fun w' hS' => x_mv f2086)) ?_
                have hS := (hL.sel [0, 1, 3, 4, 5] (by decide) rfl)
                refine DH.take 1 rfl (by kernel_rfl) (by kernel_rfl) (by kernel_rfl) rfl rfl hS (YH.val (v := (.pointer (some ⟨b2029, 0, none⟩))) (fun w' hS' => x_fieldAddr (fsz := 1) 0 0 0 Try.underlying48 rfl Try_T2 rfl f2088 rfl)) ?_
                have hS := (hL.sel [0, 1, 3, 4, 5] (by decide) rfl)
                refine DH.take 2 rfl (by kernel_rfl) (by kernel_rfl) (by kernel_rfl) rfl rfl hS (YH.val (v := (.int .i64 x2021.Race)) (fun w' hS' => x_load1 Try.underlying2 rfl rfl (hS'.cellB 1 rfl rfl))) ?_
                have hS := (hL.sel [0, 1, 3, 4, 5] (by decide) rfl)
                obtain ⟨x2115, ha2116, hm⟩ := bndE hm
                obtain ⟨hz2117, ha2125⟩ := idxE ha2116
                obtain ⟨b2118, q2119, v2120, hix2121, hs2122, hc2123, hr2124⟩ := rdN_at ho2093.1.rdL hz2117 ha2125
                refine DH.take 3 rfl (by kernel_rfl) (by kernel_rfl) (by kernel_rfl) rfl rfl hS (YH.val (v := (.pointer (some ⟨b2118, q2119, none⟩))) (fun w' hS' => x_ix Try.underlying29 Try_T46 rfl rfl hix2121)) ?_
                have hS := (hL.sel [0, 1, 3, 4, 5] (by decide) rfl)
                refine DH.take 4 rfl (by kernel_rfl) (by kernel_rfl) (by kernel_rfl) rfl rfl hS (YH.val (v := (.pointer (some ⟨b2118, q2119, none⟩))) (fun w' hS' => x_fieldAddr (fsz := 1) q2119 0 q2119 Try.underlying46 rfl Try_T44 rfl rfl rfl)) ?_
                have hS := (hL.sel [0, 1, 3, 4, 5] (by decide) rfl)
                refine DH.take 6 rfl (by kernel_rfl) (by kernel_rfl) (by kernel_rfl) rfl rfl hS (YH.val (v := (.pointer (some ⟨b2029, 1, none⟩))) (fun w' hS' => x_fieldAddr (fsz := 1) 0 1 1 Try.underlying48 rfl Try_T2 rfl f2088 rfl)) ?_
                have hS := (hL.sel [0, 1, 3, 4, 5] (by decide) rfl)
                refine DH.take 7 rfl (by kernel_rfl) (by kernel_rfl) (by kernel_rfl) rfl rfl hS (YH.val (v := (.int .i64 x2021.Boat)) (fun w' hS' => x_load1 Try.underlying2 rfl rfl (hS'.cellB 1 rfl rfl))) ?_
                have hS := (hL.sel [0, 1, 3, 4, 5] (by decide) rfl)
                refine DH.take 8 rfl (by kernel_rfl) (by kernel_rfl) (by kernel_rfl) rfl rfl hS (YH.val (v := (.pointer (some ⟨b2073, 2, none⟩))) (fun w' hS' => x_fieldAddr (fsz := 1) 0 2 2 Try.underlying50 rfl Try_T2 rfl f2089 rfl)) ?_
                have hS := (hL.sel [0, 1, 3, 4, 5] (by decide) rfl)
                refine DH.take 9 rfl (by kernel_rfl) (by kernel_rfl) (by kernel_rfl) rfl rfl hS (YH.val (v := (.int .i64 x2065.Time)) (fun w' hS' => x_load1 Try.underlying2 rfl rfl (hS'.cellB 0 rfl rfl))) ?_
                have hS := (hL.sel [0, 1, 3, 4, 5] (by decide) rfl)
                refine DH.take 10 rfl (by kernel_rfl) (by kernel_rfl) (by kernel_rfl) rfl rfl hS (YH.val (v := (.pointer (some ⟨b2029, 3, none⟩))) (fun w' hS' => x_fieldAddr (fsz := 1) 0 3 3 Try.underlying48 rfl Try_T2 rfl f2088 rfl)) ?_
                have hS := (hL.sel [0, 1, 3, 4, 5] (by decide) rfl)
                refine DH.take 11 rfl (by kernel_rfl) (by kernel_rfl) (by kernel_rfl) rfl rfl hS (YH.val (v := (.int .i64 x2021.Value)) (fun w' hS' => x_load1 Try.underlying2 rfl rfl (hS'.cellB 1 rfl rfl))) ?_
                have hS := (hL.sel [0, 1, 3, 4, 5] (by decide) rfl)
                refine DH.take 12 rfl (by kernel_rfl) (by kernel_rfl) (by kernel_rfl) rfl rfl hS (YH.val (v := (.int .i64 (w64 (x2065.Time + x2021.Value)))) (fun w' hS' => x_add rfl rfl)) ?_
                have hS := (hL.sel [0, 1, 3, 4, 5] (by decide) rfl)
                refine DH.take 13 rfl (by kernel_rfl) (by kernel_rfl) (by kernel_rfl) rfl rfl hS (YH.val (v := (.int .i64 (min 1000000000 (w64 (x2065.Time + x2021.Value))))) (fun w' hS' => x_min2 rfl rfl)) ?_
                refine DH.only 5 rfl (by kernel_rfl) (OP.val (v := v2120) rfl (x_load1 Try.underlying44 rfl rfl (hL.cellF 2 rfl hs2122 hc2123)) ?_)
                refine ⟨(hL.sel [0, 1, 3, 4, 5] (by decide) rfl), ?_⟩
                have hS := (hL.sel [0, 1, 3, 4, 5] (by decide) rfl)
                obtain ⟨x2126, ha2127, hm⟩ := bndE hm
                obtain ⟨hz2128, ha2132⟩ := idxE ha2127
                obtain ⟨b2129, q2130, hix2131⟩ := rdL_ix (hL.rdF 2 rfl hr2124) hz2128 ha2132
                refine DH.take 14 rfl (by kernel_rfl) (by kernel_rfl) (by kernel_rfl) rfl rfl hS (YH.val (v := (.pointer (some ⟨b2129, q2130, none⟩))) (fun w' hS' => x_ix Try.underlying44 Try_T50 rfl rfl hix2131)) ?_
                have hS := (hL.sel [0, 1, 3, 4, 5] (by decide) rfl)
                refine DH.take 15 rfl (by kernel_rfl) (by kernel_rfl) (by kernel_rfl) rfl rfl hS (YH.val (v := (.pointer (some ⟨b2129, q2130 + 2, none⟩))) (fun w' hS' => x_fieldAddr (fsz := 1) q2130 2 (q2130 + 2) Try.underlying50 rfl Try_T2 rfl rfl rfl)) ?_
                have hc2134 := hL.cellF 2 rfl hs2122 hc2123
                have hL := hL.thaw 2 rfl ho2093
                simp only [List.set_cons_zero, List.set_cons_succ] at hL
                refine DH.only 16 rfl (by kernel_rfl) (S_inRow (α := Finish) (x2115.Finishes.set (x2021.Boat : Int).toNat (Finish.mk x2126.Boat x2126.Code (min 1000000000 (w64 (x2065.Time + x2021.Value))))) (Race.mk (x2115.Finishes.set (x2021.Boat : Int).toNat (Finish.mk x2126.Boat x2126.Code (min 1000000000 (w64 (x2065.Time + x2021.Value)))))) rfl hL 2 rfl hix2121 ha2125 hc2134 (fun E2 S1 hL hK => S_storeX (j := 2) (Finish.mk x2126.Boat x2126.Code (min 1000000000 (w64 (x2065.Time + x2021.Value)))) hL 0 rfl Try_T2 hix2131 ha2132 rfl rfl rfl rfl rfl rfl hK) ?_)
                intro wd2133 S2135 hL
                simp only [List.set_cons_zero, List.set_cons_succ] at hL
                refine ⟨(hL.sel [0, 1, 3, 4, 5] (by decide) rfl), ?_⟩
                refine DH.done (by kernel_rfl) ?_
                have hL := hL.sel [2, 3, 4, 5] (by decide) rfl
                exact ⟨s_l2.1.set (x2021.Race : Int).toNat (Race.mk (x2115.Finishes.set (x2021.Boat : Int).toNat (Finish.mk x2126.Boat x2126.Code (min 1000000000 (w64 (x2065.Time + x2021.Value)))))), hm, ⟨S2135, f2083, f2084, f2085, f2086, f2087, hL⟩⟩
              · refine CW.skip ?_
                have hL := hL.sel [2, 3, 4, 5] (by decide) rfl
                exact ⟨s_l2.1, hm, ⟨S1098, f2083, f2084, f2085, f2086, f2087, hL⟩⟩
          · intro s_j4 F2014 wd2015 hJ hm
            unfold M.spec_l21Series_j4 at hm
            obtain ⟨S2013, f2016, f2017, f2018, f2019, f2020, hL⟩ := hJ
            exact ⟨s_j4, hm, ⟨S2013, f2016, f2017, f2018, f2019, f2020, hL⟩⟩
        · intro s_j3 F1885 wd1886 hJ hm
          unfold M.spec_l21Series_j3 at hm
          obtain ⟨S1884, f1887, f1888, f1889, f1890, f1891, hL⟩ := hJ
          refine CW.regionL ?_
          refine OW.cons (OP.val (v := (.int .i64 s_l2.2)) rfl (x_mv f1891) ?_)
          refine OW.cons (OP.val (v := (.int .i64 (w64 (s_l2.2 + 1)))) rfl (x_add rfl rfl) ?_)
          refine OW.cons (OP.val (v := (.int .i64 (w64 (s_l2.2 + 1)))) rfl (x_assign) ?_)
          refine OW.nil ?_
          obtain rfl := Option.some.inj hm
          exact ⟨_, rfl, ⟨S1884, f1887, f1888, f1889, f1890, rfl, hL⟩⟩
      · refine CW.exit ?_
        refine XJ.hit ?_
        obtain rfl := Option.some.inj hm
        exact ⟨_, rfl, ⟨S1098, f1628, f1629, f1630, f1631, f1632, hL⟩⟩
  · intro s_l1 F2142 wd2143 t68 hJ hm hr69
    unfold M.spec_l21Series_l1 at hm
    obtain ⟨v66, S67, f2144, f2145, f2146, f2147, f2148, hL⟩ := hJ
    refine CW.seq ?_
    refine CW.seq ?_
    refine CW.regionL ?_
    refine OW.cons (OP.val (v := (.int .i64 s_l1.2)) rfl (x_mv f2148) ?_)
    refine OW.cons (OP.val (v := (.pointer (some ⟨b6, 2, none⟩))) rfl (x_fieldAddr (fsz := 1) 0 2 2 Try.underlying31 rfl Try_T29 rfl f2145 rfl) ?_)
    refine OW.cons (OP.val (v := v1) rfl (x_load1 Try.underlying29 rfl rfl (hL.cellB 2 rfl rfl)) ?_)
    refine OW.cons (OP.val (v := (.int .i64 (a0.Races.length : Int))) rfl (x_lenR Try.underlying29 rfl (hL.rdS 3 rfl h2)) ?_)
    refine OW.cons (OP.val (v := (.bool (decide (s_l1.2 < (a0.Races.length : Int))))) rfl (x_lss rfl rfl) ?_)
    refine OW.nil ?_
    refine CW.condM (t := decide (s_l1.2 < (a0.Races.length : Int))) rfl hm (fun hb2149 hm => ?_) (fun hb2149 hm => ?_)
    · refine CW.skip ?_
      refine CW.seq ?_
      refine CW.block ?_
      refine CW.regionL ?_
      refine OW.cons (OP.val (v := v66) rfl (x_mv f2147) ?_)
      refine OW.cons (S_lit ([] : List Finish) hL Try.underlying44 Try_T50 rfl (by decide) (by first | (simp [Instr.fill, madeCells, Value.cells, ev, upd, Flat.enc, Flat.sz]; done) | rfl | kernel_rfl) rfl rfl ?_)
      intro wd2150 v2151 S2152 hL
      refine OW.cons (OP.val (v := (.pointer (some ⟨b6, 2, none⟩))) rfl (x_fieldAddr (fsz := 1) 0 2 2 Try.underlying31 rfl Try_T29 rfl f2145 rfl) ?_)
      refine OW.cons (OP.val (v := v1) rfl (x_load1 Try.underlying29 rfl rfl (hL.cellB 3 rfl rfl)) ?_)
      refine OW.cons (OP.val (v := (.int .i64 s_l1.2)) rfl (x_mv f2148) ?_)
      obtain ⟨x2153, ha2154, hm⟩ := bndE hm
      obtain ⟨hz2155, ha2163⟩ := idxE ha2154
      obtain ⟨b2156, q2157, v2158, hix2159, hs2160, hc2161, hr2162⟩ := rdN_at h2 hz2155 ha2163
      refine OW.cons (OP.val (v := (.pointer (some ⟨b2156, q2157, none⟩))) rfl (x_ix Try.underlying29 Try_T46 rfl rfl hix2159) ?_)
      refine OW.cons (OP.val (v := (.pointer (some ⟨b2156, q2157, none⟩))) rfl (x_fieldAddr (fsz := 1) q2157 0 q2157 Try.underlying46 rfl Try_T44 rfl rfl rfl) ?_)
      refine OW.cons (OP.val (v := v2158) rfl (x_load1 Try.underlying44 rfl rfl (hL.cellS 4 rfl hs2160 hc2161)) ?_)
      obtain ⟨hc2167, hm⟩ := chkE hm
      refine OW.cons (S_append (ys := x2153.Finishes) hL 0 rfl Try.underlying44 Try_T50 rfl rfl rfl (hL.rdS 4 rfl hr2162) hc2167 (by decide) rfl ?_)
      intro wd2164 v2165 S2166 hL
      refine OW.cons (OP.val (v := (.agg #[v2165])) rfl (x_build Try_B46 (ps := [(0, v2165)]) ⟨⟨rfl, rfl⟩, trivial⟩ (by simp [Instr.fill, cells_int, cells_bool, cells_string, cells_agg, cells_slice, cells_pointer, (rdL_cells (hL.rdO 0 rfl))])) ?_)
      refine OW.cons (S_lit1 (Race.mk (([] : List Finish) ++ x2153.Finishes)) rfl hL Try.underlying29 Try_T46 rfl rfl ?_)
      intro wd2168 v2169 S2170 hL
      obtain ⟨hc2174, hm⟩ := chkE hm
      have hL := hL.sel [1, 0, 2, 3, 4] (by decide) rfl
      refine OW.cons (S_appendN Finish hL Try.underlying29 Try_T46 rfl rfl rfl hc2174 (by decide) rfl ?_)
      intro wd2171 v2172 S2173 hL
      refine OW.cons (OP.val (v := v2172) rfl (x_assign) ?_)
      refine OW.nil ?_
      refine CW.regionL ?_
      refine OW.cons (OP.val (v := (.int .i64 s_l1.2)) rfl (x_mv f2148) ?_)
      refine OW.cons (OP.val (v := (.int .i64 (w64 (s_l1.2 + 1)))) rfl (x_add rfl rfl) ?_)
      refine OW.cons (OP.val (v := (.int .i64 (w64 (s_l1.2 + 1)))) rfl (x_assign) ?_)
      refine OW.nil ?_
      obtain rfl := Option.some.inj hm
      exact ⟨_, rfl, ⟨v2172, S2173, f2144, f2145, f2146, rfl, rfl, hL⟩⟩
    · refine CW.exit ?_
      refine XJ.hit ?_
      obtain rfl := Option.some.inj hm
      exact ⟨_, rfl, ⟨v66, S67, f2144, f2145, f2146, f2147, f2148, hL⟩⟩

theorem M.spec_PenalizedSeries_ok (w0 : World) (a0 : Series) {v1 : Value} (h2 : rdL (· < w0.heap.size) w0 v1 a0.Races) (a1 : List Penalty) {v3 : Value} (h4 : rdL (· < w0.heap.size) w0 v3 a1) {r : Series × Int} (hm : M.spec_PenalizedSeries a0 a1 = some r) :
    Calls Try.prog 19 #[(.agg #[(.int .i64 a0.Boats), (.int .i64 a0.Scheme), v1]), v3] w0 fun e w' => ∃ (rv0 : Value) (rS0 : Nat → Prop), e = .returned (.tuple #[(.agg #[(.int .i64 r.1.Boats), (.int .i64 r.1.Scheme), rv0]), (.int .i64 r.2)]) ∧ Fresh w0 w' [Ent.own 46 rS0 rv0 r.1.Races] := by
  unfold M.spec_PenalizedSeries at hm
  refine calls_CW (args := [(.agg #[(.int .i64 a0.Boats), (.int .i64 a0.Scheme), v1]), v3]) Try.func19 rfl rfl rfl ?_
  have hL := Hp.start w0
  refine CW.seq ?_
  refine CW.regionL ?_
  refine OW.cons (S_box (cs := #[(.int .i64 a0.Boats), (.int .i64 a0.Scheme), v1]) hL rfl rfl rfl ?_)
  intro wd5 b6 hL
  refine OW.cons (S_alloc (cs := #[(.int .i64 0), (.int .i64 0), (.slice none 0 0)]) hL Try_T31 rfl rfl ?_)
  intro wd7 b8 hL
  refine OW.cons (OP.val (v := (.int .i64 0)) rfl (x_assign) ?_)
  refine OW.nil ?_
  refine CW.seq ?_
  refine CW.regionL ?_
  refine OW.cons (OP.val (v := (.agg #[(.int .i64 a0.Boats), (.int .i64 a0.Scheme), v1])) rfl (x_loadN (cs := [(.int .i64 a0.Boats), (.int .i64 a0.Scheme), v1]) Try.underlying31 Try_T31 rfl rfl (hL.cellsB 1 rfl (o := 0) (l := [(.int .i64 a0.Boats), (.int .i64 a0.Scheme), v1]) (by intro j u hj; exact (by simpa using hj)))) ?_)
  refine OW.cons (OP.val (v := v3) rfl (x_move) ?_)
  obtain ⟨x9, hx10, hm⟩ := bndE hm
  refine OW.cons (OP.call rfl (x_call (vs := [(.agg #[(.int .i64 a0.Boats), (.int .i64 a0.Scheme), v1]), v3]) Try_C45 ⟨rfl, rfl, trivial⟩) (M.spec_l21Result_ok _ a0 (hL.rdS 2 rfl h2) a1 (hL.rdS 2 rfl h4) hx10) ?_)
  rintro e11 wd12 ⟨rfl, hF13⟩
  refine ⟨_, rfl, ?_⟩
  have hL := hL.pushAll hF13
  simp only [List.cons_append, List.nil_append, List.set_cons_zero, List.set_cons_succ] at hL
  refine OW.cons (OP.val (v := (.int .i64 x9)) rfl (x_assign) ?_)
  refine OW.nil ?_
  refine CW.seq ?_
  refine CW.seq ?_
  refine CW.regionL ?_
  refine OW.cons (OP.val (v := (.int .i64 x9)) rfl (x_move) ?_)
  refine OW.cons (OP.val (v := (.bool (x9 != 0))) rfl (x_neq rfl rfl) ?_)
  refine OW.nil ?_
  refine CW.condM (t := x9 != 0) rfl hm (fun hb14 hm => ?_) (fun hb14 hm => ?_)
  · refine CW.seq ?_
    refine CW.regionL ?_
    refine OW.cons (OP.val (v := (.agg #[(.int .i64 0), (.int .i64 0), (.slice none 0 0)])) rfl (x_build Try_B31 (ps := []) trivial (by simp [Instr.fill, cells_int, cells_bool, cells_string, cells_agg, cells_slice, cells_pointer])) ?_)
    refine OW.cons (OP.val (v := (.int .i64 x9)) rfl (x_move) ?_)
    refine OW.cons (S_storeN (l := [(.int .i64 0), (.int .i64 0), (.slice none 0 0)]) (cs' := #[(.int .i64 0), (.int .i64 0), (.slice none 0 0)]) hL 0 rfl Try_T31 rfl rfl (List.forall_mem_cons.2 ⟨rfl, (List.forall_mem_cons.2 ⟨rfl, (List.forall_mem_cons.2 ⟨rfl, (fun _ h => by cases h)⟩)⟩)⟩) rfl (Nat.le_of_ble_eq_true rfl) rfl ?_)
    intro wd15 hL
    refine OW.cons (OP.val (v := (.int .i64 x9)) rfl (x_assign) ?_)
    refine OW.nil ?_
    refine CW.ret ?_
    have hL := hL.pushNil Race 46
    obtain rfl := Option.some.inj hm
    exact RRct rfl rfl (run_loadBlk Try.underlying31 Try_T31 (hL.get 1 rfl) rfl) rfl ⟨(.slice none 0 0), None_, rfl, hL.fresh 3 rfl [0] (by decide) (by decide) rfl⟩
  · refine CW.skip ?_
    refine CW.seq ?_
    refine CW.regionL ?_
    refine OW.cons (OP.val (v := (.agg #[(.int .i64 a0.Boats), (.int .i64 a0.Scheme), v1])) rfl (x_loadN (cs := [(.int .i64 a0.Boats), (.int .i64 a0.Scheme), v1]) Try.underlying31 Try_T31 rfl rfl (hL.cellsB 1 rfl (o := 0) (l := [(.int .i64 a0.Boats), (.int .i64 a0.Scheme), v1]) (by intro j u hj; exact (by simpa using hj)))) ?_)
    refine OW.cons (OP.val (v := v3) rfl (x_move) ?_)
    obtain ⟨x16, hx17, hm⟩ := bndE hm
    refine OW.cons (OP.call rfl (x_call (vs := [(.agg #[(.int .i64 a0.Boats), (.int .i64 a0.Scheme), v1]), v3]) Try_C46 ⟨rfl, rfl, trivial⟩) (M.spec_l21Series_ok _ a0 (hL.rdS 2 rfl h2) a1 (hL.rdS 2 rfl h4) hx17) ?_)
    rintro e20 wd21 ⟨v19, S18, rfl, hF22⟩
    refine ⟨_, rfl, ?_⟩
    have hL := hL.pushAll hF22
    simp only [List.cons_append, List.nil_append, List.set_cons_zero, List.set_cons_succ] at hL
    refine OW.cons (S_storeN (l := [(.int .i64 x16.Boats), (.int .i64 x16.Scheme), v19]) (cs' := #[(.int .i64 x16.Boats), (.int .i64 x16.Scheme), v19]) hL 1 rfl Try_T31 rfl rfl (List.forall_mem_cons.2 ⟨rfl, (List.forall_mem_cons.2 ⟨rfl, (List.forall_mem_cons.2 ⟨rdL_one (hL.rdO 0 rfl), (fun _ h => by cases h)⟩)⟩)⟩) rfl (Nat.le_of_ble_eq_true rfl) rfl ?_)
    intro wd23 hL
    refine OW.cons (OP.val (v := (.int .i64 0)) rfl (x_assign) ?_)
    refine OW.nil ?_
    refine CW.ret ?_
    obtain rfl := Option.some.inj hm
    exact RRct rfl rfl (run_loadBlk Try.underlying31 Try_T31 (hL.get 1 rfl) rfl) rfl ⟨v19, S18, rfl, hL.fresh 3 rfl [0] (by decide) (by decide) rfl⟩

theorem M.laws_w6Races_ok (w0 : World) (a0 : Race) {v1 : Value} (h2 : rdL (· < w0.heap.size) w0 v1 a0.Finishes) (a1 : Race) {v3 : Value} (h4 : rdL (· < w0.heap.size) w0 v3 a1.Finishes) {r : Bool} (hm : M.laws_w6Races a0 a1 = some r) :
    Calls Try.prog 47 #[(.agg #[v1]), (.agg #[v3])] w0 fun e w' => e = .returned (.bool r) ∧ Fresh w0 w' [] := by
  unfold M.laws_w6Races at hm
  refine calls_CW (args := [(.agg #[v1]), (.agg #[v3])]) Try.func47 rfl rfl rfl ?_
  have hL := Hp.start w0
  refine CW.seq ?_
  refine CW.regionL ?_
  refine OW.cons (S_box (cs := #[v1]) hL rfl rfl rfl ?_)
  intro wd5 b6 hL
  refine OW.cons (S_box (cs := #[v3]) hL rfl rfl rfl ?_)
  intro wd7 b8 hL
  refine OW.cons (OP.val (v := (.bool false)) rfl (x_assign) ?_)
  refine OW.nil ?_
  refine CW.seq ?_
  refine CW.seq ?_
  refine CW.regionL ?_
  refine OW.cons (OP.val (v := (.pointer (some ⟨b6, 0, none⟩))) rfl (x_fieldAddr (fsz := 1) 0 0 0 Try.underlying46 rfl Try_T44 rfl rfl rfl) ?_)
  refine OW.cons (OP.val (v := v1) rfl (x_load1 Try.underlying44 rfl rfl (hL.cellB 1 rfl rfl)) ?_)
  refine OW.cons (OP.val (v := (.int .i64 (a0.Finishes.length : Int))) rfl (x_lenR Try.underlying44 rfl (hL.rdS 2 rfl h2)) ?_)
  refine OW.cons (OP.val (v := (.pointer (some ⟨b8, 0, none⟩))) rfl (x_fieldAddr (fsz := 1) 0 0 0 Try.underlying46 rfl Try_T44 rfl rfl rfl) ?_)
  refine OW.cons (OP.val (v := v3) rfl (x_load1 Try.underlying44 rfl rfl (hL.cellB 0 rfl rfl)) ?_)
  refine OW.cons (OP.val (v := (.int .i64 (a1.Finishes.length : Int))) rfl (x_lenR Try.underlying44 rfl (hL.rdS 2 rfl h4)) ?_)
  refine OW.cons (OP.val (v := (.bool ((a0.Finishes.length : Int) != (a1.Finishes.length : Int)))) rfl (x_neq rfl rfl) ?_)
  refine OW.nil ?_
  refine CW.condM (t := (a0.Finishes.length : Int) != (a1.Finishes.length : Int)) rfl hm (fun hb9 hm => ?_) (fun hb9 hm => ?_)
  · refine CW.seq ?_
    refine CW.regionL ?_
    refine OW.cons (OP.val (v := (.bool false)) rfl (x_assign) ?_)
    refine OW.nil ?_
    refine CW.ret ?_
    obtain rfl := Option.some.inj hm
    exact RR1 rfl rfl ⟨rfl, hL.fresh 2 rfl [] (by decide) (by decide) rfl⟩
  · refine CW.skip ?_
    refine CW.seq ?_
    refine CW.seq ?_
    refine CW.regionL ?_
    refine OW.cons (OP.val (v := (.int .i64 0)) rfl (x_assign) ?_)
    refine OW.nil ?_
    obtain ⟨o46, ho47, hm⟩ := bndE hm
    refine CW.loopB (fun (s_l1 : Int) (F : Fr) (w : World) => F 2 = (.pointer (some ⟨b6, 0, none⟩)) ∧ F 3 = (.pointer (some ⟨b8, 0, none⟩)) ∧ F 5 = (.int .i64 s_l1) ∧ Hp w0 [Ent.blk b8 46 #[v3], Ent.blk b6 46 #[v1], Ent.snap w0 w0.heap.size] w) (fun o => outc o (fun x => some x) (fun s => M.laws_w6Races_a1 s) = some r) ho47 hm ⟨rfl, rfl, rfl, hL⟩ ?_ ?_
    · intro s_l1 F48 wd49 hJ hm
      have hm := outcE hm
      have hm : M.laws_w6Races_a1 s_l1 = some r := hm
      unfold M.laws_w6Races_a1 at hm
      obtain ⟨f50, f51, f52, hL⟩ := hJ
      refine CW.seq ?_
      refine CW.regionL ?_
      refine OW.cons (OP.val (v := (.bool true)) rfl (x_assign) ?_)
      refine OW.nil ?_
      refine CW.ret ?_
      obtain rfl := Option.some.inj hm
      exact RR1 rfl rfl ⟨rfl, hL.fresh 2 rfl [] (by decide) (by decide) rfl⟩
    · intro s_l1 F53 wd54 t44 hJ hm hr45
      unfold M.laws_w6Races_l1 at hm
      obtain ⟨f55, f56, f57, hL⟩ := hJ
      refine CW.seq ?_
      refine CW.seq ?_
      refine CW.regionL ?_
      refine OW.cons (OP.val (v := (.int .i64 s_l1)) rfl (x_mv f57) ?_)
      refine OW.cons (OP.val (v := (.pointer (some ⟨b6, 0, none⟩))) rfl (x_fieldAddr (fsz := 1) 0 0 0 Try.underlying46 rfl Try_T44 rfl f55 rfl) ?_)
      refine OW.cons (OP.val (v := v1) rfl (x_load1 Try.underlying44 rfl rfl (hL.cellB 1 rfl rfl)) ?_)
      refine OW.cons (OP.val (v := (.int .i64 (a0.Finishes.length : Int))) rfl (x_lenR Try.underlying44 rfl (hL.rdS 2 rfl h2)) ?_)
      refine OW.cons (OP.val (v := (.bool (decide (s_l1 < (a0.Finishes.length : Int))))) rfl (x_lss rfl rfl) ?_)
      refine OW.nil ?_
      refine CW.condM (t := decide (s_l1 < (a0.Finishes.length : Int))) rfl hm (fun hb58 hm => ?_) (fun hb58 hm => ?_)
      · refine CW.skip ?_
        refine CW.seq ?_
        refine CW.block ?_
        refine CW.seq ?_
        refine CW.draw Try_mixed ?_
        have hL := hL.call (Mod.drew _)
        refine DW.pre (fuel := 0) (fin := ((((((((((((Array.replicate 11 false).setIfInBounds 0 true).setIfInBounds 1 true).setIfInBounds 2 true).setIfInBounds 3 true).setIfInBounds 4 true).setIfInBounds 5 true).setIfInBounds 6 true).setIfInBounds 7 true).setIfInBounds 8 true).setIfInBounds 9 true).setIfInBounds 10 true)) (C := fun w' => Mod None_ _ w') [0, 1, 2, 3, 4, 5, 6, 7, 8, 9, 10] (Mod.refl _ _) (by kernel_rfl) (by kernel_rfl) ?_
        refine QW.cons rfl (QP.val (v := (.pointer (some ⟨b6, 0, none⟩))) rfl (fun w' hm' => x_fieldAddr (fsz := 1) 0 0 0 Try.underlying46 rfl Try_T44 rfl f55 rfl) ?_)
        refine QW.cons rfl (QP.val (v := v1) rfl (fun w' hm' => x_load1 Try.underlying44 rfl rfl ((hL.call hm').cellB 1 rfl rfl)) ?_)
        refine QW.cons rfl (QP.val (v := (.int .i64 s_l1)) rfl (fun w' hm' => x_mv f57) ?_)
        obtain ⟨x59, ha60, hm⟩ := bndE hm
        obtain ⟨hz61, ha65⟩ := idxE ha60
        obtain ⟨b62, q63, hix64⟩ := rdL_ix (hL.rdS 2 rfl h2) hz61 ha65
        refine QW.cons rfl (QP.val (v := (.pointer (some ⟨b62, q63, none⟩))) rfl (fun w' hm' => x_ix Try.underlying44 Try_T50 rfl rfl hix64) ?_)
        refine QW.cons rfl (QP.val (v := (.agg #[(.int .i64 x59.Boat), (.int .i64 x59.Code), (.int .i64 x59.Time)])) rfl (fun w' hm' => x_loadN (cs := [(.int .i64 x59.Boat), (.int .i64 x59.Code), (.int .i64 x59.Time)]) Try.underlying50 Try_T50 rfl rfl (rdF_cells ((hL.call hm').rdS 2 rfl h2) hix64 ha65)) ?_)
        refine QW.cons rfl (QP.val (v := (.pointer (some ⟨b8, 0, none⟩))) rfl (fun w' hm' => x_fieldAddr (fsz := 1) 0 0 0 Try.underlying46 rfl Try_T44 rfl f56 rfl) ?_)
        refine QW.cons rfl (QP.val (v := v3) rfl (fun w' hm' => x_load1 Try.underlying44 rfl rfl ((hL.call hm').cellB 0 rfl rfl)) ?_)
        refine QW.cons rfl (QP.val (v := (.int .i64 s_l1)) rfl (fun w' hm' => x_mv f57) ?_)
        obtain ⟨x66, ha67, hm⟩ := bndE hm
        obtain ⟨hz68, ha72⟩ := idxE ha67
        obtain ⟨b69, q70, hix71⟩ := rdL_ix (hL.rdS 2 rfl h4) hz68 ha72
        refine QW.cons rfl (QP.val (v := (.pointer (some ⟨b69, q70, none⟩))) rfl (fun w' hm' => x_ix Try.underlying44 Try_T50 rfl rfl hix71) ?_)
        refine QW.cons rfl (QP.val (v := (.agg #[(.int .i64 x66.Boat), (.int .i64 x66.Code), (.int .i64 x66.Time)])) rfl (fun w' hm' => x_loadN (cs := [(.int .i64 x66.Boat), (.int .i64 x66.Code), (.int .i64 x66.Time)]) Try.underlying50 Try_T50 rfl rfl (rdF_cells ((hL.call hm').rdS 2 rfl h4) hix71 ha72)) ?_)
        refine QW.cons rfl (QP.val (v := (.bool (!(eqL [x59.Boat, x59.Code, x59.Time] [x66.Boat, x66.Code, x66.Time])))) rfl (fun w' hm' => (x_eqS (xs := [x59.Boat, x59.Code, x59.Time]) (ys := [x66.Boat, x66.Code, x66.Time]) (by kernel_rfl) rfl (by kernel_rfl) rfl rfl).2) ?_)
        refine QW.nil ?_
        intro wd73 hmod
        have hL := hL.call hmod
        refine DW.done (by kernel_rfl) ?_
        refine CW.condM (t := !(eqL [x59.Boat, x59.Code, x59.Time] [x66.Boat, x66.Code, x66.Time])) rfl hm (fun hb74 hm => ?_) (fun hb74 hm => ?_)
        · refine CW.seq ?_
          refine CW.regionL ?_
          refine OW.cons (OP.val (v := (.bool false)) rfl (x_assign) ?_)
          refine OW.nil ?_
          refine CW.ret ?_
          obtain rfl := Option.some.inj hm
          have hm := hr45 _ rfl
          obtain rfl := Option.some.inj hm
          exact RR1 rfl rfl ⟨rfl, hL.fresh 2 rfl [] (by decide) (by decide) rfl⟩
        · refine CW.skip ?_
          refine CW.regionL ?_
          refine OW.cons (OP.val (v := (.int .i64 s_l1)) rfl (x_mv f57) ?_)
          refine OW.cons (OP.val (v := (.int .i64 (w64 (s_l1 + 1)))) rfl (x_add rfl rfl) ?_)
          refine OW.cons (OP.val (v := (.int .i64 (w64 (s_l1 + 1)))) rfl (x_assign) ?_)
          refine OW.nil ?_
          obtain rfl := Option.some.inj hm
          exact ⟨_, rfl, ⟨f55, f56, rfl, hL⟩⟩
      · refine CW.exit ?_
        refine XJ.hit ?_
        obtain rfl := Option.some.inj hm
        exact ⟨_, rfl, ⟨f55, f56, f57, hL⟩⟩

theorem M.laws_w6Series_ok (w0 : World) (a0 : Series) {v1 : Value} (h2 : rdL (· < w0.heap.size) w0 v1 a0.Races) (a1 : Series) {v3 : Value} (h4 : rdL (· < w0.heap.size) w0 v3 a1.Races) {r : Bool} (hm : M.laws_w6Series a0 a1 = some r) :
    Calls Try.prog 20 #[(.agg #[(.int .i64 a0.Boats), (.int .i64 a0.Scheme), v1]), (.agg #[(.int .i64 a1.Boats), (.int .i64 a1.Scheme), v3])] w0 fun e w' => e = .returned (.bool r) ∧ Fresh w0 w' [] := by
  unfold M.laws_w6Series at hm
  refine calls_CW (args := [(.agg #[(.int .i64 a0.Boats), (.int .i64 a0.Scheme), v1]), (.agg #[(.int .i64 a1.Boats), (.int .i64 a1.Scheme), v3])]) Try.func20 rfl rfl rfl ?_
  have hL := Hp.start w0
  refine CW.seq ?_
  refine CW.regionL ?_
  refine OW.cons (S_box (cs := #[(.int .i64 a0.Boats), (.int .i64 a0.Scheme), v1]) hL rfl rfl rfl ?_)
  intro wd5 b6 hL
  refine OW.cons (S_box (cs := #[(.int .i64 a1.Boats), (.int .i64 a1.Scheme), v3]) hL rfl rfl rfl ?_)
  intro wd7 b8 hL
  refine OW.cons (OP.val (v := (.bool false)) rfl (x_assign) ?_)
  refine OW.nil ?_
  refine CW.seq ?_
  refine CW.seqJ (fun (s_j1 : Bool) (F : Fr) (w : World) => F 2 = (.pointer (some ⟨b6, 0, none⟩)) ∧ F 3 = (.pointer (some ⟨b8, 0, none⟩)) ∧ F 26 = (.bool s_j1) ∧ Hp w0 [Ent.blk b8 31 #[(.int .i64 a1.Boats), (.int .i64 a1.Scheme), v3], Ent.blk b6 31 #[(.int .i64 a0.Boats), (.int .i64 a0.Scheme), v1], Ent.snap w0 w0.heap.size] w) (fun s_j1 => M.laws_w6Series_j1 a0 a1 s_j1 = some r) ?_ ?_
  · refine CW.regionL ?_
    refine OW.cons (OP.val (v := (.pointer (some ⟨b6, 0, none⟩))) rfl (x_fieldAddr (fsz := 1) 0 0 0 Try.underlying31 rfl Try_T2 rfl rfl rfl) ?_)
    refine OW.cons (OP.val (v := (.int .i64 a0.Boats)) rfl (x_load1 Try.underlying2 rfl rfl (hL.cellB 1 rfl rfl)) ?_)
    refine OW.cons (OP.val (v := (.pointer (some ⟨b8, 0, none⟩))) rfl (x_fieldAddr (fsz := 1) 0 0 0 Try.underlying31 rfl Try_T2 rfl rfl rfl) ?_)
    refine OW.cons (OP.val (v := (.int .i64 a1.Boats)) rfl (x_load1 Try.underlying2 rfl rfl (hL.cellB 0 rfl rfl)) ?_)
    refine OW.cons (OP.val (v := (.bool (a0.Boats != a1.Boats))) rfl (x_neq rfl rfl) ?_)
    refine OW.cons (OP.val (v := (.bool (a0.Boats != a1.Boats))) rfl (x_move) ?_)
    refine ifB_elim hm (fun hb112 hm => ?_) (fun hb112 hm => ?_)
    · refine OW.cons (OP.no' rfl rfl hb112 rfl ?_)
      refine OW.cons (OP.no' rfl rfl hb112 rfl ?_)
      refine OW.cons (OP.no' rfl rfl hb112 rfl ?_)
      refine OW.cons (OP.no' rfl rfl hb112 rfl ?_)
      refine OW.cons (OP.no' rfl rfl hb112 rfl ?_)
      refine OW.cons (OP.val (v := (.bool true)) rfl (x_pickT' rfl hb112 rfl) ?_)
      refine OW.cons (OP.val (v := (.bool true)) rfl (x_move) ?_)
      refine OW.cons (OP.no' rfl rfl rfl rfl ?_)
      refine OW.cons (OP.no' rfl rfl rfl rfl ?_)
      refine OW.cons (OP.no' rfl rfl rfl rfl ?_)
      refine OW.cons (OP.no' rfl rfl rfl rfl ?_)
      refine OW.cons (OP.no' rfl rfl rfl rfl ?_)
      refine OW.cons (OP.no' rfl rfl rfl rfl ?_)
      refine OW.cons (OP.no' rfl rfl rfl rfl ?_)
      refine OW.cons (OP.val (v := (.bool true)) rfl (x_pickT' rfl rfl rfl) ?_)
      refine OW.nil ?_
      exact ⟨true, hm, ⟨rfl, rfl, rfl, hL⟩⟩
    · refine OW.cons (OP.yes' rfl rfl hb112 (OP.val (v := (.pointer (some ⟨b6, 1, none⟩))) rfl (x_fieldAddr (fsz := 1) 0 1 1 Try.underlying31 rfl Try_T2 rfl rfl rfl) ?_))
      refine OW.cons (OP.yes' rfl rfl hb112 (OP.val (v := (.int .i64 a0.Scheme)) rfl (x_load1 Try.underlying2 rfl rfl (hL.cellB 1 rfl rfl)) ?_))
      refine OW.cons (OP.yes' rfl rfl hb112 (OP.val (v := (.pointer (some ⟨b8, 1, none⟩))) rfl (x_fieldAddr (fsz := 1) 0 1 1 Try.underlying31 rfl Try_T2 rfl rfl rfl) ?_))
      refine OW.cons (OP.yes' rfl rfl hb112 (OP.val (v := (.int .i64 a1.Scheme)) rfl (x_load1 Try.underlying2 rfl rfl (hL.cellB 0 rfl rfl)) ?_))
      refine OW.cons (OP.yes' rfl rfl hb112 (OP.val (v := (.bool (a0.Scheme != a1.Scheme))) rfl (x_neq rfl rfl) ?_))
      refine OW.cons (OP.val (v := (.bool (a0.Scheme != a1.Scheme))) rfl (x_pickF' rfl hb112 rfl) ?_)
      refine OW.cons (OP.val (v := (.bool (a0.Scheme != a1.Scheme))) rfl (x_move) ?_)
      refine ifB_elim hm (fun hb113 hm => ?_) (fun hb113 hm => ?_)
      · refine OW.cons (OP.no' rfl rfl hb113 rfl ?_)
        refine OW.cons (OP.no' rfl rfl hb113 rfl ?_)
        refine OW.cons (OP.no' rfl rfl hb113 rfl ?_)
        refine OW.cons (OP.no' rfl rfl hb113 rfl ?_)
        refine OW.cons (OP.no' rfl rfl hb113 rfl ?_)
        refine OW.cons (OP.no' rfl rfl hb113 rfl ?_)
        refine OW.cons (OP.no' rfl rfl hb113 rfl ?_)
        refine OW.cons (OP.val (v := (.bool true)) rfl (x_pickT' rfl hb113 rfl) ?_)
        refine OW.nil ?_
        exact ⟨true, hm, ⟨rfl, rfl, rfl, hL⟩⟩
      · refine OW.cons (OP.yes' rfl rfl hb113 (OP.val (v := (.pointer (some ⟨b6, 2, none⟩))) rfl (x_fieldAddr (fsz := 1) 0 2 2 Try.underlying31 rfl Try_T29 rfl rfl rfl) ?_))
        refine OW.cons (OP.yes' rfl rfl hb113 (OP.val (v := v1) rfl (x_load1 Try.underlying29 rfl rfl (hL.cellB 1 rfl rfl)) ?_))
        refine OW.cons (OP.yes' rfl rfl hb113 (OP.val (v := (.int .i64 (a0.Races.length : Int))) rfl (x_lenR Try.underlying29 rfl (hL.rdS 2 rfl h2)) ?_))
        refine OW.cons (OP.yes' rfl rfl hb113 (OP.val (v := (.pointer (some ⟨b8, 2, none⟩))) rfl (x_fieldAddr (fsz := 1) 0 2 2 Try.underlying31 rfl Try_T29 rfl rfl rfl) ?_))
        refine OW.cons (OP.yes' rfl rfl hb113 (OP.val (v := v3) rfl (x_load1 Try.underlying29 rfl rfl (hL.cellB 0 rfl rfl)) ?_))
        refine OW.cons (OP.yes' rfl rfl hb113 (OP.val (v := (.int .i64 (a1.Races.length : Int))) rfl (x_lenR Try.underlying29 rfl (hL.rdS 2 rfl h4)) ?_))
        refine OW.cons (OP.yes' rfl rfl hb113 (OP.val (v := (.bool ((a0.Races.length : Int) != (a1.Races.length : Int)))) rfl (x_neq rfl rfl) ?_))
        refine OW.cons (OP.val (v := (.bool ((a0.Races.length : Int) != (a1.Races.length : Int)))) rfl (x_pickF' rfl hb113 rfl) ?_)
        refine OW.nil ?_
        exact ⟨(a0.Races.length : Int) != (a1.Races.length : Int), hm, ⟨rfl, rfl, rfl, hL⟩⟩
  · intro s_j1 F11 wd12 hJ hm
    unfold M.laws_w6Series_j1 at hm
    obtain ⟨f13, f14, f15, hL⟩ := hJ
    refine CW.condM (t := s_j1) f15 hm (fun hb16 hm => ?_) (fun hb16 hm => ?_)
    · refine CW.seq ?_
      refine CW.regionL ?_
      refine OW.cons (OP.val (v := (.bool false)) rfl (x_assign) ?_)
      refine OW.nil ?_
      refine CW.ret ?_
      obtain rfl := Option.some.inj hm
      exact RR1 rfl rfl ⟨rfl, hL.fresh 2 rfl [] (by decide) (by decide) rfl⟩
    · refine CW.skip ?_
      refine CW.seq ?_
      refine CW.seq ?_
      refine CW.regionL ?_
      refine OW.cons (OP.val (v := (.int .i64 0)) rfl (x_assign) ?_)
      refine OW.nil ?_
      obtain ⟨o73, ho74, hm⟩ := bndE hm
      refine CW.loopB (fun (s_l1 : Int) (F : Fr) (w : World) => F 2 = (.pointer (some ⟨b6, 0, none⟩)) ∧ F 3 = (.pointer (some ⟨b8, 0, none⟩)) ∧ F 5 = (.int .i64 s_l1) ∧ Hp w0 [Ent.blk b8 31 #[(.int .i64 a1.Boats), (.int .i64 a1.Scheme), v3], Ent.blk b6 31 #[(.int .i64 a0.Boats), (.int .i64 a0.Scheme), v1], Ent.snap w0 w0.heap.size] w) (fun o => outc o (fun x => some x) (fun s => M.laws_w6Series_a1 s) = some r) ho74 hm ⟨f13, f14, rfl, hL⟩ ?_ ?_
      · intro s_l1 F75 wd76 hJ hm
        have hm := outcE hm
        have hm : M.laws_w6Series_a1 s_l1 = some r := hm
        unfold M.laws_w6Series_a1 at hm
        obtain ⟨f77, f78, f79, hL⟩ := hJ
        refine CW.seq ?_
        refine CW.regionL ?_
        refine OW.cons (OP.val (v := (.bool true)) rfl (x_assign) ?_)
        refine OW.nil ?_
        refine CW.ret ?_
        obtain rfl := Option.some.inj hm
        exact RR1 rfl rfl ⟨rfl, hL.fresh 2 rfl [] (by decide) (by decide) rfl⟩
      · intro s_l1 F80 wd81 t71 hJ hm hr72
        unfold M.laws_w6Series_l1 at hm
        obtain ⟨f82, f83, f84, hL⟩ := hJ
        refine CW.seq ?_
        refine CW.seq ?_
        refine CW.regionL ?_
        refine OW.cons (OP.val (v := (.int .i64 s_l1)) rfl (x_mv f84) ?_)
        refine OW.cons (OP.val (v := (.pointer (some ⟨b6, 2, none⟩))) rfl (x_fieldAddr (fsz := 1) 0 2 2 Try.underlying31 rfl Try_T29 rfl f82 rfl) ?_)
        refine OW.cons (OP.val (v := v1) rfl (x_load1 Try.underlying29 rfl rfl (hL.cellB 1 rfl rfl)) ?_)
        refine OW.cons (OP.val (v := (.int .i64 (a0.Races.length : Int))) rfl (x_lenR Try.underlying29 rfl (hL.rdS 2 rfl h2)) ?_)
        refine OW.cons (OP.val (v := (.bool (decide (s_l1 < (a0.Races.length : Int))))) rfl (x_lss rfl rfl) ?_)
        refine OW.nil ?_
        refine CW.condM (t := decide (s_l1 < (a0.Races.length : Int))) rfl hm (fun hb85 hm => ?_) (fun hb85 hm => ?_)
        · refine CW.skip ?_
          refine CW.seq ?_
          refine CW.block ?_
          refine CW.seq ?_
          refine CW.draw Try_mixed ?_
          have hL := hL.call (Mod.drew _)
          refine DW.pre (fuel := 0) (fin := (((((((((((((Array.replicate 12 false).setIfInBounds 0 true).setIfInBounds 1 true).setIfInBounds 2 true).setIfInBounds 3 true).setIfInBounds 4 true).setIfInBounds 5 true).setIfInBounds 6 true).setIfInBounds 7 true).setIfInBounds 8 true).setIfInBounds 9 true).setIfInBounds 10 true).setIfInBounds 11 true)) (C := fun w' => Mod None_ _ w') [0, 1, 2, 3, 4, 5, 6, 7, 8, 9, 10, 11] (Mod.refl _ _) (by kernel_rfl) (by kernel_rfl) ?_
          refine QW.cons rfl (QP.val (v := (.pointer (some ⟨b6, 2, none⟩))) rfl (fun w' hm' => x_fieldAddr (fsz := 1) 0 2 2 Try.underlying31 rfl Try_T29 rfl f82 rfl) ?_)
          refine QW.cons rfl (QP.val (v := v1) rfl (fun w' hm' => x_load1 Try.underlying29 rfl rfl ((hL.call hm').cellB 1 rfl rfl)) ?_)
          refine QW.cons rfl (QP.val (v := (.int .i64 s_l1)) rfl (fun w' hm' => x_mv f84) ?_)
          obtain ⟨x86, ha87, hm⟩ := bndE hm
          obtain ⟨hz88, ha96⟩ := idxE ha87
          obtain ⟨b89, q90, v91, hix92, hs93, hc94, hr95⟩ := rdN_at h2 hz88 ha96
          refine QW.cons rfl (QP.val (v := (.pointer (some ⟨b89, q90, none⟩))) rfl (fun w' hm' => x_ix Try.underlying29 Try_T46 rfl rfl hix92) ?_)
          refine QW.cons rfl (QP.val (v := (.agg #[v91])) rfl (fun w' hm' => x_loadN (cs := [v91]) Try.underlying46 Try_T46 rfl rfl (by intro j u hj; match j, hj with | 0, hj => (simp at hj; subst hj; exact ((hL.call hm').cellS 2 rfl hs93 hc94)))) ?_)
          refine QW.cons rfl (QP.val (v := (.pointer (some ⟨b8, 2, none⟩))) rfl (fun w' hm' => x_fieldAddr (fsz := 1) 0 2 2 Try.underlying31 rfl Try_T29 rfl f83 rfl) ?_)
          refine QW.cons rfl (QP.val (v := v3) rfl (fun w' hm' => x_load1 Try.underlying29 rfl rfl ((hL.call hm').cellB 0 rfl rfl)) ?_)
          refine QW.cons rfl (QP.val (v := (.int .i64 s_l1)) rfl (fun w' hm' => x_mv f84) ?_)
          obtain ⟨x97, ha98, hm⟩ := bndE hm
          obtain ⟨hz99, ha107⟩ := idxE ha98
          obtain ⟨b100, q101, v102, hix103, hs104, hc105, hr106⟩ := rdN_at h4 hz99 ha107
          refine QW.cons rfl (QP.val (v := (.pointer (some ⟨b100, q101, none⟩))) rfl (fun w' hm' => x_ix Try.underlying29 Try_T46 rfl rfl hix103) ?_)
          refine QW.cons rfl (QP.val (v := (.agg #[v102])) rfl (fun w' hm' => x_loadN (cs := [v102]) Try.underlying46 Try_T46 rfl rfl (by intro j u hj; match j, hj with | 0, hj => (simp at hj; subst hj; exact ((hL.call hm').cellS 2 rfl hs104 hc105)))) ?_)
          obtain ⟨x108, hx109, hm⟩ := bndE hm
          refine QW.cons rfl (QP.call (v := (.bool x108)) rfl (fun w' hm' => x_call (vs := [(.agg #[v91]), (.agg #[v102])]) Try_C47 ⟨rfl, rfl, trivial⟩) (fun w' hm' => (M.laws_w6Races_ok w' x86 ((hL.call hm').rdS 2 rfl hr95) x97 ((hL.call hm').rdS 2 rfl hr106) hx109).mono (fun e w'' h => ⟨h.1, hm'.trans h.2.mod⟩)) ?_)
          refine QW.cons rfl (QP.val (v := (.bool (!x108))) rfl (fun w' hm' => x_not rfl) ?_)
          refine QW.nil ?_
          intro wd110 hmod
          have hL := hL.call hmod
          refine DW.done (by kernel_rfl) ?_
          refine CW.condM (t := !x108) rfl hm (fun hb111 hm => ?_) (fun hb111 hm => ?_)
          · refine CW.seq ?_
            refine CW.regionL ?_
            refine OW.cons (OP.val (v := (.bool false)) rfl (x_assign) ?_)
            refine OW.nil ?_
            refine CW.ret ?_
            obtain rfl := Option.some.inj hm
            have hm := hr72 _ rfl
            obtain rfl := Option.some.inj hm
            exact RR1 rfl rfl ⟨rfl, hL.fresh 2 rfl [] (by decide) (by decide) rfl⟩
          · refine CW.skip ?_
            refine CW.regionL ?_
            refine OW.cons (OP.val (v := (.int .i64 s_l1)) rfl (x_mv f84) ?_)
            refine OW.cons (OP.val (v := (.int .i64 (w64 (s_l1 + 1)))) rfl (x_add rfl rfl) ?_)
            refine OW.cons (OP.val (v := (.int .i64 (w64 (s_l1 + 1)))) rfl (x_assign) ?_)
            refine OW.nil ?_
            obtain rfl := Option.some.inj hm
            exact ⟨_, rfl, ⟨f82, f83, rfl, hL⟩⟩
        · refine CW.exit ?_
          refine XJ.hit ?_
          obtain rfl := Option.some.inj hm
          exact ⟨_, rfl, ⟨f82, f83, f84, hL⟩⟩

theorem M.laws_FnPenalties_ok (w0 : World) (a0 : List UInt8) {v1 : Value} (h2 : rdL (· < w0.heap.size) w0 v1 a0) {r : Bool} (hm : M.laws_FnPenalties a0 = some r) :
    Calls Try.prog 4 #[v1] w0 fun e w' => e = .returned (.bool r) ∧ Fresh w0 w' [] := by
  unfold M.laws_FnPenalties at hm
  refine calls_CW (args := [v1]) Try.func4 rfl rfl rfl ?_
  have hL := Hp.start w0
  refine CW.seq ?_
  refine CW.regionL ?_
  refine OW.cons (OP.val (v := (.bool false)) rfl (x_assign) ?_)
  refine OW.nil ?_
  refine CW.seq ?_
  refine CW.seq ?_
  refine CW.regionL ?_
  refine OW.cons (OP.val (v := v1) rfl (x_move) ?_)
  obtain ⟨x3, hx4, hm⟩ := bndE hm
  refine OW.cons (OP.call rfl (x_call (vs := [v1]) Try_C16 ⟨rfl, trivial⟩) (M.laws_big_ok _ a0 (hL.rdS 0 rfl h2) hx4) ?_)
  rintro e5 wd6 ⟨rfl, hF7⟩
  refine ⟨_, rfl, ?_⟩
  have hL := hL.pushAll hF7
  simp only [List.cons_append, List.nil_append, List.set_cons_zero, List.set_cons_succ] at hL
  refine OW.nil ?_
  refine CW.condM (t := x3) rfl hm (fun hb8 hm => ?_) (fun hb8 hm => ?_)
  · refine CW.seq ?_
    refine CW.regionL ?_
    refine OW.cons (OP.val (v := (.bool true)) rfl (x_assign) ?_)
    refine OW.nil ?_
    refine CW.ret ?_
    obtain rfl := Option.some.inj hm
    exact RR1 rfl rfl ⟨rfl, hL.fresh 0 rfl [] (by decide) (by decide) rfl⟩
  · refine CW.skip ?_
    refine CW.seq ?_
    refine CW.regionL ?_
    refine OW.cons (OP.val (v := v1) rfl (x_move) ?_)
    obtain ⟨x9, hx10, hm⟩ := bndE hm
    refine OW.cons (OP.call rfl (x_call (vs := [v1]) Try_C17 ⟨rfl, trivial⟩) (M.spec_DrawPenalizedSeries_ok _ a0 (hL.rdS 0 rfl h2) hx10) ?_)
    rintro e15 wd16 ⟨v12, S11, v14, S13, rfl, hF17⟩
    refine ⟨_, rfl, ?_⟩
    have hL := hL.pushAll hF17
    simp only [List.cons_append, List.nil_append, List.set_cons_zero, List.set_cons_succ] at hL
    refine OW.cons (OP.val (v := (.tuple #[(.agg #[(.int .i64 x9.1.Boats), (.int .i64 x9.1.Scheme), v12]), v14])) rfl (x_move) ?_)
    refine OW.cons (OP.val (v := (.agg #[(.int .i64 x9.1.Boats), (.int .i64 x9.1.Scheme), v12])) rfl (x_extract rfl rfl) ?_)
    refine OW.cons (OP.val (v := v14) rfl (x_extract rfl rfl) ?_)
    refine OW.cons (S_alloc (cs := #[(.int .i64 0), (.int .i64 0), (.slice none 0 0)]) hL Try_T31 rfl rfl ?_)
    intro wd18 b19 hL
    refine OW.cons (S_storeN (l := [(.int .i64 x9.1.Boats), (.int .i64 x9.1.Scheme), v12]) (cs' := #[(.int .i64 x9.1.Boats), (.int .i64 x9.1.Scheme), v12]) hL 0 rfl Try_T31 rfl rfl (List.forall_mem_cons.2 ⟨rfl, (List.forall_mem_cons.2 ⟨rfl, (List.forall_mem_cons.2 ⟨rdL_one (hL.rdO 1 rfl), (fun _ h => by cases h)⟩)⟩)⟩) rfl (Nat.le_of_ble_eq_true rfl) rfl ?_)
    intro wd20 hL
    refine OW.cons (OP.val (v := v14) rfl (x_assign) ?_)
    refine OW.nil ?_
    refine CW.seq ?_
    refine CW.regionL ?_
    refine OW.cons (OP.val (v := (.agg #[(.int .i64 x9.1.Boats), (.int .i64 x9.1.Scheme), v12])) rfl (x_loadN (cs := [(.int .i64 x9.1.Boats), (.int .i64 x9.1.Scheme), v12]) Try.underlying31 Try_T31 rfl rfl (hL.cellsB 0 rfl (o := 0) (l := [(.int .i64 x9.1.Boats), (.int .i64 x9.1.Scheme), v12]) (by intro j u hj; exact (by simpa using hj)))) ?_)
    refine OW.cons (OP.val (v := v14) rfl (x_move) ?_)
    obtain ⟨x21, hx22, hm⟩ := bndE hm
    refine OW.cons (OP.call rfl (x_call (vs := [(.agg #[(.int .i64 x9.1.Boats), (.int .i64 x9.1.Scheme), v12]), v14]) Try_C18 ⟨rfl, rfl, trivial⟩) (M.impl_PenalizedSeries_ok _ x9.1 (hL.rdO 1 rfl) x9.2 (hL.rdO 2 rfl) hx22) ?_)
    rintro e25 wd26 ⟨v24, S23, rfl, hF27⟩
    refine ⟨_, rfl, ?_⟩
    have hL := hL.pushAll hF27
    simp only [List.cons_append, List.nil_append, List.set_cons_zero, List.set_cons_succ] at hL
    refine OW.cons (OP.val (v := (.tuple #[(.agg #[(.int .i64 x21.1.Boats), (.int .i64 x21.1.Scheme), v24]), (.int .i64 x21.2)])) rfl (x_move) ?_)
    refine OW.cons (OP.val (v := (.agg #[(.int .i64 x21.1.Boats), (.int .i64 x21.1.Scheme), v24])) rfl (x_extract rfl rfl) ?_)
    refine OW.cons (OP.val (v := (.int .i64 x21.2)) rfl (x_extract rfl rfl) ?_)
    refine OW.cons (S_alloc (cs := #[(.int .i64 0), (.int .i64 0), (.slice none 0 0)]) hL Try_T31 rfl rfl ?_)
    intro wd28 b29 hL
    refine OW.cons (S_storeN (l := [(.int .i64 x21.1.Boats), (.int .i64 x21.1.Scheme), v24]) (cs' := #[(.int .i64 x21.1.Boats), (.int .i64 x21.1.Scheme), v24]) hL 0 rfl Try_T31 rfl rfl (List.forall_mem_cons.2 ⟨rfl, (List.forall_mem_cons.2 ⟨rfl, (List.forall_mem_cons.2 ⟨rdL_one (hL.rdO 1 rfl), (fun _ h => by cases h)⟩)⟩)⟩) rfl (Nat.le_of_ble_eq_true rfl) rfl ?_)
    intro wd30 hL
    refine OW.cons (OP.val (v := (.int .i64 x21.2)) rfl (x_assign) ?_)
    refine OW.nil ?_
    refine CW.seq ?_
    refine CW.regionL ?_
    refine OW.cons (OP.val (v := v1) rfl (x_move) ?_)
    obtain ⟨x31, hx32, hm⟩ := bndE hm
    refine OW.cons (OP.call rfl (x_call (vs := [v1]) Try_C17 ⟨rfl, trivial⟩) (M.spec_DrawPenalizedSeries_ok _ a0 (hL.rdS 5 rfl h2) hx32) ?_)
    rintro e37 wd38 ⟨v34, S33, v36, S35, rfl, hF39⟩
    refine ⟨_, rfl, ?_⟩
    have hL := hL.pushAll hF39
    simp only [List.cons_append, List.nil_append, List.set_cons_zero, List.set_cons_succ] at hL
    refine OW.cons (OP.val (v := (.tuple #[(.agg #[(.int .i64 x31.1.Boats), (.int .i64 x31.1.Scheme), v34]), v36])) rfl (x_move) ?_)
    refine OW.cons (OP.val (v := (.agg #[(.int .i64 x31.1.Boats), (.int .i64 x31.1.Scheme), v34])) rfl (x_extract rfl rfl) ?_)
    refine OW.cons (OP.val (v := v36) rfl (x_extract rfl rfl) ?_)
    refine OW.cons (S_storeN (l := [(.int .i64 x31.1.Boats), (.int .i64 x31.1.Scheme), v34]) (cs' := #[(.int .i64 x31.1.Boats), (.int .i64 x31.1.Scheme), v34]) hL 4 rfl Try_T31 rfl rfl (List.forall_mem_cons.2 ⟨rfl, (List.forall_mem_cons.2 ⟨rfl, (List.forall_mem_cons.2 ⟨rdL_one (hL.rdO 0 rfl), (fun _ h => by cases h)⟩)⟩)⟩) rfl (Nat.le_of_ble_eq_true rfl) rfl ?_)
    intro wd40 hL
    refine OW.cons (OP.val (v := v36) rfl (x_assign) ?_)
    refine OW.nil ?_
    refine CW.seq ?_
    refine CW.regionL ?_
    refine OW.cons (OP.val (v := (.agg #[(.int .i64 x31.1.Boats), (.int .i64 x31.1.Scheme), v34])) rfl (x_loadN (cs := [(.int .i64 x31.1.Boats), (.int .i64 x31.1.Scheme), v34]) Try.underlying31 Try_T31 rfl rfl (hL.cellsB 4 rfl (o := 0) (l := [(.int .i64 x31.1.Boats), (.int .i64 x31.1.Scheme), v34]) (by intro j u hj; exact (by simpa using hj)))) ?_)
    refine OW.cons (OP.val (v := v36) rfl (x_move) ?_)
    obtain ⟨x41, hx42, hm⟩ := bndE hm
    refine OW.cons (OP.call rfl (x_call (vs := [(.agg #[(.int .i64 x31.1.Boats), (.int .i64 x31.1.Scheme), v34]), v36]) Try_C19 ⟨rfl, rfl, trivial⟩) (M.spec_PenalizedSeries_ok _ x31.1 (hL.rdO 0 rfl) x31.2 (hL.rdO 1 rfl) hx42) ?_)
    rintro e45 wd46 ⟨v44, S43, rfl, hF47⟩
    refine ⟨_, rfl, ?_⟩
    have hL := hL.pushAll hF47
    simp only [List.cons_append, List.nil_append, List.set_cons_zero, List.set_cons_succ] at hL
    refine OW.cons (OP.val (v := (.tuple #[(.agg #[(.int .i64 x41.1.Boats), (.int .i64 x41.1.Scheme), v44]), (.int .i64 x41.2)])) rfl (x_move) ?_)
    refine OW.cons (OP.val (v := (.agg #[(.int .i64 x41.1.Boats), (.int .i64 x41.1.Scheme), v44])) rfl (x_extract rfl rfl) ?_)
    refine OW.cons (OP.val (v := (.int .i64 x41.2)) rfl (x_extract rfl rfl) ?_)
    refine OW.cons (S_alloc (cs := #[(.int .i64 0), (.int .i64 0), (.slice none 0 0)]) hL Try_T31 rfl rfl ?_)
    intro wd48 b49 hL
    refine OW.cons (S_storeN (l := [(.int .i64 x41.1.Boats), (.int .i64 x41.1.Scheme), v44]) (cs' := #[(.int .i64 x41.1.Boats), (.int .i64 x41.1.Scheme), v44]) hL 0 rfl Try_T31 rfl rfl (List.forall_mem_cons.2 ⟨rfl, (List.forall_mem_cons.2 ⟨rfl, (List.forall_mem_cons.2 ⟨rdL_one (hL.rdO 1 rfl), (fun _ h => by cases h)⟩)⟩)⟩) rfl (Nat.le_of_ble_eq_true rfl) rfl ?_)
    intro wd50 hL
    refine OW.cons (OP.val (v := (.int .i64 x41.2)) rfl (x_assign) ?_)
    refine OW.nil ?_
    refine CW.seq ?_
    refine CW.seqJ (fun (s_j1 : Bool) (F : Fr) (w : World) => F 3 = (.pointer (some ⟨b19, 0, none⟩)) ∧ F 4 = v36 ∧ F 6 = (.int .i64 x21.2) ∧ F 7 = (.pointer (some ⟨b49, 0, none⟩)) ∧ F 53 = (.bool s_j1) ∧ Hp w0 [Ent.blk b49 31 #[(.int .i64 x41.1.Boats), (.int .i64 x41.1.Scheme), v44], Ent.own 46 S43 v44 x41.1.Races, Ent.own 46 S33 v34 x31.1.Races, Ent.own 48 S35 v36 x31.2, Ent.blk b29 31 #[(.int .i64 x21.1.Boats), (.int .i64 x21.1.Scheme), v24], Ent.own 46 S23 v24 x21.1.Races, Ent.blk b19 31 #[(.int .i64 x31.1.Boats), (.int .i64 x31.1.Scheme), v34], Ent.snap w0 w0.heap.size] w) (fun s_j1 => M.laws_FnPenalties_j1 x21 x31 x41 s_j1 = some r) ?_ ?_
    · refine CW.regionL ?_
      refine OW.cons (OP.val (v := (.int .i64 x21.2)) rfl (x_move) ?_)
      refine OW.cons (OP.val (v := (.int .i64 x41.2)) rfl (x_move) ?_)
      refine OW.cons (OP.val (v := (.bool (x21.2 != x41.2))) rfl (x_neq rfl rfl) ?_)
      refine OW.cons (OP.val (v := (.bool (x21.2 != x41.2))) rfl (x_move) ?_)
      refine ifB_elim hm (fun hb3813 hm => ?_) (fun hb3813 hm => ?_)
      · refine OW.cons (OP.no' rfl rfl hb3813 rfl ?_)
        refine OW.cons (OP.no' rfl rfl hb3813 rfl ?_)
        refine OW.cons (OP.no' rfl rfl hb3813 rfl ?_)
        refine OW.cons (OP.no' rfl rfl hb3813 rfl ?_)
        refine OW.cons (OP.val (v := (.bool true)) rfl (x_pickT' rfl hb3813 rfl) ?_)
        refine OW.cons (OP.val (v := (.bool true)) rfl (x_move) ?_)
        refine OW.cons (OP.no' rfl rfl rfl rfl ?_)
        refine OW.cons (OP.no' rfl rfl rfl rfl ?_)
        refine OW.cons (OP.no' rfl rfl rfl rfl ?_)
        refine OW.cons (OP.no' rfl rfl rfl rfl ?_)
        refine OW.cons (OP.no' rfl rfl rfl rfl ?_)
        refine OW.cons (OP.no' rfl rfl rfl rfl ?_)
        refine OW.cons (OP.val (v := (.bool true)) rfl (x_pickT' rfl rfl rfl) ?_)
        refine OW.nil ?_
        have hL := hL.sel [0, 1, 2, 3, 4, 5, 6, 9] (by decide) rfl
        exact ⟨true, hm, ⟨rfl, rfl, rfl, rfl, rfl, hL⟩⟩
      · refine OW.cons (OP.yes' rfl rfl hb3813 (OP.val (v := (.agg #[(.int .i64 x21.1.Boats), (.int .i64 x21.1.Scheme), v24])) rfl (x_loadN (cs := [(.int .i64 x21.1.Boats), (.int .i64 x21.1.Scheme), v24]) Try.underlying31 Try_T31 rfl rfl (hL.cellsB 4 rfl (o := 0) (l := [(.int .i64 x21.1.Boats), (.int .i64 x21.1.Scheme), v24]) (by intro j u hj; exact (by simpa using hj)))) ?_))
        refine OW.cons (OP.yes' rfl rfl hb3813 (OP.val (v := (.agg #[(.int .i64 x41.1.Boats), (.int .i64 x41.1.Scheme), v44])) rfl (x_loadN (cs := [(.int .i64 x41.1.Boats), (.int .i64 x41.1.Scheme), v44]) Try.underlying31 Try_T31 rfl rfl (hL.cellsB 0 rfl (o := 0) (l := [(.int .i64 x41.1.Boats), (.int .i64 x41.1.Scheme), v44]) (by intro j u hj; exact (by simpa using hj)))) ?_))
        obtain ⟨x3814, hx3815, hm⟩ := bndE hm
        refine OW.cons (OP.yes' rfl rfl hb3813 (OP.call rfl (x_call (vs := [(.agg #[(.int .i64 x21.1.Boats), (.int .i64 x21.1.Scheme), v24]), (.agg #[(.int .i64 x41.1.Boats), (.int .i64 x41.1.Scheme), v44])]) Try_C20 ⟨rfl, rfl, trivial⟩) (M.laws_w6Series_ok _ x21.1 (hL.rdO 5 rfl) x41.1 (hL.rdO 1 rfl) hx3815) ?_))
        rintro e3816 wd3817 ⟨rfl, hF3818⟩
        refine ⟨_, rfl, ?_⟩
        have hL := hL.pushAll hF3818
        simp only [List.cons_append, List.nil_append, List.set_cons_zero, List.set_cons_succ] at hL
        refine OW.cons (OP.yes' rfl rfl hb3813 (OP.val (v := (.bool (!x3814))) rfl (x_not rfl) ?_))
        refine OW.cons (OP.val (v := (.bool (!x3814))) rfl (x_pickF' rfl hb3813 rfl) ?_)
        refine OW.cons (OP.val (v := (.bool (!x3814))) rfl (x_move) ?_)
        refine ifB_elim hm (fun hb3819 hm => ?_) (fun hb3819 hm => ?_)
        · refine OW.cons (OP.no' rfl rfl hb3819 rfl ?_)
          refine OW.cons (OP.no' rfl rfl hb3819 rfl ?_)
          refine OW.cons (OP.no' rfl rfl hb3819 rfl ?_)
          refine OW.cons (OP.no' rfl rfl hb3819 rfl ?_)
          refine OW.cons (OP.no' rfl rfl hb3819 rfl ?_)
          refine OW.cons (OP.no' rfl rfl hb3819 rfl ?_)
          refine OW.cons (OP.val (v := (.bool true)) rfl (x_pickT' rfl hb3819 rfl) ?_)
          refine OW.nil ?_
          have hL := hL.sel [0, 1, 2, 3, 4, 5, 6, 9] (by decide) rfl
          exact ⟨true, hm, ⟨rfl, rfl, rfl, rfl, rfl, hL⟩⟩
        · refine OW.cons (OP.yes' rfl rfl hb3819 (OP.val (v := (.agg #[(.int .i64 x31.1.Boats), (.int .i64 x31.1.Scheme), v34])) rfl (x_loadN (cs := [(.int .i64 x31.1.Boats), (.int .i64 x31.1.Scheme), v34]) Try.underlying31 Try_T31 rfl rfl (hL.cellsB 6 rfl (o := 0) (l := [(.int .i64 x31.1.Boats), (.int .i64 x31.1.Scheme), v34]) (by intro j u hj; exact (by simpa using hj)))) ?_))
          refine OW.cons (OP.yes' rfl rfl hb3819 (OP.val (v := v36) rfl (x_move) ?_))
          obtain ⟨x3820, hx3821, hm⟩ := bndE hm
          refine OW.cons (OP.yes' rfl rfl hb3819 (OP.call rfl (x_call (vs := [(.agg #[(.int .i64 x31.1.Boats), (.int .i64 x31.1.Scheme), v34]), v36]) Try_C13 ⟨rfl, rfl, trivial⟩) (M.impl_IsPenalties_ok _ x31.1 (hL.rdO 2 rfl) x31.2 (hL.rdO 3 rfl) hx3821) ?_))
          rintro e3822 wd3823 ⟨rfl, hF3824⟩
          refine ⟨_, rfl, ?_⟩
          have hL := hL.pushAll hF3824
          simp only [List.cons_append, List.nil_append, List.set_cons_zero, List.set_cons_succ] at hL
          refine OW.cons (OP.yes' rfl rfl hb3819 (OP.val (v := (.int .i64 x21.2)) rfl (x_move) ?_))
          refine OW.cons (OP.yes' rfl rfl hb3819 (OP.val (v := (.bool (x21.2 == 0))) rfl (x_eql rfl rfl) ?_))
          refine OW.cons (OP.yes' rfl rfl hb3819 (OP.val (v := (.bool (x3820 != (x21.2 == 0)))) rfl (x_neqB Try.underlying4 rfl rfl) ?_))
          refine OW.cons (OP.val (v := (.bool (x3820 != (x21.2 == 0)))) rfl (x_pickF' rfl hb3819 rfl) ?_)
          refine OW.nil ?_
          have hL := hL.sel [0, 1, 2, 3, 4, 5, 6, 9] (by decide) rfl
          exact ⟨x3820 != (x21.2 == 0), hm, ⟨rfl, rfl, rfl, rfl, rfl, hL⟩⟩
    · intro s_j1 F63 wd64 hJ hm
      unfold M.laws_FnPenalties_j1 at hm
      obtain ⟨f65, f66, f67, f68, f69, hL⟩ := hJ
      refine CW.condM (t := s_j1) f69 hm (fun hb70 hm => ?_) (fun hb70 hm => ?_)
      · refine CW.seq ?_
        refine CW.regionL ?_
        refine OW.cons (OP.val (v := (.bool false)) rfl (x_assign) ?_)
        refine OW.nil ?_
        refine CW.ret ?_
        obtain rfl := Option.some.inj hm
        exact RR1 rfl rfl ⟨rfl, hL.fresh 7 rfl [] (by decide) (by decide) rfl⟩
      · refine CW.skip ?_
        refine CW.seq ?_
        refine CW.seq ?_
        refine CW.regionL ?_
        refine OW.cons (OP.val (v := (.int .i64 x21.2)) rfl (x_mv f67) ?_)
        refine OW.cons (OP.val (v := (.bool (x21.2 != 0))) rfl (x_neq rfl rfl) ?_)
        refine OW.nil ?_
        refine CW.condM (t := x21.2 != 0) rfl hm (fun hb71 hm => ?_) (fun hb71 hm => ?_)
        · refine CW.seq ?_
          refine CW.regionL ?_
          refine OW.cons (OP.val (v := (.bool true)) rfl (x_assign) ?_)
          refine OW.nil ?_
          refine CW.ret ?_
          obtain rfl := Option.some.inj hm
          exact RR1 rfl rfl ⟨rfl, hL.fresh 7 rfl [] (by decide) (by decide) rfl⟩
        · refine CW.skip ?_
          refine CW.seq ?_
          refine CW.seq ?_
          refine CW.regionL ?_
          refine OW.cons (OP.val (v := (.int .i64 0)) rfl (x_assign) ?_)
          refine OW.nil ?_
          obtain ⟨o2554, ho2555, hm⟩ := bndE hm
          refine CW.loopB (fun (s_l1 : Int) (F : Fr) (w : World) => F 3 = (.pointer (some ⟨b19, 0, none⟩)) ∧ F 4 = v36 ∧ F 7 = (.pointer (some ⟨b49, 0, none⟩)) ∧ F 9 = (.int .i64 s_l1) ∧ Hp w0 [Ent.blk b49 31 #[(.int .i64 x41.1.Boats), (.int .i64 x41.1.Scheme), v44], Ent.own 46 S43 v44 x41.1.Races, Ent.own 46 S33 v34 x31.1.Races, Ent.own 48 S35 v36 x31.2, Ent.blk b29 31 #[(.int .i64 x21.1.Boats), (.int .i64 x21.1.Scheme), v24], Ent.own 46 S23 v24 x21.1.Races, Ent.blk b19 31 #[(.int .i64 x31.1.Boats), (.int .i64 x31.1.Scheme), v34], Ent.snap w0 w0.heap.size] w) (fun o => outc o (fun x => some x) (fun s => M.laws_FnPenalties_a1 x41 s) = some r) ho2555 hm ⟨f65, f66, f68, rfl, hL⟩ ?_ ?_
          · intro s_l1 F2556 wd2557 hJ hm
            have hm := outcE hm
            have hm : M.laws_FnPenalties_a1 x41 s_l1 = some r := hm
            unfold M.laws_FnPenalties_a1 at hm
            obtain ⟨f2558, f2559, f2560, f2561, hL⟩ := hJ
            refine CW.seq ?_
            refine CW.regionL ?_
            refine OW.cons (OP.val (v := (.agg #[(.int .i64 x41.1.Boats), (.int .i64 x41.1.Scheme), v44])) rfl (x_loadN (cs := [(.int .i64 x41.1.Boats), (.int .i64 x41.1.Scheme), v44]) Try.underlying31 Try_T31 rfl f2560 (hL.cellsB 0 rfl (o := 0) (l := [(.int .i64 x41.1.Boats), (.int .i64 x41.1.Scheme), v44]) (by intro j u hj; exact (by simpa using hj)))) ?_)
            obtain ⟨x2562, hx2563, hm⟩ := bndE hm
            refine OW.cons (OP.call rfl (x_call (vs := [(.agg #[(.int .i64 x41.1.Boats), (.int .i64 x41.1.Scheme), v44])]) Try_C21 ⟨rfl, trivial⟩) (M.impl_IsSeries_ok _ x41.1 (hL.rdO 1 rfl) hx2563) ?_)
            rintro e2564 wd2565 ⟨rfl, hF2566⟩
            refine ⟨_, rfl, ?_⟩
            have hL := hL.pushAll hF2566
            simp only [List.cons_append, List.nil_append, List.set_cons_zero, List.set_cons_succ] at hL
            refine OW.cons (OP.val (v := (.bool x2562)) rfl (x_assign) ?_)
            refine OW.nil ?_
            refine CW.ret ?_
            obtain rfl := Option.some.inj hm
            exact RR1 rfl rfl ⟨rfl, hL.fresh 7 rfl [] (by decide) (by decide) rfl⟩
          · intro s_l1 F2567 wd2568 t2552 hJ hm hr2553
            unfold M.laws_FnPenalties_l1 at hm
            obtain ⟨f2569, f2570, f2571, f2572, hL⟩ := hJ
            refine CW.seq ?_
            refine CW.seq ?_
            refine CW.regionL ?_
            refine OW.cons (OP.val (v := (.int .i64 s_l1)) rfl (x_mv f2572) ?_)
            refine OW.cons (OP.val (v := (.pointer (some ⟨b19, 2, none⟩))) rfl (x_fieldAddr (fsz := 1) 0 2 2 Try.underlying31 rfl Try_T29 rfl f2569 rfl) ?_)
            refine OW.cons (OP.val (v := v34) rfl (x_load1 Try.underlying29 rfl rfl (hL.cellB 6 rfl rfl)) ?_)
            refine OW.cons (OP.val (v := (.int .i64 (x31.1.Races.length : Int))) rfl (x_lenR Try.underlying29 rfl (hL.rdO 2 rfl)) ?_)
            refine OW.cons (OP.val (v := (.bool (decide (s_l1 < (x31.1.Races.length : Int))))) rfl (x_lss rfl rfl) ?_)
            refine OW.nil ?_
            refine CW.condM (t := decide (s_l1 < (x31.1.Races.length : Int))) rfl hm (fun hb2573 hm => ?_) (fun hb2573 hm => ?_)
            · refine CW.skip ?_
              refine CW.seq ?_
              refine CW.block ?_
              refine CW.seq ?_
              refine CW.regionL ?_
              refine OW.cons (OP.val (v := (.int .i64 0)) rfl (x_assign) ?_)
              refine OW.nil ?_
              obtain ⟨o3390, ho3391, hm⟩ := bndE hm
              refine CW.loopB (fun (s_l2 : Int) (F : Fr) (w : World) => F 3 = (.pointer (some ⟨b19, 0, none⟩)) ∧ F 4 = v36 ∧ F 7 = (.pointer (some ⟨b49, 0, none⟩)) ∧ F 9 = (.int .i64 s_l1) ∧ F 10 = (.int .i64 s_l2) ∧ Hp w0 [Ent.blk b49 31 #[(.int .i64 x41.1.Boats), (.int .i64 x41.1.Scheme), v44], Ent.own 46 S43 v44 x41.1.Races, Ent.own 46 S33 v34 x31.1.Races, Ent.own 48 S35 v36 x31.2, Ent.blk b29 31 #[(.int .i64 x21.1.Boats), (.int .i64 x21.1.Scheme), v24], Ent.own 46 S23 v24 x21.1.Races, Ent.blk b19 31 #[(.int .i64 x31.1.Boats), (.int .i64 x31.1.Scheme), v34], Ent.snap w0 w0.heap.size] w) (fun o => outc o (fun x => some (.ret x)) (fun s => M.laws_FnPenalties_a2 s_l1 s) = some t2552) ho3391 hm ⟨f2569, f2570, f2571, f2572, rfl, hL⟩ ?_ ?_
              · intro s_l2 F3392 wd3393 hJ hm
                have hm := outcE hm
                have hm : M.laws_FnPenalties_a2 s_l1 s_l2 = some t2552 := hm
                unfold M.laws_FnPenalties_a2 at hm
                obtain ⟨f3394, f3395, f3396, f3397, f3398, hL⟩ := hJ
                refine CW.regionL ?_
                refine OW.cons (OP.val (v := (.int .i64 s_l1)) rfl (x_mv f3397) ?_)
                refine OW.cons (OP.val (v := (.int .i64 (w64 (s_l1 + 1)))) rfl (x_add rfl rfl) ?_)
                refine OW.cons (OP.val (v := (.int .i64 (w64 (s_l1 + 1)))) rfl (x_assign) ?_)
                refine OW.nil ?_
                obtain rfl := Option.some.inj hm
                exact ⟨_, rfl, ⟨f3394, f3395, f3396, rfl, hL⟩⟩
              · intro s_l2 F3399 wd3400 t3388 hJ hm hr3389
                unfold M.laws_FnPenalties_l2 at hm
                obtain ⟨f3401, f3402, f3403, f3404, f3405, hL⟩ := hJ
                refine CW.seq ?_
                refine CW.seq ?_
                refine CW.regionL ?_
                refine OW.cons (OP.val (v := (.int .i64 s_l2)) rfl (x_mv f3405) ?_)
                refine OW.cons (OP.val (v := (.pointer (some ⟨b19, 2, none⟩))) rfl (x_fieldAddr (fsz := 1) 0 2 2 Try.underlying31 rfl Try_T29 rfl f3401 rfl) ?_)
                refine OW.cons (OP.val (v := v34) rfl (x_load1 Try.underlying29 rfl rfl (hL.cellB 6 rfl rfl)) ?_)
                refine OW.cons (OP.val (v := (.int .i64 s_l1)) rfl (x_mv f3404) ?_)
                obtain ⟨wz3406, hL, ho3407⟩ := hL.freeze 2 rfl
                simp only [List.set_cons_zero, List.set_cons_succ] at hL
                obtain ⟨x3408, ha3409, hm⟩ := bndE hm
                obtain ⟨hz3410, ha3418⟩ := idxE ha3409
                obtain ⟨b3411, q3412, v3413, hix3414, hs3415, hc3416, hr3417⟩ := rdN_at ho3407.1.rdL hz3410 ha3418
                refine OW.cons (OP.val (v := (.pointer (some ⟨b3411, q3412, none⟩))) rfl (x_ix Try.underlying29 Try_T46 rfl rfl hix3414) ?_)
                refine OW.cons (OP.val (v := (.pointer (some ⟨b3411, q3412, none⟩))) rfl (x_fieldAddr (fsz := 1) q3412 0 q3412 Try.underlying46 rfl Try_T44 rfl rfl rfl) ?_)
                refine OW.cons (OP.val (v := v3413) rfl (x_load1 Try.underlying44 rfl rfl (hL.cellF 2 rfl hs3415 hc3416)) ?_)
                refine OW.cons (OP.val (v := (.int .i64 (x3408.Finishes.length : Int))) rfl (x_lenR Try.underlying44 rfl (hL.rdF 2 rfl hr3417)) ?_)
                refine OW.cons (OP.val (v := (.bool (decide (s_l2 < (x3408.Finishes.length : Int))))) rfl (x_lss rfl rfl) ?_)
                refine OW.nil ?_
                refine CW.condM (t := decide (s_l2 < (x3408.Finishes.length : Int))) rfl hm (fun hb3419 hm => ?_) (fun hb3419 hm => ?_)
                · refine CW.skip ?_
                  refine CW.seq ?_
                  refine CW.block ?_
                  refine CW.seq ?_
                  refine CW.regionL ?_
                  refine OW.cons (OP.val (v := (.bool false)) rfl (x_assign) ?_)
                  refine OW.nil ?_
                  refine CW.seq ?_
                  refine CW.seq ?_
                  refine CW.regionL ?_
                  refine OW.cons (OP.val (v := (.int .i64 0)) rfl (x_assign) ?_)
                  refine OW.nil ?_
                  have hL := hL.thaw 2 rfl ho3407
                  obtain ⟨o3602, ho3603, hm⟩ := bndE hm
                  refine CW.loopB (fun (s_l3 : Bool × Int) (F : Fr) (w : World) => F 3 = (.pointer (some ⟨b19, 0, none⟩)) ∧ F 4 = v36 ∧ F 7 = (.pointer (some ⟨b49, 0, none⟩)) ∧ F 9 = (.int .i64 s_l1) ∧ F 10 = (.int .i64 s_l2) ∧ F 11 = (.bool s_l3.1) ∧ F 12 = (.int .i64 s_l3.2) ∧ Hp w0 [Ent.blk b49 31 #[(.int .i64 x41.1.Boats), (.int .i64 x41.1.Scheme), v44], Ent.own 46 S43 v44 x41.1.Races, Ent.own 46 S33 v34 x31.1.Races, Ent.own 48 S35 v36 x31.2, Ent.blk b29 31 #[(.int .i64 x21.1.Boats), (.int .i64 x21.1.Scheme), v24], Ent.own 46 S23 v24 x21.1.Races, Ent.blk b19 31 #[(.int .i64 x31.1.Boats), (.int .i64 x31.1.Scheme), v34], Ent.snap w0 w0.heap.size] w) (fun o => outc o (fun x => some (.ret x)) (fun s => M.laws_FnPenalties_a3 x31 x41 s_l1 s_l2 s) = some t3388) ho3603 hm ⟨f3401, f3402, f3403, f3404, f3405, rfl, rfl, hL⟩ ?_ ?_
                  · intro s_l3 F3604 wd3605 hJ hm
                    have hm := outcE hm
                    have hm : M.laws_FnPenalties_a3 x31 x41 s_l1 s_l2 s_l3 = some t3388 := hm
                    unfold M.laws_FnPenalties_a3 at hm
                    obtain ⟨f3606, f3607, f3608, f3609, f3610, f3611, f3612, hL⟩ := hJ
                    refine CW.seqJ (fun (s_j2 : Bool) (F : Fr) (w : World) => F 3 = (.pointer (some ⟨b19, 0, none⟩)) ∧ F 4 = v36 ∧ F 7 = (.pointer (some ⟨b49, 0, none⟩)) ∧ F 9 = (.int .i64 s_l1) ∧ F 10 = (.int .i64 s_l2) ∧ F 121 = (.bool s_j2) ∧ Hp w0 [Ent.blk b49 31 #[(.int .i64 x41.1.Boats), (.int .i64 x41.1.Scheme), v44], Ent.own 46 S43 v44 x41.1.Races, Ent.own 46 S33 v34 x31.1.Races, Ent.own 48 S35 v36 x31.2, Ent.blk b29 31 #[(.int .i64 x21.1.Boats), (.int .i64 x21.1.Scheme), v24], Ent.own 46 S23 v24 x21.1.Races, Ent.blk b19 31 #[(.int .i64 x31.1.Boats), (.int .i64 x31.1.Scheme), v34], Ent.snap w0 w0.heap.size] w) (fun s_j2 => M.laws_FnPenalties_j2 s_l2 s_j2 = some t3388) ?_ ?_
                    · obtain ⟨wz3667, hL, ho3668⟩ := hL.freeze 1 rfl
                      simp only [List.set_cons_zero, List.set_cons_succ] at hL
                      obtain ⟨wz3669, hL, ho3670⟩ := hL.freeze 2 rfl
                      simp only [List.set_cons_zero, List.set_cons_succ] at hL
                      obtain ⟨wz3671, hL, ho3672⟩ := hL.freeze 5 rfl
                      simp only [List.set_cons_zero, List.set_cons_succ] at hL
                      refine CW.draw Try_mixed ?_
                      have hL := hL.call (Mod.drew _)
                      refine DW.pre (fuel := 0) (fin := ((((((((((((((((((((((((Array.replicate 23 false).setIfInBounds 0 true).setIfInBounds 1 true).setIfInBounds 2 true).setIfInBounds 3 true).setIfInBounds 4 true).setIfInBounds 5 true).setIfInBounds 6 true).setIfInBounds 7 true).setIfInBounds 8 true).setIfInBounds 9 true).setIfInBounds 10 true).setIfInBounds 11 true).setIfInBounds 12 true).setIfInBounds 13 true).setIfInBounds 14 true).setIfInBounds 15 true).setIfInBounds 16 true).setIfInBounds 17 true).setIfInBounds 18 true).setIfInBounds 19 true).setIfInBounds 20 true).setIfInBounds 21 true).setIfInBounds 22 true)) (C := fun w' => Mod None_ _ w') [0, 1, 2, 3, 4, 5, 6, 7, 8, 9, 10, 11, 12, 13, 14, 15, 16, 17, 18, 19, 20, 21, 22] (Mod.refl _ _) (by kernel_rfl) (by kernel_rfl) ?_
                      refine QW.cons rfl (QP.val (v := (.bool s_l3.1)) rfl (fun w' hm' => x_mv f3611) ?_)
                      refine QW.cons rfl (QP.val (v := (.bool (!s_l3.1))) rfl (fun w' hm' => x_not rfl) ?_)
                      refine QW.cons rfl (QP.val (v := (.bool (!s_l3.1))) rfl (fun w' hm' => x_move) ?_)
                      refine ifB_elim hm (fun hb3673 hm => ?_) (fun hb3673 hm => ?_)
                      · refine QW.cons rfl (QP.yes' rfl rfl hb3673 (QP.val (v := (.pointer (some ⟨b49, 2, none⟩))) rfl (fun w' hm' => x_fieldAddr (fsz := 1) 0 2 2 Try.underlying31 rfl Try_T29 rfl f3608 rfl) ?_))
                        refine QW.cons rfl (QP.yes' rfl rfl hb3673 (QP.val (v := v44) rfl (fun w' hm' => x_load1 Try.underlying29 rfl rfl ((hL.call hm').cellB 0 rfl rfl)) ?_))
                        refine QW.cons rfl (QP.yes' rfl rfl hb3673 (QP.val (v := (.int .i64 s_l1)) rfl (fun w' hm' => x_mv f3609) ?_))
                        obtain ⟨x3674, ha3675, hm⟩ := bndE hm
                        obtain ⟨hz3676, ha3684⟩ := idxE ha3675
                        obtain ⟨b3677, q3678, v3679, hix3680, hs3681, hc3682, hr3683⟩ := rdN_at ho3668.1.rdL hz3676 ha3684
                        refine QW.cons rfl (QP.yes' rfl rfl hb3673 (QP.val (v := (.pointer (some ⟨b3677, q3678, none⟩))) rfl (fun w' hm' => x_ix Try.underlying29 Try_T46 rfl rfl hix3680) ?_))
                        refine QW.cons rfl (QP.yes' rfl rfl hb3673 (QP.val (v := (.pointer (some ⟨b3677, q3678, none⟩))) rfl (fun w' hm' => x_fieldAddr (fsz := 1) q3678 0 q3678 Try.underlying46 rfl Try_T44 rfl rfl rfl) ?_))
                        refine QW.cons rfl (QP.yes' rfl rfl hb3673 (QP.val (v := v3679) rfl (fun w' hm' => x_load1 Try.underlying44 rfl rfl ((hL.call hm').cellF 1 rfl hs3681 hc3682)) ?_))
                        refine QW.cons rfl (QP.yes' rfl rfl hb3673 (QP.val (v := (.int .i64 s_l2)) rfl (fun w' hm' => x_mv f3610) ?_))
                        obtain ⟨x3685, ha3686, hm⟩ := bndE hm
                        obtain ⟨hz3687, ha3691⟩ := idxE ha3686
                        obtain ⟨b3688, q3689, hix3690⟩ := rdL_ix (hL.rdF 1 rfl hr3683) hz3687 ha3691
                        refine QW.cons rfl (QP.yes' rfl rfl hb3673 (QP.val (v := (.pointer (some ⟨b3688, q3689, none⟩))) rfl (fun w' hm' => x_ix Try.underlying44 Try_T50 rfl rfl hix3690) ?_))
                        refine QW.cons rfl (QP.yes' rfl rfl hb3673 (QP.val (v := (.agg #[(.int .i64 x3685.Boat), (.int .i64 x3685.Code), (.int .i64 x3685.Time)])) rfl (fun w' hm' => x_loadN (cs := [(.int .i64 x3685.Boat), (.int .i64 x3685.Code), (.int .i64 x3685.Time)]) Try.underlying50 Try_T50 rfl rfl (rdF_cells ((hL.call hm').rdF 1 rfl hr3683) hix3690 ha3691)) ?_))
                        refine QW.cons rfl (QP.yes' rfl rfl hb3673 (QP.val (v := (.pointer (some ⟨b19, 2, none⟩))) rfl (fun w' hm' => x_fieldAddr (fsz := 1) 0 2 2 Try.underlying31 rfl Try_T29 rfl f3606 rfl) ?_))
                        refine QW.cons rfl (QP.yes' rfl rfl hb3673 (QP.val (v := v34) rfl (fun w' hm' => x_load1 Try.underlying29 rfl rfl ((hL.call hm').cellB 6 rfl rfl)) ?_))
                        refine QW.cons rfl (QP.yes' rfl rfl hb3673 (QP.val (v := (.int .i64 s_l1)) rfl (fun w' hm' => x_mv f3609) ?_))
                        obtain ⟨x3692, ha3693, hm⟩ := bndE hm
                        obtain ⟨hz3694, ha3702⟩ := idxE ha3693
                        obtain ⟨b3695, q3696, v3697, hix3698, hs3699, hc3700, hr3701⟩ := rdN_at ho3670.1.rdL hz3694 ha3702
                        refine QW.cons rfl (QP.yes' rfl rfl hb3673 (QP.val (v := (.pointer (some ⟨b3695, q3696, none⟩))) rfl (fun w' hm' => x_ix Try.underlying29 Try_T46 rfl rfl hix3698) ?_))
                        refine QW.cons rfl (QP.yes' rfl rfl hb3673 (QP.val (v := (.pointer (some ⟨b3695, q3696, none⟩))) rfl (fun w' hm' => x_fieldAddr (fsz := 1) q3696 0 q3696 Try.underlying46 rfl Try_T44 rfl rfl rfl) ?_))
                        refine QW.cons rfl (QP.yes' rfl rfl hb3673 (QP.val (v := v3697) rfl (fun w' hm' => x_load1 Try.underlying44 rfl rfl ((hL.call hm').cellF 2 rfl hs3699 hc3700)) ?_))
                        refine QW.cons rfl (QP.yes' rfl rfl hb3673 (QP.val (v := (.int .i64 s_l2)) rfl (fun w' hm' => x_mv f3610) ?_))
                        obtain ⟨x3703, ha3704, hm⟩ := bndE hm
                        obtain ⟨hz3705, ha3709⟩ := idxE ha3704
                        obtain ⟨b3706, q3707, hix3708⟩ := rdL_ix (hL.rdF 2 rfl hr3701) hz3705 ha3709
                        refine QW.cons rfl (QP.yes' rfl rfl hb3673 (QP.val (v := (.pointer (some ⟨b3706, q3707, none⟩))) rfl (fun w' hm' => x_ix Try.underlying44 Try_T50 rfl rfl hix3708) ?_))
                        refine QW.cons rfl (QP.yes' rfl rfl hb3673 (QP.val (v := (.agg #[(.int .i64 x3703.Boat), (.int .i64 x3703.Code), (.int .i64 x3703.Time)])) rfl (fun w' hm' => x_loadN (cs := [(.int .i64 x3703.Boat), (.int .i64 x3703.Code), (.int .i64 x3703.Time)]) Try.underlying50 Try_T50 rfl rfl (rdF_cells ((hL.call hm').rdF 2 rfl hr3701) hix3708 ha3709)) ?_))
                        refine QW.cons rfl (QP.yes' rfl rfl hb3673 (QP.val (v := (.bool (!(eqL [x3685.Boat, x3685.Code, x3685.Time] [x3703.Boat, x3703.Code, x3703.Time])))) rfl (fun w' hm' => (x_eqS (xs := [x3685.Boat, x3685.Code, x3685.Time]) (ys := [x3703.Boat, x3703.Code, x3703.Time]) (by kernel_rfl) rfl (by kernel_rfl) rfl rfl).2) ?_))
                        refine QW.cons rfl (QP.val (v := (.bool (!(eqL [x3685.Boat, x3685.Code, x3685.Time] [x3703.Boat, x3703.Code, x3703.Time])))) rfl (fun w' hm' => x_pickT' rfl hb3673 rfl) ?_)
                        refine QW.nil ?_
                        intro wd3710 hmod
                        have hL := hL.call hmod
                        refine DW.done (by kernel_rfl) ?_
                        have hL := hL.thaw 1 rfl ho3668
                        have hL := hL.thaw 2 rfl ho3670
                        have hL := hL.thaw 5 rfl ho3672
                        exact ⟨!(eqL [x3685.Boat, x3685.Code, x3685.Time] [x3703.Boat, x3703.Code, x3703.Time]), hm, ⟨f3606, f3607, f3608, f3609, f3610, rfl, hL⟩⟩
                      · refine QW.cons rfl (QP.no' rfl rfl hb3673 rfl ?_)
                        refine QW.cons rfl (QP.no' rfl rfl hb3673 rfl ?_)
                        refine QW.cons rfl (QP.no' rfl rfl hb3673 rfl ?_)
                        refine QW.cons rfl (QP.no' rfl rfl hb3673 rfl ?_)
                        refine QW.cons rfl (QP.no' rfl rfl hb3673 rfl ?_)
                        refine QW.cons rfl (QP.no' rfl rfl hb3673 rfl ?_)
                        refine QW.cons rfl (QP.no' rfl rfl hb3673 rfl ?_)
                        refine QW.cons rfl (QP.no' rfl rfl hb3673 rfl ?_)
                        refine QW.cons rfl (QP.no' rfl rfl hb3673 rfl ?_)
                        refine QW.cons rfl (QP.no' rfl rfl hb3673 rfl ?_)
                        refine QW.cons rfl (QP.no' rfl rfl hb3673 rfl ?_)
                        refine QW.cons rfl (QP.no' rfl rfl hb3673 rfl ?_)
                        refine QW.cons rfl (QP.no' rfl rfl hb3673 rfl ?_)
                        refine QW.cons rfl (QP.no' rfl rfl hb3673 rfl ?_)
                        refine QW.cons rfl (QP.no' rfl rfl hb3673 rfl ?_)
                        refine QW.cons rfl (QP.no' rfl rfl hb3673 rfl ?_)
                        refine QW.cons rfl (QP.no' rfl rfl hb3673 rfl ?_)
                        refine QW.cons rfl (QP.no' rfl rfl hb3673 rfl ?_)
                        refine QW.cons rfl (QP.no' rfl rfl hb3673 rfl ?_)
                        refine QW.cons rfl (QP.val (v := (.bool false)) rfl (fun w' hm' => x_pickF' rfl hb3673 rfl) ?_)
                        refine QW.nil ?_
                        intro wd3711 hmod
                        have hL := hL.call hmod
                        refine DW.done (by kernel_rfl) ?_
                        have hL := hL.thaw 1 rfl ho3668
                        have hL := hL.thaw 2 rfl ho3670
                        have hL := hL.thaw 5 rfl ho3672
                        exact ⟨false, hm, ⟨f3606, f3607, f3608, f3609, f3610, rfl, hL⟩⟩
                    · intro s_j2 F3658 wd3659 hJ hm
                      unfold M.laws_FnPenalties_j2 at hm
                      obtain ⟨f3660, f3661, f3662, f3663, f3664, f3665, hL⟩ := hJ
                      refine CW.condM (t := s_j2) f3665 hm (fun hb3666 hm => ?_) (fun hb3666 hm => ?_)
                      · refine CW.seq ?_
                        refine CW.regionL ?_
                        refine OW.cons (OP.val (v := (.bool false)) rfl (x_assign) ?_)
                        refine OW.nil ?_
                        refine CW.ret ?_
                        obtain rfl := Option.some.inj hm
                        have hm := hr3389 _ rfl
                        obtain rfl := Option.some.inj hm
                        have hm := hr2553 _ rfl
                        obtain rfl := Option.some.inj hm
                        exact RR1 rfl rfl ⟨rfl, hL.fresh 7 rfl [] (by decide) (by decide) rfl⟩
                      · refine CW.skip ?_
                        refine CW.regionL ?_
                        refine OW.cons (OP.val (v := (.int .i64 s_l2)) rfl (x_mv f3664) ?_)
                        refine OW.cons (OP.val (v := (.int .i64 (w64 (s_l2 + 1)))) rfl (x_add rfl rfl) ?_)
                        refine OW.cons (OP.val (v := (.int .i64 (w64 (s_l2 + 1)))) rfl (x_assign) ?_)
                        refine OW.nil ?_
                        obtain rfl := Option.some.inj hm
                        exact ⟨_, rfl, ⟨f3660, f3661, f3662, f3663, rfl, hL⟩⟩
                  · intro s_l3 F3712 wd3713 t3600 hJ hm hr3601
                    unfold M.laws_FnPenalties_l3 at hm
                    obtain ⟨f3714, f3715, f3716, f3717, f3718, f3719, f3720, hL⟩ := hJ
                    refine CW.seq ?_
                    refine CW.seq ?_
                    refine CW.regionL ?_
                    refine OW.cons (OP.val (v := (.int .i64 s_l3.2)) rfl (x_mv f3720) ?_)
                    refine OW.cons (OP.val (v := v36) rfl (x_mv f3715) ?_)
                    refine OW.cons (OP.val (v := (.int .i64 (x31.2.length : Int))) rfl (x_lenR Try.underlying33 rfl (hL.rdO 3 rfl)) ?_)
                    refine OW.cons (OP.val (v := (.bool (decide (s_l3.2 < (x31.2.length : Int))))) rfl (x_lss rfl rfl) ?_)
                    refine OW.nil ?_
                    refine CW.condM (t := decide (s_l3.2 < (x31.2.length : Int))) rfl hm (fun hb3721 hm => ?_) (fun hb3721 hm => ?_)
                    · refine CW.skip ?_
                      refine CW.seqJ (fun (s_j3 : Bool) (F : Fr) (w : World) => F 3 = (.pointer (some ⟨b19, 0, none⟩)) ∧ F 4 = v36 ∧ F 7 = (.pointer (some ⟨b49, 0, none⟩)) ∧ F 9 = (.int .i64 s_l1) ∧ F 10 = (.int .i64 s_l2) ∧ F 11 = (.bool s_j3) ∧ F 12 = (.int .i64 s_l3.2) ∧ Hp w0 [Ent.blk b49 31 #[(.int .i64 x41.1.Boats), (.int .i64 x41.1.Scheme), v44], Ent.own 46 S43 v44 x41.1.Races, Ent.own 46 S33 v34 x31.1.Races, Ent.own 48 S35 v36 x31.2, Ent.blk b29 31 #[(.int .i64 x21.1.Boats), (.int .i64 x21.1.Scheme), v24], Ent.own 46 S23 v24 x21.1.Races, Ent.blk b19 31 #[(.int .i64 x31.1.Boats), (.int .i64 x31.1.Scheme), v34], Ent.snap w0 w0.heap.size] w) (fun s_j3 => M.laws_FnPenalties_j3 s_l3 s_j3 = some t3600) ?_ ?_
                      · refine CW.blockJ (fun (s_j4 : Bool) (F : Fr) (w : World) => F 3 = (.pointer (some ⟨b19, 0, none⟩)) ∧ F 4 = v36 ∧ F 7 = (.pointer (some ⟨b49, 0, none⟩)) ∧ F 9 = (.int .i64 s_l1) ∧ F 10 = (.int .i64 s_l2) ∧ F 11 = (.bool s_j4) ∧ F 12 = (.int .i64 s_l3.2) ∧ Hp w0 [Ent.blk b49 31 #[(.int .i64 x41.1.Boats), (.int .i64 x41.1.Scheme), v44], Ent.own 46 S43 v44 x41.1.Races, Ent.own 46 S33 v34 x31.1.Races, Ent.own 48 S35 v36 x31.2, Ent.blk b29 31 #[(.int .i64 x21.1.Boats), (.int .i64 x21.1.Scheme), v24], Ent.own 46 S23 v24 x21.1.Races, Ent.blk b19 31 #[(.int .i64 x31.1.Boats), (.int .i64 x31.1.Scheme), v34], Ent.snap w0 w0.heap.size] w) (fun s_j4 => M.laws_FnPenalties_j4 s_l3 s_j4 = some t3600) ?_ ?_
                        · refine CW.regionL ?_
                          refine OW.cons (OP.val (v := (.bool s_l3.1)) rfl (x_mv f3719) ?_)
                          refine OW.cons (OP.val (v := (.bool s_l3.1)) rfl (x_move) ?_)
                          refine ifB_elim hm (fun hb3797 hm => ?_) (fun hb3797 hm => ?_)
                          · refine OW.cons (OP.no' rfl rfl hb3797 rfl ?_)
                            refine OW.cons (OP.no' rfl rfl hb3797 rfl ?_)
                            refine OW.cons (OP.no' rfl rfl hb3797 rfl ?_)
                            refine OW.cons (OP.no' rfl rfl hb3797 rfl ?_)
                            refine OW.cons (OP.no' rfl rfl hb3797 rfl ?_)
                            refine OW.cons (OP.no' rfl rfl hb3797 rfl ?_)
                            refine OW.cons (OP.no' rfl rfl hb3797 rfl ?_)
                            refine OW.cons (OP.no' rfl rfl hb3797 rfl ?_)
                            refine OW.cons (OP.noU rfl rfl rfl ?_)
                            refine OW.cons (OP.noU rfl rfl rfl ?_)
                            refine OW.cons (OP.noU rfl rfl rfl ?_)
                            refine OW.cons (OP.noU rfl rfl rfl ?_)
                            refine OW.cons (OP.noU rfl rfl rfl ?_)
                            refine OW.cons (OP.noU rfl rfl rfl ?_)
                            refine OW.cons (OP.noU rfl rfl rfl ?_)
                            refine OW.cons (OP.no' rfl rfl hb3797 rfl ?_)
                            refine OW.cons (OP.val (v := (.bool true)) rfl (x_pickT' rfl hb3797 rfl) ?_)
                            refine OW.cons (OP.val (v := (.bool true)) rfl (x_assign) ?_)
                            refine OW.nil ?_
                            exact ⟨true, hm, ⟨f3714, f3715, f3716, f3717, f3718, rfl, f3720, hL⟩⟩
                          · refine OW.cons (OP.yes' rfl rfl hb3797 (OP.val (v := v36) rfl (x_mv f3715) ?_))
                            refine OW.cons (OP.yes' rfl rfl hb3797 (OP.val (v := (.int .i64 s_l3.2)) rfl (x_mv f3720) ?_))
                            obtain ⟨x3798, ha3799, hm⟩ := bndE hm
                            obtain ⟨hz3800, ha3804⟩ := idxE ha3799
                            obtain ⟨b3801, q3802, hix3803⟩ := rdL_ix (hL.rdO 3 rfl) hz3800 ha3804
                            refine OW.cons (OP.yes' rfl rfl hb3797 (OP.val (v := (.pointer (some ⟨b3801, q3802, none⟩))) rfl (x_ix Try.underlying33 Try_T48 rfl rfl hix3803) ?_))
                            refine OW.cons (OP.yes' rfl rfl hb3797 (OP.val (v := (.pointer (some ⟨b3801, q3802, none⟩))) rfl (x_fieldAddr (fsz := 1) q3802 0 q3802 Try.underlying48 rfl Try_T2 rfl rfl rfl) ?_))
                            refine OW.cons (OP.yes' rfl rfl hb3797 (OP.val (v := (.int .i64 x3798.Race)) rfl (x_load1 Try.underlying2 rfl rfl (rdF_cells (hL.rdO 3 rfl) hix3803 ha3804 0 _ rfl)) ?_))
                            refine OW.cons (OP.yes' rfl rfl hb3797 (OP.val (v := (.int .i64 s_l1)) rfl (x_mv f3717) ?_))
                            refine OW.cons (OP.yes' rfl rfl hb3797 (OP.val (v := (.bool (x3798.Race == s_l1))) rfl (x_eql rfl rfl) ?_))
                            refine OW.cons (OP.yes' rfl rfl hb3797 (OP.val (v := (.bool (x3798.Race == s_l1))) rfl (x_move) ?_))
                            refine ifB_elim hm (fun hb3805 hm => ?_) (fun hb3805 hm => ?_)
                            · refine OW.cons (OP.yes' rfl rfl hb3805 (OP.val (v := v36) rfl (x_mv f3715) ?_))
                              refine OW.cons (OP.yes' rfl rfl hb3805 (OP.val (v := (.int .i64 s_l3.2)) rfl (x_mv f3720) ?_))
                              obtain ⟨x3806, ha3807, hm⟩ := bndE hm
                              obtain ⟨hz3808, ha3812⟩ := idxE ha3807
                              obtain ⟨b3809, q3810, hix3811⟩ := rdL_ix (hL.rdO 3 rfl) hz3808 ha3812
                              refine OW.cons (OP.yes' rfl rfl hb3805 (OP.val (v := (.pointer (some ⟨b3809, q3810, none⟩))) rfl (x_ix Try.underlying33 Try_T48 rfl rfl hix3811) ?_))
                              refine OW.cons (OP.yes' rfl rfl hb3805 (OP.val (v := (.pointer (some ⟨b3809, q3810 + 1, none⟩))) rfl (x_fieldAddr (fsz := 1) q3810 1 (q3810 + 1) Try.underlying48 rfl Try_T2 rfl rfl rfl) ?_))
                              refine OW.cons (OP.yes' rfl rfl hb3805 (OP.val (v := (.int .i64 x3806.Boat)) rfl (x_load1 Try.underlying2 rfl rfl (rdF_cells (hL.rdO 3 rfl) hix3811 ha3812 1 _ rfl)) ?_))
                              refine OW.cons (OP.yes' rfl rfl hb3805 (OP.val (v := (.int .i64 s_l2)) rfl (x_mv f3718) ?_))
                              refine OW.cons (OP.yes' rfl rfl hb3805 (OP.val (v := (.bool (x3806.Boat == s_l2))) rfl (x_eql rfl rfl) ?_))
                              refine OW.cons (OP.yes' rfl rfl hb3797 (OP.val (v := (.bool (x3806.Boat == s_l2))) rfl (x_pickT' rfl hb3805 rfl) ?_))
                              refine OW.cons (OP.val (v := (.bool (x3806.Boat == s_l2))) rfl (x_pickF' rfl hb3797 rfl) ?_)
                              refine OW.cons (OP.val (v := (.bool (x3806.Boat == s_l2))) rfl (x_assign) ?_)
                              refine OW.nil ?_
                              exact ⟨x3806.Boat == s_l2, hm, ⟨f3714, f3715, f3716, f3717, f3718, rfl, f3720, hL⟩⟩
                            · refine OW.cons (OP.no' rfl rfl hb3805 rfl ?_)
                              refine OW.cons (OP.no' rfl rfl hb3805 rfl ?_)
                              refine OW.cons (OP.no' rfl rfl hb3805 rfl ?_)
                              refine OW.cons (OP.no' rfl rfl hb3805 rfl ?_)
                              refine OW.cons (OP.no' rfl rfl hb3805 rfl ?_)
                              refine OW.cons (OP.no' rfl rfl hb3805 rfl ?_)
                              refine OW.cons (OP.no' rfl rfl hb3805 rfl ?_)
                              refine OW.cons (OP.yes' rfl rfl hb3797 (OP.val (v := (.bool false)) rfl (x_pickF' rfl hb3805 rfl) ?_))
                              refine OW.cons (OP.val (v := (.bool false)) rfl (x_pickF' rfl hb3797 rfl) ?_)
                              refine OW.cons (OP.val (v := (.bool false)) rfl (x_assign) ?_)
                              refine OW.nil ?_
                              exact ⟨false, hm, ⟨f3714, f3715, f3716, f3717, f3718, rfl, f3720, hL⟩⟩
                        · intro s_j4 F3788 wd3789 hJ hm
                          unfold M.laws_FnPenalties_j4 at hm
                          obtain ⟨f3790, f3791, f3792, f3793, f3794, f3795, f3796, hL⟩ := hJ
                          exact ⟨s_j4, hm, ⟨f3790, f3791, f3792, f3793, f3794, f3795, f3796, hL⟩⟩
                      · intro s_j3 F3763 wd3764 hJ hm
                        unfold M.laws_FnPenalties_j3 at hm
                        obtain ⟨f3765, f3766, f3767, f3768, f3769, f3770, f3771, hL⟩ := hJ
                        refine CW.regionL ?_
                        refine OW.cons (OP.val (v := (.int .i64 s_l3.2)) rfl (x_mv f3771) ?_)
                        refine OW.cons (OP.val (v := (.int .i64 (w64 (s_l3.2 + 1)))) rfl (x_add rfl rfl) ?_)
                        refine OW.cons (OP.val (v := (.int .i64 (w64 (s_l3.2 + 1)))) rfl (x_assign) ?_)
                        refine OW.nil ?_
                        obtain rfl := Option.some.inj hm
                        exact ⟨_, rfl, ⟨f3765, f3766, f3767, f3768, f3769, f3770, rfl, hL⟩⟩
                    · refine CW.exit ?_
                      refine XJ.hit ?_
                      obtain rfl := Option.some.inj hm
                      exact ⟨_, rfl, ⟨f3714, f3715, f3716, f3717, f3718, f3719, f3720, hL⟩⟩
                · refine CW.exit ?_
                  refine XJ.hit ?_
                  have hL := hL.thaw 2 rfl ho3407
                  obtain rfl := Option.some.inj hm
                  exact ⟨_, rfl, ⟨f3401, f3402, f3403, f3404, f3405, hL⟩⟩
            · refine CW.exit ?_
              refine XJ.hit ?_
              obtain rfl := Option.some.inj hm
              exact ⟨_, rfl, ⟨f2569, f2570, f2571, f2572, hL⟩⟩

end Go.Proofs.Ytgelmamcinlahaa
