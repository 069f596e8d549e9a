/- Links: each Go function returns what its model computes and leaves what was there. Printed by my generator. -/
import Derived.Test.YtgelmamcinlahaaLnkFnPenalizedTableA
namespace Go.Proofs.Ytgelmamcinlahaa
set_option maxRecDepth 10000
open Go Go.RowKit Go.ChangeShapes Go.WideShapes
set_option linter.unusedVariables false
set_option linter.unusedSimpArgs false

theorem M.spec_l21Draw_ok (w0 : World) {b1 : Nat} {v2 : Value} (a0 : Src) (h3 : rdL (fun k => k < w0.heap.size ∧ ¬ (Ent.blk b1 94 #[v2, .int .i64 a0.at_, .int .i64 a0.seed]).S k) w0 v2 a0.code) (he4 : (Ent.blk b1 94 #[v2, .int .i64 a0.at_, .int .i64 a0.seed]).H w0) {r : (Series × (List Penalty)) × (Int × Int)} (hm : M.spec_l21Draw a0 = some r) :
    Calls Try.prog 41 #[(.pointer (some ⟨b1, 0, none⟩))] w0 fun e w' => ∃ (rv0 : Value) (rS0 : Nat → Prop), ∃ (rv1 : Value) (rS1 : Nat → Prop), e = .returned (.tuple #[(.agg #[(.int .i64 r.1.1.Boats), (.int .i64 r.1.1.Scheme), rv0]), rv1]) ∧ Mut w0 w' (Ent.blk b1 94 #[v2, .int .i64 a0.at_, .int .i64 a0.seed]).S [Ent.blk b1 94 #[v2, .int .i64 r.2.1, .int .i64 r.2.2], Ent.own 46 rS0 rv0 r.1.1.Races, Ent.own 48 rS1 rv1 r.1.2] := by
  unfold M.spec_l21Draw at hm
  refine calls_CW (args := [(.pointer (some ⟨b1, 0, none⟩))]) Try.func41 rfl rfl rfl ?_
  have hL := Hp.startIO he4
  refine CW.seq ?_
  refine CW.regionL ?_
  refine OW.cons (S_alloc (cs := #[(.int .i64 0), (.int .i64 0), (.slice none 0 0)]) hL Try_T31 rfl rfl ?_)
  intro wd5 b6 hL
  refine OW.cons (OP.val (v := (.slice none 0 0)) rfl (x_assign) ?_)
  refine OW.nil ?_
  refine CW.seq ?_
  refine CW.regionL ?_
  refine OW.cons (OP.val (v := (.pointer (some ⟨b1, 0, none⟩))) rfl (x_move) ?_)
  obtain ⟨x7, hx8, hm⟩ := bndE hm
  refine OW.cons (OP.call rfl (x_call (vs := [(.pointer (some ⟨b1, 0, none⟩))]) Try_C67 ⟨rfl, trivial⟩) (M.spec_l26DrawSeries_ok _ (Src.mk a0.code a0.at_ a0.seed) (hL.exZ 2 1 (by decide) rfl rfl h3) (hL.get 1 rfl) hx8) ?_)
  rintro e11 wd12 ⟨v10, S9, rfl, hF13⟩
  refine ⟨_, rfl, ?_⟩
  have hL := hL.mut 1 rfl hF13
  simp only [lA, lB, lC, lD] at hL
  refine OW.cons (S_alloc (cs := #[(.int .i64 0), (.int .i64 0), (.slice none 0 0)]) hL Try_T31 rfl rfl ?_)
  intro wd14 b15 hL
  refine OW.cons (S_storeN (l := [(.int .i64 x7.1.Boats), (.int .i64 x7.1.Scheme), v10]) (cs' := #[(.int .i64 x7.1.Boats), (.int .i64 x7.1.Scheme), v10]) hL 0 rfl Try_T31 rfl rfl (List.forall_mem_cons.2 ⟨rfl, (List.forall_mem_cons.2 ⟨rfl, (List.forall_mem_cons.2 ⟨rdL_one (hL.rdO 1 rfl), (fun _ h => by cases h)⟩)⟩)⟩) rfl (Nat.le_of_ble_eq_true rfl) rfl ?_)
  intro wd16 hL
  refine OW.nil ?_
  refine CW.seq ?_
  refine CW.regionL ?_
  refine OW.cons (S_lit ([] : List Penalty) hL Try.underlying33 Try_T48 rfl (by decide) (by first | (simp [Instr.fill, madeCells, Value.cells, ev, upd, Flat.enc, Flat.sz]; done) | rfl | kernel_rfl) rfl rfl ?_)
  intro wd17 v18 S19 hL
  refine OW.cons (OP.val (v := v18) rfl (x_assign) ?_)
  refine OW.nil ?_
  refine CW.seq ?_
  refine CW.seq ?_
  refine CW.regionL ?_
  refine OW.cons (OP.val (v := (.pointer (some ⟨b1, 0, none⟩))) rfl (x_move) ?_)
  obtain ⟨x20, hx21, hm⟩ := bndE hm
  refine OW.cons (OP.call rfl (x_call (vs := [(.pointer (some ⟨b1, 0, none⟩)), (.int .i64 6)]) Try_C68 ⟨rfl, rfl, trivial⟩) (M.spec_l01Next_ok _ (Src.mk a0.code x7.2.1 x7.2.2) (hL.exZ 5 4 (by decide) rfl rfl h3) (hL.get 4 rfl) 6 hx21) ?_)
  rintro e22 wd23 ⟨rfl, hF24⟩
  refine ⟨_, rfl, ?_⟩
  have hL := hL.mut 4 rfl hF24
  simp only [lA, lB, lC, lD] at hL
  refine OW.cons (OP.val (v := (.int .i64 x20.1)) rfl (x_assign) ?_)
  refine OW.nil ?_
  obtain ⟨o77, ho78, hm⟩ := bndE hm
  refine CW.loopB (fun (s_l1 : Int × Int × (List Penalty) × Int) (F : Fr) (w : World) => ∃ (v73 : Value) (S74 : Nat → Prop), F 0 = (.pointer (some ⟨b1, 0, none⟩)) ∧ F 2 = (.pointer (some ⟨b6, 0, none⟩)) ∧ F 4 = (.pointer (some ⟨b15, 0, none⟩)) ∧ F 5 = v73 ∧ F 6 = (.int .i64 s_l1.2.2.2) ∧ Hp w0 [Ent.own 48 S74 v73 s_l1.2.2.1, Ent.blk b15 31 #[(.int .i64 x7.1.Boats), (.int .i64 x7.1.Scheme), v10], Ent.own 46 S9 v10 x7.1.Races, Ent.blk b6 31 #[(.int .i64 0), (.int .i64 0), (.slice none 0 0)], Ent.blk b1 94 #[v2, (.int .i64 s_l1.1), (.int .i64 s_l1.2.1)], Ent.frz w0 (Ent.blk b1 94 #[v2, .int .i64 a0.at_, .int .i64 a0.seed]).S] w) (fun o => outc o (fun x => some x) (fun s => M.spec_l21Draw_a1 a0 x7 s) = some r) ho78 hm ⟨v18, S19, rfl, rfl, rfl, rfl, rfl, hL⟩ ?_ ?_
  · intro s_l1 F79 wd80 hJ hm
    have hm := outcE hm
    have hm : M.spec_l21Draw_a1 a0 x7 s_l1 = some r := hm
    unfold M.spec_l21Draw_a1 at hm
    obtain ⟨v73, S74, f81, f82, f83, f84, f85, hL⟩ := hJ
    refine CW.seq ?_
    refine CW.seq ?_
    refine CW.regionL ?_
    refine OW.cons (OP.val (v := v73) rfl (x_mv f84) ?_)
    refine OW.cons (OP.val (v := (.int .i64 (s_l1.2.2.1.length : Int))) rfl (x_lenR Try.underlying33 rfl (hL.rdO 0 rfl)) ?_)
    refine OW.cons (OP.val (v := (.bool ((s_l1.2.2.1.length : Int) == 0))) rfl (x_eql rfl rfl) ?_)
    refine OW.nil ?_
    refine CW.condM (t := (s_l1.2.2.1.length : Int) == 0) rfl hm (fun hb86 hm => ?_) (fun hb86 hm => ?_)
    · refine CW.seq ?_
      refine CW.regionL ?_
      refine OW.cons (OP.val (v := (.agg #[(.int .i64 x7.1.Boats), (.int .i64 x7.1.Scheme), v10])) rfl (x_loadN (cs := [(.int .i64 x7.1.Boats), (.int .i64 x7.1.Scheme), v10]) Try.underlying31 Try_T31 rfl f83 (hL.cellsB 1 rfl (o := 0) (l := [(.int .i64 x7.1.Boats), (.int .i64 x7.1.Scheme), v10]) (by intro j u hj; exact (by simpa using hj)))) ?_)
      refine OW.cons (OP.val (v := v73) rfl (x_mv f84) ?_)
      refine OW.cons (S_storeN (l := [(.int .i64 x7.1.Boats), (.int .i64 x7.1.Scheme), v10]) (cs' := #[(.int .i64 x7.1.Boats), (.int .i64 x7.1.Scheme), v10]) hL 3 rfl Try_T31 f82 rfl (List.forall_mem_cons.2 ⟨rfl, (List.forall_mem_cons.2 ⟨rfl, (List.forall_mem_cons.2 ⟨rdL_one (hL.rdO 2 rfl), (fun _ h => by cases h)⟩)⟩)⟩) rfl (Nat.le_of_ble_eq_true rfl) rfl ?_)
      intro wd87 hL
      refine OW.cons (OP.val (v := v73) rfl (x_assign) ?_)
      refine OW.nil ?_
      refine CW.ret ?_
      obtain rfl := Option.some.inj hm
      exact RRct rfl f82 (run_loadBlk Try.underlying31 Try_T31 (hL.get 3 rfl) rfl) rfl ⟨v10, S9, v73, S74, rfl, hL.mutOut 5 rfl [4, 2, 0] (by decide) (by decide) rfl⟩
    · refine CW.skip ?_
      refine CW.seq ?_
      refine CW.regionL ?_
      refine OW.cons (OP.val (v := (.pointer (some ⟨b1, 0, none⟩))) rfl (x_mv f81) ?_)
      refine OW.cons (OP.val (v := v73) rfl (x_mv f84) ?_)
      refine OW.cons (OP.val (v := (.int .i64 (s_l1.2.2.1.length : Int))) rfl (x_lenR Try.underlying33 rfl (hL.rdO 0 rfl)) ?_)
      obtain ⟨x88, hx89, hm⟩ := bndE hm
      refine OW.cons (OP.call rfl (x_call (vs := [(.pointer (some ⟨b1, 0, none⟩)), (.int .i64 (s_l1.2.2.1.length : Int))]) Try_C68 ⟨rfl, rfl, trivial⟩) (M.spec_l01Next_ok _ (Src.mk a0.code s_l1.1 s_l1.2.1) (hL.exZ 5 4 (by decide) rfl rfl h3) (hL.get 4 rfl) (s_l1.2.2.1.length : Int) hx89) ?_)
      rintro e90 wd91 ⟨rfl, hF92⟩
      refine ⟨_, rfl, ?_⟩
      have hL := hL.mut 4 rfl hF92
      simp only [lA, lB, lC, lD] at hL
      refine OW.cons (OP.val (v := (.int .i64 x88.1)) rfl (x_assign) ?_)
      refine OW.nil ?_
      refine CW.seqJ (fun (s_j1 : Int × Int × (List Penalty)) (F : Fr) (w : World) => ∃ (S234 : Nat → Prop), F 2 = (.pointer (some ⟨b6, 0, none⟩)) ∧ F 4 = (.pointer (some ⟨b15, 0, none⟩)) ∧ F 5 = v73 ∧ Hp w0 [Ent.own 48 S234 v73 s_j1.2.2, Ent.blk b15 31 #[(.int .i64 x7.1.Boats), (.int .i64 x7.1.Scheme), v10], Ent.own 46 S9 v10 x7.1.Races, Ent.blk b6 31 #[(.int .i64 0), (.int .i64 0), (.slice none 0 0)], Ent.blk b1 94 #[v2, (.int .i64 s_j1.1), (.int .i64 s_j1.2.1)], Ent.frz w0 (Ent.blk b1 94 #[v2, .int .i64 a0.at_, .int .i64 a0.seed]).S] w) (fun s_j1 => M.spec_l21Draw_j1 x7 s_j1 = some r) ?_ ?_
      · refine CW.seq ?_
        refine CW.regionL ?_
        refine OW.cons (OP.val (v := (.pointer (some ⟨b1, 0, none⟩))) rfl (x_mv f81) ?_)
        obtain ⟨x241, hx242, hm⟩ := bndE hm
        refine OW.cons (OP.call rfl (x_call (vs := [(.pointer (some ⟨b1, 0, none⟩)), (.int .i64 24)]) Try_C68 ⟨rfl, rfl, trivial⟩) (M.spec_l01Next_ok _ (Src.mk a0.code x88.2.1 x88.2.2) (hL.exZ 5 4 (by decide) rfl rfl h3) (hL.get 4 rfl) 24 hx242) ?_)
        rintro e243 wd244 ⟨rfl, hF245⟩
        refine ⟨_, rfl, ?_⟩
        have hL := hL.mut 4 rfl hF245
        simp only [lA, lB, lC, lD] at hL
        refine OW.nil ?_
        refine CW.blockJ (fun (s_j2 : Int × Int × (List Penalty)) (F : Fr) (w : World) => ∃ (S311 : Nat → Prop), F 2 = (.pointer (some ⟨b6, 0, none⟩)) ∧ F 4 = (.pointer (some ⟨b15, 0, none⟩)) ∧ F 5 = v73 ∧ Hp w0 [Ent.own 48 S311 v73 s_j2.2.2, Ent.blk b15 31 #[(.int .i64 x7.1.Boats), (.int .i64 x7.1.Scheme), v10], Ent.own 46 S9 v10 x7.1.Races, Ent.blk b6 31 #[(.int .i64 0), (.int .i64 0), (.slice none 0 0)], Ent.blk b1 94 #[v2, (.int .i64 s_j2.1), (.int .i64 s_j2.2.1)], Ent.frz w0 (Ent.blk b1 94 #[v2, .int .i64 a0.at_, .int .i64 a0.seed]).S] w) (fun s_j2 => M.spec_l21Draw_j2 x7 s_j2 = some r) ?_ ?_
        · refine CW.seq ?_
          refine CW.regionL ?_
          refine OW.cons (OP.val (v := (.bool (x241.1 == 0))) rfl (x_eql rfl rfl) ?_)
          refine OW.cons (OP.val (v := (.bool (x241.1 == 0))) rfl (x_assign) ?_)
          refine OW.nil ?_
          refine CW.condM (t := x241.1 == 0) rfl hm (fun hb317 hm => ?_) (fun hb317 hm => ?_)
          · refine CW.regionL ?_
            refine OW.cons (OP.val (v := v73) rfl (x_mv f84) ?_)
            refine OW.cons (OP.val (v := (.int .i64 x88.1)) rfl (x_move) ?_)
            refine OW.cons (OP.val (v := (.pointer (some ⟨b15, 2, none⟩))) rfl (x_fieldAddr (fsz := 1) 0 2 2 Try.underlying31 rfl Try_T29 rfl f83 rfl) ?_)
            refine OW.cons (OP.val (v := v10) rfl (x_load1 Try.underlying29 rfl rfl (hL.cellB 1 rfl rfl)) ?_)
            refine OW.cons (OP.val (v := (.int .i64 (x7.1.Races.length : Int))) rfl (x_lenR Try.underlying29 rfl (hL.rdO 2 rfl)) ?_)
            obtain ⟨x318, ha319, hm⟩ := bndE hm
            obtain ⟨hz320, ha324⟩ := idxE ha319
            obtain ⟨b321, q322, hix323⟩ := rdL_ix (hL.rdO 0 rfl) hz320 ha324
            refine OW.cons (OP.val (v := (.pointer (some ⟨b321, q322, none⟩))) rfl (x_ix Try.underlying33 Try_T48 rfl rfl hix323) ?_)
            refine OW.cons (OP.val (v := (.pointer (some ⟨b321, q322, none⟩))) rfl (x_fieldAddr (fsz := 1) q322 0 q322 Try.underlying48 rfl Try_T2 rfl rfl rfl) ?_)
            refine OW.cons (S_storeX (j := 0) (Penalty.mk (x7.1.Races.length : Int) x318.Boat x318.Kind x318.Value) hL 0 rfl Try_T2 hix323 ha324 rfl rfl rfl rfl rfl rfl ?_)
            intro wd325 hL
            refine OW.nil ?_
            exact ⟨(x241.2.1, x241.2.2, s_l1.2.2.1.set (x88.1 : Int).toNat (Penalty.mk (x7.1.Races.length : Int) x318.Boat x318.Kind x318.Value)), hm, ⟨S74, f82, f83, f84, hL⟩⟩
          · refine CW.seq ?_
            refine CW.regionL ?_
            refine OW.cons (OP.val (v := (.bool (x241.1 == 1))) rfl (x_eql rfl rfl) ?_)
            refine OW.cons (OP.val (v := (.bool (x241.1 == 1))) rfl (x_assign) ?_)
            refine OW.nil ?_
            refine CW.condM (t := x241.1 == 1) rfl hm (fun hb326 hm => ?_) (fun hb326 hm => ?_)
            · refine CW.regionL ?_
              refine OW.cons (OP.val (v := v73) rfl (x_mv f84) ?_)
              refine OW.cons (OP.val (v := (.int .i64 x88.1)) rfl (x_move) ?_)
              refine OW.cons (OP.val (v := (.pointer (some ⟨b15, 0, none⟩))) rfl (x_fieldAddr (fsz := 1) 0 0 0 Try.underlying31 rfl Try_T2 rfl f83 rfl) ?_)
              refine OW.cons (OP.val (v := (.int .i64 x7.1.Boats)) rfl (x_load1 Try.underlying2 rfl rfl (hL.cellB 1 rfl rfl)) ?_)
              obtain ⟨x327, ha328, hm⟩ := bndE hm
              obtain ⟨hz329, ha333⟩ := idxE ha328
              obtain ⟨b330, q331, hix332⟩ := rdL_ix (hL.rdO 0 rfl) hz329 ha333
              refine OW.cons (OP.val (v := (.pointer (some ⟨b330, q331, none⟩))) rfl (x_ix Try.underlying33 Try_T48 rfl rfl hix332) ?_)
              refine OW.cons (OP.val (v := (.pointer (some ⟨b330, q331 + 1, none⟩))) rfl (x_fieldAddr (fsz := 1) q331 1 (q331 + 1) Try.underlying48 rfl Try_T2 rfl rfl rfl) ?_)
              refine OW.cons (S_storeX (j := 1) (Penalty.mk x327.Race x7.1.Boats x327.Kind x327.Value) hL 0 rfl Try_T2 hix332 ha333 rfl rfl rfl rfl rfl rfl ?_)
              intro wd334 hL
              refine OW.nil ?_
              exact ⟨(x241.2.1, x241.2.2, s_l1.2.2.1.set (x88.1 : Int).toNat (Penalty.mk x327.Race x7.1.Boats x327.Kind x327.Value)), hm, ⟨S74, f82, f83, f84, hL⟩⟩
            · refine CW.seq ?_
              refine CW.regionL ?_
              refine OW.cons (OP.val (v := (.bool (x241.1 == 2))) rfl (x_eql rfl rfl) ?_)
              refine OW.cons (OP.val (v := (.bool (x241.1 == 2))) rfl (x_assign) ?_)
              refine OW.nil ?_
              refine CW.condM (t := x241.1 == 2) rfl hm (fun hb335 hm => ?_) (fun hb335 hm => ?_)
              · refine CW.regionL ?_
                refine OW.cons (OP.val (v := v73) rfl (x_mv f84) ?_)
                refine OW.cons (OP.val (v := (.int .i64 x88.1)) rfl (x_move) ?_)
                refine OW.cons (OP.val (v := (.pointer (some ⟨b1, 0, none⟩))) rfl (x_mv f81) ?_)
                obtain ⟨x336, hx337, hm⟩ := bndE hm
                refine OW.cons (OP.call rfl (x_call (vs := [(.pointer (some ⟨b1, 0, none⟩)), (.int .i64 2)]) Try_C68 ⟨rfl, rfl, trivial⟩) (M.spec_l01Next_ok _ (Src.mk a0.code x241.2.1 x241.2.2) (hL.exZ 5 4 (by decide) rfl rfl h3) (hL.get 4 rfl) 2 hx337) ?_)
                rintro e338 wd339 ⟨rfl, hF340⟩
                refine ⟨_, rfl, ?_⟩
                have hL := hL.mut 4 rfl hF340
                simp only [lA, lB, lC, lD] at hL
                refine OW.cons (OP.val (v := (.int .i64 (w64 (4 * x336.1)))) rfl (x_mul rfl rfl) ?_)
                obtain ⟨x341, ha342, hm⟩ := bndE hm
                obtain ⟨hz343, ha347⟩ := idxE ha342
                obtain ⟨b344, q345, hix346⟩ := rdL_ix (hL.rdO 0 rfl) hz343 ha347
                refine OW.cons (OP.val (v := (.pointer (some ⟨b344, q345, none⟩))) rfl (x_ix Try.underlying33 Try_T48 rfl rfl hix346) ?_)
                refine OW.cons (OP.val (v := (.pointer (some ⟨b344, q345 + 2, none⟩))) rfl (x_fieldAddr (fsz := 1) q345 2 (q345 + 2) Try.underlying48 rfl Try_T2 rfl rfl rfl) ?_)
                refine OW.cons (S_storeX (j := 2) (Penalty.mk x341.Race x341.Boat (w64 (4 * x336.1)) x341.Value) hL 0 rfl Try_T2 hix346 ha347 rfl rfl rfl rfl rfl rfl ?_)
                intro wd348 hL
                refine OW.nil ?_
                exact ⟨(x336.2.1, x336.2.2, s_l1.2.2.1.set (x88.1 : Int).toNat (Penalty.mk x341.Race x341.Boat (w64 (4 * x336.1)) x341.Value)), hm, ⟨S74, f82, f83, f84, hL⟩⟩
              · refine CW.seq ?_
                refine CW.regionL ?_
                refine OW.cons (OP.val (v := (.bool (x241.1 == 3))) rfl (x_eql rfl rfl) ?_)
                refine OW.cons (OP.val (v := (.bool (x241.1 == 3))) rfl (x_assign) ?_)
                refine OW.nil ?_
                refine CW.condM (t := x241.1 == 3) rfl hm (fun hb349 hm => ?_) (fun hb349 hm => ?_)
                · refine CW.regionL ?_
                  refine OW.cons (OP.val (v := v73) rfl (x_mv f84) ?_)
                  refine OW.cons (OP.val (v := (.int .i64 x88.1)) rfl (x_move) ?_)
                  obtain ⟨x350, ha351, hm⟩ := bndE hm
                  obtain ⟨hz352, ha356⟩ := idxE ha351
                  obtain ⟨b353, q354, hix355⟩ := rdL_ix (hL.rdO 0 rfl) hz352 ha356
                  refine OW.cons (OP.val (v := (.pointer (some ⟨b353, q354, none⟩))) rfl (x_ix Try.underlying33 Try_T48 rfl rfl hix355) ?_)
                  refine OW.cons (OP.val (v := (.pointer (some ⟨b353, q354 + 3, none⟩))) rfl (x_fieldAddr (fsz := 1) q354 3 (q354 + 3) Try.underlying48 rfl Try_T2 rfl rfl rfl) ?_)
                  refine OW.cons (S_storeX (j := 3) (Penalty.mk x350.Race x350.Boat x350.Kind 0) hL 0 rfl Try_T2 hix355 ha356 rfl rfl rfl rfl rfl rfl ?_)
                  intro wd357 hL
                  refine OW.nil ?_
                  exact ⟨(x241.2.1, x241.2.2, s_l1.2.2.1.set (x88.1 : Int).toNat (Penalty.mk x350.Race x350.Boat x350.Kind 0)), hm, ⟨S74, f82, f83, f84, hL⟩⟩
                · refine CW.seq ?_
                  refine CW.regionL ?_
                  refine OW.cons (OP.val (v := (.bool (x241.1 == 4))) rfl (x_eql rfl rfl) ?_)
                  refine OW.cons (OP.val (v := (.bool (x241.1 == 4))) rfl (x_assign) ?_)
                  refine OW.nil ?_
                  refine CW.condM (t := x241.1 == 4) rfl hm (fun hb358 hm => ?_) (fun hb358 hm => ?_)
                  · refine CW.draw Try_mixed ?_
                    have hL := hL.call (Mod.drew _)
                    refine DW.pre (fuel := 1) (fin := (((((((((((((((Array.replicate 15 false).setIfInBounds 0 true).setIfInBounds 1 true).setIfInBounds 2 true).setIfInBounds 3 true).setIfInBounds 4 true).setIfInBounds 5 true).setIfInBounds 6 true).setIfInBounds 7 true).setIfInBounds 8 true).setIfInBounds 9 true).setIfInBounds 10 true).setIfInBounds 11 true).setIfInBounds 12 true).setIfInBounds 13 true)) (C := fun w' => Mod None_ _ w') [0, 1, 2, 3, 4, 5, 6, 7, 8, 9, 10, 11, 12, 13] (Mod.refl _ _) (by kernel_rfl) (by kernel_rfl) ?_
                    refine QW.cons rfl (QP.val (v := v73) rfl (fun w' hm' => x_mv f84) ?_)
                    refine QW.cons rfl (QP.val (v := (.int .i64 x88.1)) rfl (fun w' hm' => x_move) ?_)
                    refine QW.cons rfl (QP.val (v := v73) rfl (fun w' hm' => x_mv f84) ?_)
                    refine QW.cons rfl (QP.val (v := (.int .i64 x88.1)) rfl (fun w' hm' => x_move) ?_)
                    obtain ⟨x359, ha360, hm⟩ := bndE hm
                    obtain ⟨hz361, ha365⟩ := idxE ha360
                    obtain ⟨b362, q363, hix364⟩ := rdL_ix (hL.rdO 0 rfl) hz361 ha365
                    refine QW.cons rfl (QP.val (v := (.pointer (some ⟨b362, q363, none⟩))) rfl (fun w' hm' => x_ix Try.underlying33 Try_T48 rfl rfl hix364) ?_)
                    refine QW.cons rfl (QP.val (v := (.pointer (some ⟨b362, q363, none⟩))) rfl (fun w' hm' => x_fieldAddr (fsz := 1) q363 0 q363 Try.underlying48 rfl Try_T2 rfl rfl rfl) ?_)
                    refine QW.cons rfl (QP.val (v := (.int .i64 x359.Race)) rfl (fun w' hm' => x_load1 Try.underlying2 rfl rfl (rdF_cells ((hL.call hm').rdO 0 rfl) hix364 ha365 0 _ rfl)) ?_)
                    refine QW.cons rfl (QP.val (v := v73) rfl (fun w' hm' => x_mv f84) ?_)
                    refine QW.cons rfl (QP.val (v := (.int .i64 x88.1)) rfl (fun w' hm' => x_move) ?_)
                    obtain ⟨x366, ha367, hm⟩ := bndE hm
                    obtain ⟨hz368, ha372⟩ := idxE ha367
                    obtain ⟨b369, q370, hix371⟩ := rdL_ix (hL.rdO 0 rfl) hz368 ha372
                    refine QW.cons rfl (QP.val (v := (.pointer (some ⟨b369, q370, none⟩))) rfl (fun w' hm' => x_ix Try.underlying33 Try_T48 rfl rfl hix371) ?_)
                    refine QW.cons rfl (QP.val (v := (.pointer (some ⟨b369, q370 + 1, none⟩))) rfl (fun w' hm' => x_fieldAddr (fsz := 1) q370 1 (q370 + 1) Try.underlying48 rfl Try_T2 rfl rfl rfl) ?_)
                    refine QW.cons rfl (QP.val (v := (.int .i64 x366.Boat)) rfl (fun w' hm' => x_load1 Try.underlying2 rfl rfl (rdF_cells ((hL.call hm').rdO 0 rfl) hix371 ha372 1 _ rfl)) ?_)
                    refine QW.cons rfl (QP.val (v := (.agg #[(.int .i64 x359.Race), (.int .i64 x366.Boat), (.int .i64 2), (.int .i64 1000000000)])) rfl (fun w' hm' => x_build Try_B48 (ps := [(0, (.int .i64 x359.Race)), (1, (.int .i64 x366.Boat)), (2, (.int .i64 2)), (3, (.int .i64 1000000000))]) ⟨⟨rfl, rfl⟩, ⟨rfl, rfl⟩, ⟨rfl, rfl⟩, ⟨rfl, rfl⟩, trivial⟩ (by simp [Instr.fill, cells_int, cells_bool, cells_string, cells_agg, cells_slice, cells_pointer])) ?_)
                    obtain ⟨x373, ha374, hm⟩ := bndE hm
                    obtain ⟨hz375, ha379⟩ := idxE ha374
                    obtain ⟨b376, q377, hix378⟩ := rdL_ix (hL.rdO 0 rfl) hz375 ha379
                    refine QW.cons rfl (QP.val (v := (.pointer (some ⟨b376, q377, none⟩))) rfl (fun w' hm' => x_ix Try.underlying33 Try_T48 rfl rfl hix378) ?_)
                    refine QW.nil ?_
                    intro wd380 hmod
                    have hL := hL.call hmod
                    refine DW.only 14 rfl (by kernel_rfl) (S_storeXN (l := [(.int .i64 x359.Race), (.int .i64 x366.Boat), (.int .i64 2), (.int .i64 1000000000)]) (Penalty.mk x359.Race x366.Boat 2 1000000000) hL 0 rfl Try_T48 hix378 ha379 rfl rfl rfl ?_)
                    intro wd381 hL
                    refine DW.done (by kernel_rfl) ?_
                    exact ⟨(x241.2.1, x241.2.2, s_l1.2.2.1.set (x88.1 : Int).toNat (Penalty.mk x359.Race x366.Boat 2 1000000000)), hm, ⟨S74, f82, f83, f84, hL⟩⟩
                  · refine CW.skip ?_
                    exact ⟨(x241.2.1, x241.2.2, s_l1.2.2.1), hm, ⟨S74, f82, f83, f84, hL⟩⟩
        · intro s_j2 F312 wd313 hJ hm
          unfold M.spec_l21Draw_j2 at hm
          obtain ⟨S311, f314, f315, f316, hL⟩ := hJ
          exact ⟨(s_j2.1, s_j2.2.1, s_j2.2.2), hm, ⟨S311, f314, f315, f316, hL⟩⟩
      · intro s_j1 F235 wd236 hJ hm
        unfold M.spec_l21Draw_j1 at hm
        obtain ⟨S234, f237, f238, f239, hL⟩ := hJ
        refine CW.seq ?_
        refine CW.regionL ?_
        refine OW.cons (OP.val (v := (.agg #[(.int .i64 x7.1.Boats), (.int .i64 x7.1.Scheme), v10])) rfl (x_loadN (cs := [(.int .i64 x7.1.Boats), (.int .i64 x7.1.Scheme), v10]) Try.underlying31 Try_T31 rfl f238 (hL.cellsB 1 rfl (o := 0) (l := [(.int .i64 x7.1.Boats), (.int .i64 x7.1.Scheme), v10]) (by intro j u hj; exact (by simpa using hj)))) ?_)
        refine OW.cons (OP.val (v := v73) rfl (x_mv f239) ?_)
        refine OW.cons (S_storeN (l := [(.int .i64 x7.1.Boats), (.int .i64 x7.1.Scheme), v10]) (cs' := #[(.int .i64 x7.1.Boats), (.int .i64 x7.1.Scheme), v10]) hL 3 rfl Try_T31 f237 rfl (List.forall_mem_cons.2 ⟨rfl, (List.forall_mem_cons.2 ⟨rfl, (List.forall_mem_cons.2 ⟨rdL_one (hL.rdO 2 rfl), (fun _ h => by cases h)⟩)⟩)⟩) rfl (Nat.le_of_ble_eq_true rfl) rfl ?_)
        intro wd240 hL
        refine OW.cons (OP.val (v := v73) rfl (x_assign) ?_)
        refine OW.nil ?_
        refine CW.ret ?_
        obtain rfl := Option.some.inj hm
        exact RRct rfl f237 (run_loadBlk Try.underlying31 Try_T31 (hL.get 3 rfl) rfl) rfl ⟨v10, S9, v73, S234, rfl, hL.mutOut 5 rfl [4, 2, 0] (by decide) (by decide) rfl⟩
  · intro s_l1 F382 wd383 t75 hJ hm hr76
    unfold M.spec_l21Draw_l1 at hm
    obtain ⟨v73, S74, f384, f385, f386, f387, f388, hL⟩ := hJ
    refine CW.seq ?_
    refine CW.seqJ (fun (s_j3 : Bool) (F : Fr) (w : World) => F 0 = (.pointer (some ⟨b1, 0, none⟩)) ∧ F 2 = (.pointer (some ⟨b6, 0, none⟩)) ∧ F 4 = (.pointer (some ⟨b15, 0, none⟩)) ∧ F 5 = v73 ∧ F 6 = (.int .i64 s_l1.2.2.2) ∧ F 20 = (.bool s_j3) ∧ Hp w0 [Ent.own 48 S74 v73 s_l1.2.2.1, Ent.blk b15 31 #[(.int .i64 x7.1.Boats), (.int .i64 x7.1.Scheme), v10], Ent.own 46 S9 v10 x7.1.Races, Ent.blk b6 31 #[(.int .i64 0), (.int .i64 0), (.slice none 0 0)], Ent.blk b1 94 #[v2, (.int .i64 s_l1.1), (.int .i64 s_l1.2.1)], Ent.frz w0 (Ent.blk b1 94 #[v2, .int .i64 a0.at_, .int .i64 a0.seed]).S] w) (fun s_j3 => M.spec_l21Draw_j3 a0 x7 s_l1 s_j3 = some t75) ?_ ?_
    · refine CW.regionL ?_
      refine OW.cons (OP.val (v := (.int .i64 s_l1.2.2.2)) rfl (x_mv f388) ?_)
      refine OW.cons (OP.val (v := (.bool (decide (0 < s_l1.2.2.2)))) rfl (x_gtr rfl rfl) ?_)
      refine OW.cons (OP.val (v := (.bool (decide (0 < s_l1.2.2.2)))) rfl (x_move) ?_)
      refine ifB_elim hm (fun hb411 hm => ?_) (fun hb411 hm => ?_)
      · refine OW.cons (OP.yes' rfl rfl hb411 (OP.val (v := (.pointer (some ⟨b15, 2, none⟩))) rfl (x_fieldAddr (fsz := 1) 0 2 2 Try.underlying31 rfl Try_T29 rfl f386 rfl) ?_))
        refine OW.cons (OP.yes' rfl rfl hb411 (OP.val (v := v10) rfl (x_load1 Try.underlying29 rfl rfl (hL.cellB 1 rfl rfl)) ?_))
        refine OW.cons (OP.yes' rfl rfl hb411 (OP.val (v := (.int .i64 (x7.1.Races.length : Int))) rfl (x_lenR Try.underlying29 rfl (hL.rdO 2 rfl)) ?_))
        refine OW.cons (OP.yes' rfl rfl hb411 (OP.val (v := (.bool (decide (0 < (x7.1.Races.length : Int))))) rfl (x_gtr rfl rfl) ?_))
        refine OW.cons (OP.val (v := (.bool (decide (0 < (x7.1.Races.length : Int))))) rfl (x_pickT' rfl hb411 rfl) ?_)
        refine OW.nil ?_
        exact ⟨decide (0 < (x7.1.Races.length : Int)), hm, ⟨f384, f385, f386, f387, f388, rfl, hL⟩⟩
      · refine OW.cons (OP.no' rfl rfl hb411 rfl ?_)
        refine OW.cons (OP.no' rfl rfl hb411 rfl ?_)
        refine OW.cons (OP.no' rfl rfl hb411 rfl ?_)
        refine OW.cons (OP.no' rfl rfl hb411 rfl ?_)
        refine OW.cons (OP.val (v := (.bool false)) rfl (x_pickF' rfl hb411 rfl) ?_)
        refine OW.nil ?_
        exact ⟨false, hm, ⟨f384, f385, f386, f387, f388, rfl, hL⟩⟩
    · intro s_j3 F390 wd391 hJ hm
      unfold M.spec_l21Draw_j3 at hm
      obtain ⟨f392, f393, f394, f395, f396, f397, hL⟩ := hJ
      refine CW.condM (t := s_j3) f397 hm (fun hb398 hm => ?_) (fun hb398 hm => ?_)
      · refine CW.skip ?_
        refine CW.seq ?_
        refine CW.block ?_
        refine CW.regionL ?_
        refine OW.cons (OP.val (v := v73) rfl (x_mv f395) ?_)
        refine OW.cons (OP.val (v := (.pointer (some ⟨b1, 0, none⟩))) rfl (x_mv f392) ?_)
        refine OW.cons (OP.val (v := (.agg #[(.int .i64 x7.1.Boats), (.int .i64 x7.1.Scheme), v10])) rfl (x_loadN (cs := [(.int .i64 x7.1.Boats), (.int .i64 x7.1.Scheme), v10]) Try.underlying31 Try_T31 rfl f394 (hL.cellsB 1 rfl (o := 0) (l := [(.int .i64 x7.1.Boats), (.int .i64 x7.1.Scheme), v10]) (by intro j u hj; exact (by simpa using hj)))) ?_)
        obtain ⟨x399, hx400, hm⟩ := bndE hm
        refine OW.cons (OP.call rfl (x_call (vs := [(.pointer (some ⟨b1, 0, none⟩)), (.agg #[(.int .i64 x7.1.Boats), (.int .i64 x7.1.Scheme), v10])]) Try_C69 ⟨rfl, rfl, trivial⟩) (M.spec_l21DrawPenalty_ok _ (Src.mk a0.code s_l1.1 s_l1.2.1) (hL.exZ 5 4 (by decide) rfl rfl h3) (hL.get 4 rfl) x7.1 (hL.exO 2 4 (by decide) rfl rfl) hx400) ?_)
        rintro e401 wd402 ⟨rfl, hF403⟩
        refine ⟨_, rfl, ?_⟩
        have hL := hL.mut 4 rfl hF403
        simp only [lA, lB, lC, lD] at hL
        refine OW.cons (S_lit ([x399.1] : List Penalty) hL Try.underlying33 Try_T48 rfl (by decide) (by first | (simp [Instr.fill, madeCells, Value.cells, ev, upd, Flat.enc, Flat.sz]; done) | rfl | kernel_rfl) rfl rfl ?_)
        intro wd404 v405 S406 hL
        obtain ⟨hc410, hm⟩ := chkE hm
        refine OW.cons (S_append (ys := ([x399.1] : List Penalty)) hL 1 rfl Try.underlying33 Try_T48 rfl rfl rfl (hL.rdO 0 rfl) hc410 (by decide) rfl ?_)
        intro wd407 v408 S409 hL
        refine OW.cons (OP.val (v := v408) rfl (x_assign) ?_)
        refine OW.nil ?_
        refine CW.regionL ?_
        refine OW.cons (OP.val (v := (.int .i64 s_l1.2.2.2)) rfl (x_mv f396) ?_)
        refine OW.cons (OP.val (v := (.int .i64 (w64 (s_l1.2.2.2 - 1)))) rfl (x_sub rfl rfl) ?_)
        refine OW.cons (OP.val (v := (.int .i64 (w64 (s_l1.2.2.2 - 1)))) rfl (x_assign) ?_)
        refine OW.nil ?_
        have hL := hL.sel [1, 2, 3, 4, 5, 6] (by decide) rfl
        obtain rfl := Option.some.inj hm
        exact ⟨_, rfl, ⟨v408, S409, f392, f393, f394, rfl, rfl, hL⟩⟩
      · refine CW.exit ?_
        refine XJ.hit ?_
        obtain rfl := Option.some.inj hm
        exact ⟨_, rfl, ⟨v73, S74, f392, f393, f394, f395, f396, hL⟩⟩

theorem M.impl_penaltyCode_ok (w0 : World) (a0 : Series) {v1 : Value} (h2 : rdL (· < w0.heap.size) w0 v1 a0.Races) (a1 : List Penalty) {v3 : Value} (h4 : rdL (· < w0.heap.size) w0 v3 a1) {r : Int} (hm : M.impl_penaltyCode a0 a1 = some r) :
    Calls Try.prog 43 #[(.agg #[(.int .i64 a0.Boats), (.int .i64 a0.Scheme), v1]), v3] w0 fun e w' => e = .returned (.int .i64 r) ∧ Fresh w0 w' [] := by
  unfold M.impl_penaltyCode at hm
  refine calls_CW (args := [(.agg #[(.int .i64 a0.Boats), (.int .i64 a0.Scheme), v1]), v3]) Try.func43 rfl rfl rfl ?_
  have hL := Hp.start w0
  refine CW.seq ?_
  refine CW.regionL ?_
  refine OW.cons (S_box (cs := #[(.int .i64 a0.Boats), (.int .i64 a0.Scheme), v1]) hL rfl rfl rfl ?_)
  intro wd5 b6 hL
  refine OW.cons (OP.val (v := (.int .i64 0)) rfl (x_assign) ?_)
  refine OW.nil ?_
  refine CW.seq ?_
  refine CW.seq ?_
  refine CW.regionL ?_
  refine OW.cons (OP.val (v := (.agg #[(.int .i64 a0.Boats), (.int .i64 a0.Scheme), v1])) rfl (x_loadN (cs := [(.int .i64 a0.Boats), (.int .i64 a0.Scheme), v1]) Try.underlying31 Try_T31 rfl rfl (hL.cellsB 0 rfl (o := 0) (l := [(.int .i64 a0.Boats), (.int .i64 a0.Scheme), v1]) (by intro j u hj; exact (by simpa using hj)))) ?_)
  obtain ⟨x7, hx8, hm⟩ := bndE hm
  refine OW.cons (OP.call rfl (x_call (vs := [(.agg #[(.int .i64 a0.Boats), (.int .i64 a0.Scheme), v1])]) Try_C21 ⟨rfl, trivial⟩) (M.impl_IsSeries_ok _ a0 (hL.rdS 1 rfl h2) hx8) ?_)
  rintro e9 wd10 ⟨rfl, hF11⟩
  refine ⟨_, rfl, ?_⟩
  have hL := hL.pushAll hF11
  simp only [lA, lB, lC, lD] at hL
  refine OW.cons (OP.val (v := (.bool (!x7))) rfl (x_not rfl) ?_)
  refine OW.nil ?_
  refine CW.condM (t := !x7) rfl hm (fun hb12 hm => ?_) (fun hb12 hm => ?_)
  · refine CW.seq ?_
    refine CW.regionL ?_
    refine OW.cons (OP.val (v := (.int .i64 1)) rfl (x_assign) ?_)
    refine OW.nil ?_
    refine CW.ret ?_
    obtain rfl := Option.some.inj hm
    exact RR1 rfl rfl ⟨rfl, hL.fresh 1 rfl [] (by decide) (by decide) rfl⟩
  · refine CW.skip ?_
    refine CW.seq ?_
    refine CW.seq ?_
    refine CW.regionL ?_
    refine OW.cons (OP.val (v := (.agg #[(.int .i64 a0.Boats), (.int .i64 a0.Scheme), v1])) rfl (x_loadN (cs := [(.int .i64 a0.Boats), (.int .i64 a0.Scheme), v1]) Try.underlying31 Try_T31 rfl rfl (hL.cellsB 0 rfl (o := 0) (l := [(.int .i64 a0.Boats), (.int .i64 a0.Scheme), v1]) (by intro j u hj; exact (by simpa using hj)))) ?_)
    refine OW.cons (OP.val (v := v3) rfl (x_move) ?_)
    obtain ⟨x13, hx14, hm⟩ := bndE hm
    refine OW.cons (OP.call rfl (x_call (vs := [(.agg #[(.int .i64 a0.Boats), (.int .i64 a0.Scheme), v1]), v3]) Try_C38 ⟨rfl, rfl, trivial⟩) (M.impl_arePenalties_ok _ a0 (hL.rdS 1 rfl h2) a1 (hL.rdS 1 rfl h4) hx14) ?_)
    rintro e15 wd16 ⟨rfl, hF17⟩
    refine ⟨_, rfl, ?_⟩
    have hL := hL.pushAll hF17
    simp only [lA, lB, lC, lD] at hL
    refine OW.cons (OP.val (v := (.bool (!x13))) rfl (x_not rfl) ?_)
    refine OW.nil ?_
    refine CW.condM (t := !x13) rfl hm (fun hb18 hm => ?_) (fun hb18 hm => ?_)
    · refine CW.seq ?_
      refine CW.regionL ?_
      refine OW.cons (OP.val (v := (.int .i64 2)) rfl (x_assign) ?_)
      refine OW.nil ?_
      refine CW.ret ?_
      obtain rfl := Option.some.inj hm
      exact RR1 rfl rfl ⟨rfl, hL.fresh 1 rfl [] (by decide) (by decide) rfl⟩
    · refine CW.skip ?_
      refine CW.seq ?_
      refine CW.regionL ?_
      refine OW.cons (OP.val (v := (.int .i64 0)) rfl (x_assign) ?_)
      refine OW.nil ?_
      refine CW.ret ?_
      obtain rfl := Option.some.inj hm
      exact RR1 rfl rfl ⟨rfl, hL.fresh 1 rfl [] (by decide) (by decide) rfl⟩

theorem M.impl_penalizedSeries_ok (w0 : World) (a0 : Series) {v1 : Value} (h2 : rdL (· < w0.heap.size) w0 v1 a0.Races) (a1 : List Penalty) {v3 : Value} (h4 : rdL (· < w0.heap.size) w0 v3 a1) {r : Series} (hm : M.impl_penalizedSeries a0 a1 = some r) :
    Calls Try.prog 44 #[(.agg #[(.int .i64 a0.Boats), (.int .i64 a0.Scheme), v1]), v3] w0 fun e w' => ∃ (rv0 : Value) (rS0 : Nat → Prop), e = .returned (.agg #[(.int .i64 r.Boats), (.int .i64 r.Scheme), rv0]) ∧ Fresh w0 w' [Ent.own 46 rS0 rv0 r.Races] := by
  unfold M.impl_penalizedSeries at hm
  refine calls_CW (args := [(.agg #[(.int .i64 a0.Boats), (.int .i64 a0.Scheme), v1]), v3]) Try.func44 rfl rfl rfl ?_
  have hL := Hp.start w0
  refine CW.seq ?_
  refine CW.regionL ?_
  refine OW.cons (S_box (cs := #[(.int .i64 a0.Boats), (.int .i64 a0.Scheme), v1]) hL rfl rfl rfl ?_)
  intro wd5 b6 hL
  refine OW.cons (S_alloc (cs := #[(.int .i64 0), (.int .i64 0), (.slice none 0 0)]) hL Try_T31 rfl rfl ?_)
  intro wd7 b8 hL
  refine OW.nil ?_
  refine CW.seq ?_
  refine CW.regionL ?_
  refine OW.cons (OP.val (v := (.pointer (some ⟨b6, 0, none⟩))) rfl (x_fieldAddr (fsz := 1) 0 0 0 Try.underlying31 rfl Try_T2 rfl rfl rfl) ?_)
  refine OW.cons (OP.val (v := (.int .i64 a0.Boats)) rfl (x_load1 Try.underlying2 rfl rfl (hL.cellB 1 rfl rfl)) ?_)
  refine OW.cons (OP.val (v := (.pointer (some ⟨b6, 1, none⟩))) rfl (x_fieldAddr (fsz := 1) 0 1 1 Try.underlying31 rfl Try_T2 rfl rfl rfl) ?_)
  refine OW.cons (OP.val (v := (.int .i64 a0.Scheme)) rfl (x_load1 Try.underlying2 rfl rfl (hL.cellB 1 rfl rfl)) ?_)
  refine OW.cons (OP.val (v := (.agg #[(.int .i64 a0.Boats), (.int .i64 a0.Scheme), (.slice none 0 0)])) rfl (x_build Try_B31 (ps := [(0, (.int .i64 a0.Boats)), (1, (.int .i64 a0.Scheme))]) ⟨⟨rfl, rfl⟩, ⟨rfl, rfl⟩, trivial⟩ (by simp [Instr.fill, cells_int, cells_bool, cells_string, cells_agg, cells_slice, cells_pointer])) ?_)
  refine OW.cons (S_alloc (cs := #[(.int .i64 0), (.int .i64 0), (.slice none 0 0)]) hL Try_T31 rfl rfl ?_)
  intro wd9 b10 hL
  refine OW.cons (S_storeN (l := [(.int .i64 a0.Boats), (.int .i64 a0.Scheme), (.slice none 0 0)]) (cs' := #[(.int .i64 a0.Boats), (.int .i64 a0.Scheme), (.slice none 0 0)]) hL 0 rfl Try_T31 rfl rfl (List.forall_mem_cons.2 ⟨rfl, (List.forall_mem_cons.2 ⟨rfl, (List.forall_mem_cons.2 ⟨rfl, (fun _ h => by cases h)⟩)⟩)⟩) rfl (Nat.le_of_ble_eq_true rfl) rfl ?_)
  intro wd11 hL
  refine OW.nil ?_
  refine CW.seq ?_
  refine CW.seq ?_
  refine CW.regionL ?_
  refine OW.cons (OP.val (v := (.pointer (some ⟨b6, 2, none⟩))) rfl (x_fieldAddr (fsz := 1) 0 2 2 Try.underlying31 rfl Try_T29 rfl rfl rfl) ?_)
  refine OW.cons (OP.val (v := v1) rfl (x_load1 Try.underlying29 rfl rfl (hL.cellB 2 rfl rfl)) ?_)
  refine OW.cons (OP.val (v := (.int .i64 (a0.Races.length : Int))) rfl (x_lenR Try.underlying29 rfl (hL.rdS 3 rfl h2)) ?_)
  refine OW.cons (OP.val (v := (.int .i64 0)) rfl (x_move) ?_)
  refine OW.nil ?_
  obtain ⟨o108, ho109, hm⟩ := bndE hm
  have hL := hL.pushNil Race 46
  refine CW.loopB (fun (s_l1 : (List Race) × Int) (F : Fr) (w : World) => ∃ (v104 : Value) (S105 : Nat → Prop), F 1 = v3 ∧ F 4 = (.pointer (some ⟨b8, 0, none⟩)) ∧ F 5 = (.pointer (some ⟨b10, 0, none⟩)) ∧ F 19 = v1 ∧ F 20 = (.int .i64 (a0.Races.length : Int)) ∧ F 21 = (.int .i64 s_l1.2) ∧ Hp w0 [Ent.own 46 S105 v104 s_l1.1, Ent.blk b10 31 #[(.int .i64 a0.Boats), (.int .i64 a0.Scheme), v104], Ent.blk b8 31 #[(.int .i64 0), (.int .i64 0), (.slice none 0 0)], Ent.blk b6 31 #[(.int .i64 a0.Boats), (.int .i64 a0.Scheme), v1], Ent.snap w0 w0.heap.size] w) (fun o => outc o (fun x => some x) (fun s => M.impl_penalizedSeries_a1 a0 a1 s) = some r) ho109 hm ⟨(.slice none 0 0), None_, rfl, rfl, rfl, rfl, rfl, rfl, hL⟩ ?_ ?_
  · intro s_l1 F110 wd111 hJ hm
    have hm := outcE hm
    have hm : M.impl_penalizedSeries_a1 a0 a1 s_l1 = some r := hm
    unfold M.impl_penalizedSeries_a1 at hm
    obtain ⟨v104, S105, f112, f113, f114, f115, f116, f117, hL⟩ := hJ
    refine CW.seq ?_
    refine CW.seq ?_
    refine CW.regionL ?_
    refine OW.cons (OP.val (v := v3) rfl (x_mv f112) ?_)
    refine OW.cons (OP.val (v := (.int .i64 (a1.length : Int))) rfl (x_lenR Try.underlying33 rfl (hL.rdS 4 rfl h4)) ?_)
    refine OW.cons (OP.val (v := (.int .i64 0)) rfl (x_move) ?_)
    refine OW.nil ?_
    obtain ⟨o618, ho619, hm⟩ := bndE hm
    refine CW.loopB (fun (s_l2 : (List Race) × Int) (F : Fr) (w : World) => ∃ (S615 : Nat → Prop), F 1 = v3 ∧ F 4 = (.pointer (some ⟨b8, 0, none⟩)) ∧ F 5 = (.pointer (some ⟨b10, 0, none⟩)) ∧ F 36 = v3 ∧ F 37 = (.int .i64 (a1.length : Int)) ∧ F 38 = (.int .i64 s_l2.2) ∧ Hp w0 [Ent.own 46 S615 v104 s_l2.1, Ent.blk b10 31 #[(.int .i64 a0.Boats), (.int .i64 a0.Scheme), v104], Ent.blk b8 31 #[(.int .i64 0), (.int .i64 0), (.slice none 0 0)], Ent.blk b6 31 #[(.int .i64 a0.Boats), (.int .i64 a0.Scheme), v1], Ent.snap w0 w0.heap.size] w) (fun o => outc o (fun x => some x) (fun s => M.impl_penalizedSeries_a2 a0 a1 s) = some r) ho619 hm ⟨S105, f112, f113, f114, rfl, rfl, rfl, hL⟩ ?_ ?_
    · intro s_l2 F620 wd621 hJ hm
      have hm := outcE hm
      have hm : M.impl_penalizedSeries_a2 a0 a1 s_l2 = some r := hm
      unfold M.impl_penalizedSeries_a2 at hm
      obtain ⟨S615, f622, f623, f624, f625, f626, f627, hL⟩ := hJ
      refine CW.seq ?_
      refine CW.seq ?_
      refine CW.regionL ?_
      refine OW.cons (OP.val (v := v3) rfl (x_mv f622) ?_)
      refine OW.cons (OP.val (v := (.int .i64 (a1.length : Int))) rfl (x_lenR Try.underlying33 rfl (hL.rdS 4 rfl h4)) ?_)
      refine OW.cons (OP.val (v := (.int .i64 0)) rfl (x_move) ?_)
      refine OW.nil ?_
      obtain ⟨o1018, ho1019, hm⟩ := bndE hm
      refine CW.loopB (fun (s_l3 : (List Race) × Int) (F : Fr) (w : World) => ∃ (S1015 : Nat → Prop), F 4 = (.pointer (some ⟨b8, 0, none⟩)) ∧ F 5 = (.pointer (some ⟨b10, 0, none⟩)) ∧ F 74 = v3 ∧ F 75 = (.int .i64 (a1.length : Int)) ∧ F 76 = (.int .i64 s_l3.2) ∧ Hp w0 [Ent.own 46 S1015 v104 s_l3.1, Ent.blk b10 31 #[(.int .i64 a0.Boats), (.int .i64 a0.Scheme), v104], Ent.blk b8 31 #[(.int .i64 0), (.int .i64 0), (.slice none 0 0)], Ent.blk b6 31 #[(.int .i64 a0.Boats), (.int .i64 a0.Scheme), v1], Ent.snap w0 w0.heap.size] w) (fun o => outc o (fun x => some x) (fun s => M.impl_penalizedSeries_a3 a0 s) = some r) ho1019 hm ⟨S615, f623, f624, rfl, rfl, rfl, hL⟩ ?_ ?_
      · intro s_l3 F1020 wd1021 hJ hm
        have hm := outcE hm
        have hm : M.impl_penalizedSeries_a3 a0 s_l3 = some r := hm
        unfold M.impl_penalizedSeries_a3 at hm
        obtain ⟨S1015, f1022, f1023, f1024, f1025, f1026, hL⟩ := hJ
        refine CW.seq ?_
        refine CW.regionL ?_
        refine OW.cons (OP.val (v := (.agg #[(.int .i64 a0.Boats), (.int .i64 a0.Scheme), v104])) rfl (x_loadN (cs := [(.int .i64 a0.Boats), (.int .i64 a0.Scheme), v104]) Try.underlying31 Try_T31 rfl f1023 (hL.cellsB 1 rfl (o := 0) (l := [(.int .i64 a0.Boats), (.int .i64 a0.Scheme), v104]) (by intro j u hj; exact (by simpa using hj)))) ?_)
        refine OW.cons (S_storeN (l := [(.int .i64 a0.Boats), (.int .i64 a0.Scheme), v104]) (cs' := #[(.int .i64 a0.Boats), (.int .i64 a0.Scheme), v104]) hL 2 rfl Try_T31 f1022 rfl (List.forall_mem_cons.2 ⟨rfl, (List.forall_mem_cons.2 ⟨rfl, (List.forall_mem_cons.2 ⟨rdL_one (hL.rdO 0 rfl), (fun _ h => by cases h)⟩)⟩)⟩) rfl (Nat.le_of_ble_eq_true rfl) rfl ?_)
        intro wd1027 hL
        refine OW.nil ?_
        refine CW.ret ?_
        obtain rfl := Option.some.inj hm
        exact RRc rfl f1022 (run_loadBlk Try.underlying31 Try_T31 (hL.get 2 rfl) rfl) ⟨v104, S1015, rfl, hL.fresh 4 rfl [0] (by decide) (by decide) rfl⟩
      · intro s_l3 F1028 wd1029 t1016 hJ hm hr1017
        unfold M.impl_penalizedSeries_l3 at hm
        obtain ⟨S1015, f1030, f1031, f1032, f1033, f1034, hL⟩ := hJ
        refine CW.seq ?_
        refine CW.regionL ?_
        refine OW.cons (OP.val (v := (.bool (decide (s_l3.2 < (a1.length : Int))))) rfl (x_lss f1034 f1033) ?_)
        refine OW.nil ?_
        refine CW.seq ?_
        refine CW.condM (t := decide (s_l3.2 < (a1.length : Int))) rfl hm (fun hb1035 hm => ?_) (fun hb1035 hm => ?_)
        · refine CW.skip ?_
          refine CW.seqJ (fun (s_j1 : (List Race)) (F : Fr) (w : World) => ∃ (S1128 : Nat → Prop), F 4 = (.pointer (some ⟨b8, 0, none⟩)) ∧ F 5 = (.pointer (some ⟨b10, 0, none⟩)) ∧ F 74 = v3 ∧ F 75 = (.int .i64 (a1.length : Int)) ∧ F 76 = (.int .i64 s_l3.2) ∧ Hp w0 [Ent.own 46 S1128 v104 s_j1, Ent.blk b10 31 #[(.int .i64 a0.Boats), (.int .i64 a0.Scheme), v104], Ent.blk b8 31 #[(.int .i64 0), (.int .i64 0), (.slice none 0 0)], Ent.blk b6 31 #[(.int .i64 a0.Boats), (.int .i64 a0.Scheme), v1], Ent.snap w0 w0.heap.size] w) (fun s_j1 => M.impl_penalizedSeries_j1 s_l3 s_j1 = some t1016) ?_ ?_
          · refine CW.blockJ (fun (s_j2 : (List Race)) (F : Fr) (w : World) => ∃ (S1178 : Nat → Prop), F 4 = (.pointer (some ⟨b8, 0, none⟩)) ∧ F 5 = (.pointer (some ⟨b10, 0, none⟩)) ∧ F 74 = v3 ∧ F 75 = (.int .i64 (a1.length : Int)) ∧ F 76 = (.int .i64 s_l3.2) ∧ Hp w0 [Ent.own 46 S1178 v104 s_j2, Ent.blk b10 31 #[(.int .i64 a0.Boats), (.int .i64 a0.Scheme), v104], Ent.blk b8 31 #[(.int .i64 0), (.int .i64 0), (.slice none 0 0)], Ent.blk b6 31 #[(.int .i64 a0.Boats), (.int .i64 a0.Scheme), v1], Ent.snap w0 w0.heap.size] w) (fun s_j2 => M.impl_penalizedSeries_j2 s_l3 s_j2 = some t1016) ?_ ?_
            · refine CW.seq ?_
              refine CW.regionL ?_
              obtain ⟨x1186, ha1187, hm⟩ := bndE hm
              obtain ⟨hz1188, ha1192⟩ := idxE ha1187
              obtain ⟨b1189, q1190, hix1191⟩ := rdL_ix (hL.rdS 4 rfl h4) hz1188 ha1192
              refine OW.cons (OP.val (v := (.pointer (some ⟨b1189, q1190, none⟩))) rfl (x_ix Try.underlying33 Try_T48 f1032 f1034 hix1191) ?_)
              refine OW.cons (OP.val (v := (.agg #[(.int .i64 x1186.Race), (.int .i64 x1186.Boat), (.int .i64 x1186.Kind), (.int .i64 x1186.Value)])) rfl (x_loadN (cs := [(.int .i64 x1186.Race), (.int .i64 x1186.Boat), (.int .i64 x1186.Kind), (.int .i64 x1186.Value)]) Try.underlying48 Try_T48 rfl rfl (rdF_cells (hL.rdS 4 rfl h4) hix1191 ha1192)) ?_)
              refine OW.cons (S_alloc (cs := #[(.int .i64 0), (.int .i64 0), (.int .i64 0), (.int .i64 0)]) hL Try_T48 rfl rfl ?_)
              intro wd1193 b1194 hL
              refine OW.cons (S_storeN (l := [(.int .i64 x1186.Race), (.int .i64 x1186.Boat), (.int .i64 x1186.Kind), (.int .i64 x1186.Value)]) (cs' := #[(.int .i64 x1186.Race), (.int .i64 x1186.Boat), (.int .i64 x1186.Kind), (.int .i64 x1186.Value)]) hL 0 rfl Try_T48 rfl rfl (List.forall_mem_cons.2 ⟨rfl, (List.forall_mem_cons.2 ⟨rfl, (List.forall_mem_cons.2 ⟨rfl, (List.forall_mem_cons.2 ⟨rfl, (fun _ h => by cases h)⟩)⟩)⟩)⟩) rfl (Nat.le_of_ble_eq_true rfl) rfl ?_)
              intro wd1195 hL
              refine OW.nil ?_
              refine CW.seq ?_
              refine CW.regionL ?_
              refine OW.cons (OP.val (v := (.pointer (some ⟨b1194, 2, none⟩))) rfl (x_fieldAddr (fsz := 1) 0 2 2 Try.underlying48 rfl Try_T2 rfl rfl rfl) ?_)
              refine OW.cons (OP.val (v := (.int .i64 x1186.Kind)) rfl (x_load1 Try.underlying2 rfl rfl (hL.cellB 0 rfl rfl)) ?_)
              refine OW.cons (OP.val (v := (.bool (x1186.Kind == 1))) rfl (x_eql rfl rfl) ?_)
              refine OW.nil ?_
              refine CW.condM (t := x1186.Kind == 1) rfl hm (fun hb1196 hm => ?_) (fun hb1196 hm => ?_)
              · obtain ⟨wz1197, hL, ho1198⟩ := hL.freeze 1 rfl
                simp only [lC, lD] at hL
                refine CW.draw Try_mixed ?_
                have hL := hL.call (Mod.drew _)
                refine DW.pre (fuel := 1) (fin := ((((((((((((((((Array.replicate 16 false).setIfInBounds 0 true).setIfInBounds 1 true).setIfInBounds 2 true).setIfInBounds 3 true).setIfInBounds 4 true).setIfInBounds 5 true).setIfInBounds 6 true).setIfInBounds 7 true).setIfInBounds 8 true).setIfInBounds 9 true).setIfInBounds 10 true).setIfInBounds 11 true).setIfInBounds 12 true).setIfInBounds 13 true).setIfInBounds 14 true)) (C := fun w' => Mod None_ _ w') [0, 1, 2, 3, 4, 5, 6, 7, 8, 9, 10, 11, 12, 13, 14] (Mod.refl _ _) (by kernel_rfl) (by kernel_rfl) ?_
                refine QW.cons rfl (QP.val (v := (.pointer (some ⟨b10, 2, none⟩))) rfl (fun w' hm' => x_fieldAddr (fsz := 1) 0 2 2 Try.underlying31 rfl Try_T29 rfl f1031 rfl) ?_)
                refine QW.cons rfl (QP.val (v := v104) rfl (fun w' hm' => x_load1 Try.underlying29 rfl rfl ((hL.call hm').cellB 2 rfl rfl)) ?_)
                refine QW.cons rfl (QP.val (v := (.pointer (some ⟨b1194, 0, none⟩))) rfl (fun w' hm' => x_fieldAddr (fsz := 1) 0 0 0 Try.underlying48 rfl Try_T2 rfl rfl rfl) ?_)
                refine QW.cons rfl (QP.val (v := (.int .i64 x1186.Race)) rfl (fun w' hm' => x_load1 Try.underlying2 rfl rfl ((hL.call hm').cellB 0 rfl rfl)) ?_)
                obtain ⟨x1199, ha1200, hm⟩ := bndE hm
                obtain ⟨hz1201, ha1209⟩ := idxE ha1200
                obtain ⟨b1202, q1203, v1204, hix1205, hs1206, hc1207, hr1208⟩ := rdN_at ho1198.1.rdL hz1201 ha1209
                refine QW.cons rfl (QP.val (v := (.pointer (some ⟨b1202, q1203, none⟩))) rfl (fun w' hm' => x_ix Try.underlying29 Try_T46 rfl rfl hix1205) ?_)
                refine QW.cons rfl (QP.val (v := (.pointer (some ⟨b1202, q1203, none⟩))) rfl (fun w' hm' => x_fieldAddr (fsz := 1) q1203 0 q1203 Try.underlying46 rfl Try_T44 rfl rfl rfl) ?_)
                refine QW.cons rfl (QP.val (v := v1204) rfl (fun w' hm' => x_load1 Try.underlying44 rfl rfl ((hL.call hm').cellF 1 rfl hs1206 hc1207)) ?_)
                refine QW.cons rfl (QP.val (v := (.pointer (some ⟨b1194, 1, none⟩))) rfl (fun w' hm' => x_fieldAddr (fsz := 1) 0 1 1 Try.underlying48 rfl Try_T2 rfl rfl rfl) ?_)
                refine QW.cons rfl (QP.val (v := (.int .i64 x1186.Boat)) rfl (fun w' hm' => x_load1 Try.underlying2 rfl rfl ((hL.call hm').cellB 0 rfl rfl)) ?_)
                refine QW.cons rfl (QP.val (v := (.pointer (some ⟨b1194, 1, none⟩))) rfl (fun w' hm' => x_fieldAddr (fsz := 1) 0 1 1 Try.underlying48 rfl Try_T2 rfl rfl rfl) ?_)
                refine QW.cons rfl (QP.val (v := (.int .i64 x1186.Boat)) rfl (fun w' hm' => x_load1 Try.underlying2 rfl rfl ((hL.call hm').cellB 0 rfl rfl)) ?_)
                refine QW.cons rfl (QP.val (v := (.pointer (some ⟨b1194, 3, none⟩))) rfl (fun w' hm' => x_fieldAddr (fsz := 1) 0 3 3 Try.underlying48 rfl Try_T2 rfl rfl rfl) ?_)
                refine QW.cons rfl (QP.val (v := (.int .i64 x1186.Value)) rfl (fun w' hm' => x_load1 Try.underlying2 rfl rfl ((hL.call hm').cellB 0 rfl rfl)) ?_)
                refine QW.cons rfl (QP.val (v := (.agg #[(.int .i64 x1186.Boat), (.int .i64 x1186.Value), (.int .i64 0)])) rfl (fun w' hm' => x_build Try_B50 (ps := [(0, (.int .i64 x1186.Boat)), (1, (.int .i64 x1186.Value)), (2, (.int .i64 0))]) ⟨⟨rfl, rfl⟩, ⟨rfl, rfl⟩, ⟨rfl, rfl⟩, trivial⟩ (by simp [Instr.fill, cells_int, cells_bool, cells_string, cells_agg, cells_slice, cells_pointer])) ?_)
                obtain ⟨x1210, ha1211, hm⟩ := bndE hm
                obtain ⟨hz1212, ha1216⟩ := idxE ha1211
                obtain ⟨b1213, q1214, hix1215⟩ := rdL_ix (hL.rdF 1 rfl hr1208) hz1212 ha1216
                refine QW.cons rfl (QP.val (v := (.pointer (some ⟨b1213, q1214, none⟩))) rfl (fun w' hm' => x_ix Try.underlying44 Try_T50 rfl rfl hix1215) ?_)
                refine QW.nil ?_
                intro wd1217 hmod
                have hL := hL.call hmod
                have hc1219 := hL.cellF 1 rfl hs1206 hc1207
                have hL := hL.thaw 1 rfl ho1198
                simp only [lC, lD] at hL
                refine DW.only 15 rfl (by kernel_rfl) (S_inRowC (α := Finish) (x1199.Finishes.set (x1186.Boat : Int).toNat (Finish.mk x1186.Boat x1186.Value 0)) (Race.mk (x1199.Finishes.set (x1186.Boat : Int).toNat (Finish.mk x1186.Boat x1186.Value 0))) rfl hL 1 rfl hix1205 ha1209 hc1219 (fun E2 S1 hL hK => S_storeXN (l := [(.int .i64 x1186.Boat), (.int .i64 x1186.Value), (.int .i64 0)]) (Finish.mk x1186.Boat x1186.Value 0) hL 0 rfl Try_T50 hix1215 ha1216 rfl rfl rfl hK) ?_)
                intro wd1218 S1220 hL hc1221 ha1222
                simp only [lC, lD] at hL
                obtain ⟨wz1223, hL, ho1224, hs1225, hc1226, hr1227⟩ := hL.freezeAt (α := Finish) 1 rfl hix1205 ha1222 hc1221
                simp only [lC, lD] at hL
                refine DW.done (by kernel_rfl) ?_
                have hL := hL.thaw 1 rfl ho1224
                have hL := hL.sel [1, 2, 3, 4, 5] (by decide) rfl
                exact ⟨s_l3.1.set (x1186.Race : Int).toNat (Race.mk (x1199.Finishes.set (x1186.Boat : Int).toNat (Finish.mk x1186.Boat x1186.Value 0))), hm, ⟨S1220, f1030, f1031, f1032, f1033, f1034, hL⟩⟩
              · refine CW.skip ?_
                have hL := hL.sel [1, 2, 3, 4, 5] (by decide) rfl
                exact ⟨s_l3.1, hm, ⟨S1015, f1030, f1031, f1032, f1033, f1034, hL⟩⟩
            · intro s_j2 F1179 wd1180 hJ hm
              unfold M.impl_penalizedSeries_j2 at hm
              obtain ⟨S1178, f1181, f1182, f1183, f1184, f1185, hL⟩ := hJ
              exact ⟨s_j2, hm, ⟨S1178, f1181, f1182, f1183, f1184, f1185, hL⟩⟩
          · intro s_j1 F1129 wd1130 hJ hm
            unfold M.impl_penalizedSeries_j1 at hm
            obtain ⟨S1128, f1131, f1132, f1133, f1134, f1135, hL⟩ := hJ
            refine CW.regionL ?_
            refine OW.cons (OP.val (v := (.int .i64 (w64 (s_l3.2 + 1)))) rfl (x_add f1135 rfl) ?_)
            refine OW.cons (OP.val (v := (.int .i64 (w64 (s_l3.2 + 1)))) rfl (x_move) ?_)
            refine OW.nil ?_
            obtain rfl := Option.some.inj hm
            exact ⟨_, rfl, ⟨S1128, f1131, f1132, f1133, f1134, rfl, hL⟩⟩
        · refine CW.exit ?_
          refine XJ.hit ?_
          obtain rfl := Option.some.inj hm
          exact ⟨_, rfl, ⟨S1015, f1030, f1031, f1032, f1033, f1034, hL⟩⟩
    · intro s_l2 F1228 wd1229 t616 hJ hm hr617
      unfold M.impl_penalizedSeries_l2 at hm
      obtain ⟨S615, f1230, f1231, f1232, f1233, f1234, f1235, hL⟩ := hJ
      refine CW.seq ?_
      refine CW.regionL ?_
      refine OW.cons (OP.val (v := (.bool (decide (s_l2.2 < (a1.length : Int))))) rfl (x_lss f1235 f1234) ?_)
      refine OW.nil ?_
      refine CW.seq ?_
      refine CW.condM (t := decide (s_l2.2 < (a1.length : Int))) rfl hm (fun hb1236 hm => ?_) (fun hb1236 hm => ?_)
      · refine CW.skip ?_
        refine CW.seqJ (fun (s_j3 : (List Race)) (F : Fr) (w : World) => ∃ (S1356 : Nat → Prop), F 1 = v3 ∧ F 4 = (.pointer (some ⟨b8, 0, none⟩)) ∧ F 5 = (.pointer (some ⟨b10, 0, none⟩)) ∧ F 36 = v3 ∧ F 37 = (.int .i64 (a1.length : Int)) ∧ F 38 = (.int .i64 s_l2.2) ∧ Hp w0 [Ent.own 46 S1356 v104 s_j3, Ent.blk b10 31 #[(.int .i64 a0.Boats), (.int .i64 a0.Scheme), v104], Ent.blk b8 31 #[(.int .i64 0), (.int .i64 0), (.slice none 0 0)], Ent.blk b6 31 #[(.int .i64 a0.Boats), (.int .i64 a0.Scheme), v1], Ent.snap w0 w0.heap.size] w) (fun s_j3 => M.impl_penalizedSeries_j3 s_l2 s_j3 = some t616) ?_ ?_
        · refine CW.blockJ (fun (s_j4 : (List Race)) (F : Fr) (w : World) => ∃ (S1420 : Nat → Prop), F 1 = v3 ∧ F 4 = (.pointer (some ⟨b8, 0, none⟩)) ∧ F 5 = (.pointer (some ⟨b10, 0, none⟩)) ∧ F 36 = v3 ∧ F 37 = (.int .i64 (a1.length : Int)) ∧ F 38 = (.int .i64 s_l2.2) ∧ Hp w0 [Ent.own 46 S1420 v104 s_j4, Ent.blk b10 31 #[(.int .i64 a0.Boats), (.int .i64 a0.Scheme), v104], Ent.blk b8 31 #[(.int .i64 0), (.int .i64 0), (.slice none 0 0)], Ent.blk b6 31 #[(.int .i64 a0.Boats), (.int .i64 a0.Scheme), v1], Ent.snap w0 w0.heap.size] w) (fun s_j4 => M.impl_penalizedSeries_j4 s_l2 s_j4 = some t616) ?_ ?_
          · refine CW.seq ?_
            refine CW.regionL ?_
            obtain ⟨x1429, ha1430, hm⟩ := bndE hm
            obtain ⟨hz1431, ha1435⟩ := idxE ha1430
            obtain ⟨b1432, q1433, hix1434⟩ := rdL_ix (hL.rdS 4 rfl h4) hz1431 ha1435
            refine OW.cons (OP.val (v := (.pointer (some ⟨b1432, q1433, none⟩))) rfl (x_ix Try.underlying33 Try_T48 f1233 f1235 hix1434) ?_)
            refine OW.cons (OP.val (v := (.agg #[(.int .i64 x1429.Race), (.int .i64 x1429.Boat), (.int .i64 x1429.Kind), (.int .i64 x1429.Value)])) rfl (x_loadN (cs := [(.int .i64 x1429.Race), (.int .i64 x1429.Boat), (.int .i64 x1429.Kind), (.int .i64 x1429.Value)]) Try.underlying48 Try_T48 rfl rfl (rdF_cells (hL.rdS 4 rfl h4) hix1434 ha1435)) ?_)
            refine OW.cons (S_alloc (cs := #[(.int .i64 0), (.int .i64 0), (.int .i64 0), (.int .i64 0)]) hL Try_T48 rfl rfl ?_)
            intro wd1436 b1437 hL
            refine OW.cons (S_storeN (l := [(.int .i64 x1429.Race), (.int .i64 x1429.Boat), (.int .i64 x1429.Kind), (.int .i64 x1429.Value)]) (cs' := #[(.int .i64 x1429.Race), (.int .i64 x1429.Boat), (.int .i64 x1429.Kind), (.int .i64 x1429.Value)]) hL 0 rfl Try_T48 rfl rfl (List.forall_mem_cons.2 ⟨rfl, (List.forall_mem_cons.2 ⟨rfl, (List.forall_mem_cons.2 ⟨rfl, (List.forall_mem_cons.2 ⟨rfl, (fun _ h => by cases h)⟩)⟩)⟩)⟩) rfl (Nat.le_of_ble_eq_true rfl) rfl ?_)
            intro wd1438 hL
            refine OW.nil ?_
            refine CW.seq ?_
            obtain ⟨wz1439, hL, ho1440⟩ := hL.freeze 1 rfl
            simp only [lC, lD] at hL
            refine CW.draw Try_mixed ?_
            have hL := hL.call (Mod.drew _)
            refine DW.pre (fuel := 0) (fin := ((((((((((((Array.replicate 11 false).setIfInBounds 0 true).setIfInBounds 1 true).setIfInBounds 2 true).setIfInBounds 3 true).setIfInBounds 4 true).setIfInBounds 5 true).setIfInBounds 6 true).setIfInBounds 7 true).setIfInBounds 8 true).setIfInBounds 9 true).setIfInBounds 10 true)) (C := fun w' => Mod None_ _ w') [0, 1, 2, 3, 4, 5, 6, 7, 8, 9, 10] (Mod.refl _ _) (by kernel_rfl) (by kernel_rfl) ?_
            refine QW.cons rfl (QP.val (v := (.pointer (some ⟨b10, 2, none⟩))) rfl (fun w' hm' => x_fieldAddr (fsz := 1) 0 2 2 Try.underlying31 rfl Try_T29 rfl f1232 rfl) ?_)
            refine QW.cons rfl (QP.val (v := v104) rfl (fun w' hm' => x_load1 Try.underlying29 rfl rfl ((hL.call hm').cellB 2 rfl rfl)) ?_)
            refine QW.cons rfl (QP.val (v := (.pointer (some ⟨b1437, 0, none⟩))) rfl (fun w' hm' => x_fieldAddr (fsz := 1) 0 0 0 Try.underlying48 rfl Try_T2 rfl rfl rfl) ?_)
            refine QW.cons rfl (QP.val (v := (.int .i64 x1429.Race)) rfl (fun w' hm' => x_load1 Try.underlying2 rfl rfl ((hL.call hm').cellB 0 rfl rfl)) ?_)
            obtain ⟨x1441, ha1442, hm⟩ := bndE hm
            obtain ⟨hz1443, ha1451⟩ := idxE ha1442
            obtain ⟨b1444, q1445, v1446, hix1447, hs1448, hc1449, hr1450⟩ := rdN_at ho1440.1.rdL hz1443 ha1451
            refine QW.cons rfl (QP.val (v := (.pointer (some ⟨b1444, q1445, none⟩))) rfl (fun w' hm' => x_ix Try.underlying29 Try_T46 rfl rfl hix1447) ?_)
            refine QW.cons rfl (QP.val (v := (.pointer (some ⟨b1444, q1445, none⟩))) rfl (fun w' hm' => x_fieldAddr (fsz := 1) q1445 0 q1445 Try.underlying46 rfl Try_T44 rfl rfl rfl) ?_)
            refine QW.cons rfl (QP.val (v := v1446) rfl (fun w' hm' => x_load1 Try.underlying44 rfl rfl ((hL.call hm').cellF 1 rfl hs1448 hc1449)) ?_)
            refine QW.cons rfl (QP.val (v := (.pointer (some ⟨b1437, 1, none⟩))) rfl (fun w' hm' => x_fieldAddr (fsz := 1) 0 1 1 Try.underlying48 rfl Try_T2 rfl rfl rfl) ?_)
            refine QW.cons rfl (QP.val (v := (.int .i64 x1429.Boat)) rfl (fun w' hm' => x_load1 Try.underlying2 rfl rfl ((hL.call hm').cellB 0 rfl rfl)) ?_)
            obtain ⟨x1452, ha1453, hm⟩ := bndE hm
            obtain ⟨hz1454, ha1458⟩ := idxE ha1453
            obtain ⟨b1455, q1456, hix1457⟩ := rdL_ix (hL.rdF 1 rfl hr1450) hz1454 ha1458
            refine QW.cons rfl (QP.val (v := (.pointer (some ⟨b1455, q1456, none⟩))) rfl (fun w' hm' => x_ix Try.underlying44 Try_T50 rfl rfl hix1457) ?_)
            refine QW.cons rfl (QP.val (v := (.pointer (some ⟨b1455, q1456, none⟩))) rfl (fun w' hm' => x_assign) ?_)
            refine QW.nil ?_
            intro wd1459 hmod
            have hL := hL.call hmod
            refine DW.done (by kernel_rfl) ?_
            refine CW.seqJ (fun (s_j5 : Bool) (F : Fr) (w : World) => F 1 = v3 ∧ F 4 = (.pointer (some ⟨b8, 0, none⟩)) ∧ F 5 = (.pointer (some ⟨b10, 0, none⟩)) ∧ F 9 = (.pointer (some ⟨b1437, 0, none⟩)) ∧ F 10 = (.pointer (some ⟨b1455, q1456, none⟩)) ∧ F 36 = v3 ∧ F 37 = (.int .i64 (a1.length : Int)) ∧ F 38 = (.int .i64 s_l2.2) ∧ F 61 = (.bool s_j5) ∧ Hp w0 [Ent.blk b1437 48 #[(.int .i64 x1429.Race), (.int .i64 x1429.Boat), (.int .i64 x1429.Kind), (.int .i64 x1429.Value)], Ent.frzS wz1439 S615, Ent.blk b10 31 #[(.int .i64 a0.Boats), (.int .i64 a0.Scheme), v104], Ent.blk b8 31 #[(.int .i64 0), (.int .i64 0), (.slice none 0 0)], Ent.blk b6 31 #[(.int .i64 a0.Boats), (.int .i64 a0.Scheme), v1], Ent.snap w0 w0.heap.size] w) (fun s_j5 => M.impl_penalizedSeries_j5 s_l2 x1429 x1441 x1452 s_j5 = some t616) ?_ ?_
            · refine CW.regionL ?_
              refine OW.cons (OP.val (v := (.pointer (some ⟨b1437, 2, none⟩))) rfl (x_fieldAddr (fsz := 1) 0 2 2 Try.underlying48 rfl Try_T2 rfl rfl rfl) ?_)
              refine OW.cons (OP.val (v := (.int .i64 x1429.Kind)) rfl (x_load1 Try.underlying2 rfl rfl (hL.cellB 0 rfl rfl)) ?_)
              refine OW.cons (OP.val (v := (.bool (x1429.Kind == 2))) rfl (x_eql rfl rfl) ?_)
              refine OW.cons (OP.val (v := (.bool (x1429.Kind == 2))) rfl (x_move) ?_)
              refine ifB_elim hm (fun hb1483 hm => ?_) (fun hb1483 hm => ?_)
              · refine OW.cons (OP.yes' rfl rfl hb1483 (OP.val (v := (.pointer (some ⟨b1455, q1456, none⟩))) rfl (x_move) ?_))
                refine OW.cons (OP.yes' rfl rfl hb1483 (OP.val (v := (.pointer (some ⟨b1455, q1456, none⟩))) rfl (x_nilCheck rfl) ?_))
                refine OW.cons (OP.yes' rfl rfl hb1483 (OP.val (v := (.pointer (some ⟨b1455, q1456 + 1, none⟩))) rfl (x_fieldAddr (fsz := 1) q1456 1 (q1456 + 1) Try.underlying50 rfl Try_T2 rfl rfl rfl) ?_))
                refine OW.cons (OP.yes' rfl rfl hb1483 (OP.val (v := (.int .i64 x1452.Code)) rfl (x_load1 Try.underlying2 rfl rfl (rdF_cells (hL.rdF 1 rfl hr1450) hix1457 ha1458 1 _ rfl)) ?_))
                refine OW.cons (OP.yes' rfl rfl hb1483 (OP.val (v := (.bool (x1452.Code == 0))) rfl (x_eql rfl rfl) ?_))
                refine OW.cons (OP.val (v := (.bool (x1452.Code == 0))) rfl (x_pickT' rfl hb1483 rfl) ?_)
                refine OW.nil ?_
                exact ⟨x1452.Code == 0, hm, ⟨f1230, f1231, f1232, rfl, rfl, f1233, f1234, f1235, rfl, hL⟩⟩
              · refine OW.cons (OP.no' rfl rfl hb1483 rfl ?_)
                refine OW.cons (OP.no' rfl rfl hb1483 rfl ?_)
                refine OW.cons (OP.no' rfl rfl hb1483 rfl ?_)
                refine OW.cons (OP.no' rfl rfl hb1483 rfl ?_)
                refine OW.cons (OP.no' rfl rfl hb1483 rfl ?_)
                refine OW.cons (OP.val (v := (.bool false)) rfl (x_pickF' rfl hb1483 rfl) ?_)
                refine OW.nil ?_
                exact ⟨false, hm, ⟨f1230, f1231, f1232, rfl, rfl, f1233, f1234, f1235, rfl, hL⟩⟩
            · intro s_j5 F1461 wd1462 hJ hm
              unfold M.impl_penalizedSeries_j5 at hm
              obtain ⟨f1463, f1464, f1465, f1466, f1467, f1468, f1469, f1470, f1471, hL⟩ := hJ
              refine CW.condM (t := s_j5) f1471 hm (fun hb1472 hm => ?_) (fun hb1472 hm => ?_)
              · refine CW.drawH (fun w' => Hp w0 [Ent.blk b1437 48 #[(.int .i64 x1429.Race), (.int .i64 x1429.Boat), (.int .i64 x1429.Kind), (.int .i64 x1429.Value)], Ent.blk b10 31 #[(.int .i64 a0.Boats), (.int .i64 a0.Scheme), v104], Ent.blk b8 31 #[(.int .i64 0), (.int .i64 0), (.slice none 0 0)], Ent.blk b6 31 #[(.int .i64 a0.Boats), (.int .i64 a0.Scheme), v1], Ent.snap w0 w0.heap.size] w') Try_mixed ?_
                have hL := hL.call (Mod.drew _)
                have hS := (hL.sel [0, 2, 3, 4, 5] (by decide) rfl)
                refine DH.take 0 rfl (by kernel_rfl) (by kernel_rfl) (by kernel_rfl) rfl rfl hS (YH.val (v := (.pointer (some ⟨b1455, q1456, none⟩))) (fun w' hS' => x_mv f1467)) ?_
                have hS := (hL.sel [0, 2, 3, 4, 5] (by decide) rfl)
                refine DH.take 1 rfl (by kernel_rfl) (by kernel_rfl) (by kernel_rfl) rfl rfl hS (YH.val (v := (.pointer (some ⟨b1455, q1456, none⟩))) (fun w' hS' => x_mv f1467)) ?_
                have hS := (hL.sel [0, 2, 3, 4, 5] (by decide) rfl)
                refine DH.take 2 rfl (by kernel_rfl) (by kernel_rfl) (by kernel_rfl) rfl rfl hS (YH.val (v := (.pointer (some ⟨b1455, q1456, none⟩))) (fun w' hS' => x_nilCheck rfl)) ?_
                have hS := (hL.sel [0, 2, 3, 4, 5] (by decide) rfl)
                refine DH.take 3 rfl (by kernel_rfl) (by kernel_rfl) (by kernel_rfl) rfl rfl hS (YH.val (v := (.pointer (some ⟨b1455, q1456 + 2, none⟩))) (fun w' hS' => x_fieldAddr (fsz := 1) q1456 2 (q1456 + 2) Try.underlying50 rfl Try_T2 rfl rfl rfl)) ?_
                have hS := (hL.sel [0, 2, 3, 4, 5] (by decide) rfl)
                refine DH.take 5 rfl (by kernel_rfl) (by kernel_rfl) (by kernel_rfl) rfl rfl hS (YH.val (v := (.pointer (some ⟨b1437, 3, none⟩))) (fun w' hS' => x_fieldAddr (fsz := 1) 0 3 3 Try.underlying48 rfl Try_T2 rfl f1466 rfl)) ?_
                have hS := (hL.sel [0, 2, 3, 4, 5] (by decide) rfl)
                refine DH.take 6 rfl (by kernel_rfl) (by kernel_rfl) (by kernel_rfl) rfl rfl hS (YH.val (v := (.int .i64 x1429.Value)) (fun w' hS' => x_load1 Try.underlying2 rfl rfl (hS'.cellB 0 rfl rfl))) ?_
                refine DH.only 4 rfl (by kernel_rfl) (OP.val (v := (.int .i64 x1452.Time)) rfl (x_load1 Try.underlying2 rfl rfl (rdF_cells (hL.rdF 1 rfl hr1450) hix1457 ha1458 2 _ rfl)) ?_)
                refine ⟨(hL.sel [0, 2, 3, 4, 5] (by decide) rfl), ?_⟩
                have hS := (hL.sel [0, 2, 3, 4, 5] (by decide) rfl)
                refine DH.take 7 rfl (by kernel_rfl) (by kernel_rfl) (by kernel_rfl) rfl rfl hS (YH.val (v := (.int .i64 (w64 (x1452.Time + x1429.Value)))) (fun w' hS' => x_add rfl rfl)) ?_
                have hS := (hL.sel [0, 2, 3, 4, 5] (by decide) rfl)
                refine DH.take 8 rfl (by kernel_rfl) (by kernel_rfl) (by kernel_rfl) rfl rfl hS (YH.val (v := (.int .i64 (min 1000000000 (w64 (x1452.Time + x1429.Value))))) (fun w' hS' => x_min2 rfl rfl)) ?_
                have hS := (hL.sel [0, 2, 3, 4, 5] (by decide) rfl)
                refine DH.take 9 rfl (by kernel_rfl) (by kernel_rfl) (by kernel_rfl) rfl rfl hS (YH.val (v := (.pointer (some ⟨b1455, q1456, none⟩))) (fun w' hS' => x_nilCheck rfl)) ?_
                have hS := (hL.sel [0, 2, 3, 4, 5] (by decide) rfl)
                refine DH.take 10 rfl (by kernel_rfl) (by kernel_rfl) (by kernel_rfl) rfl rfl hS (YH.val (v := (.pointer (some ⟨b1455, q1456 + 2, none⟩))) (fun w' hS' => x_fieldAddr (fsz := 1) q1456 2 (q1456 + 2) Try.underlying50 rfl Try_T2 rfl rfl rfl)) ?_
                have hc1479 := hL.cellF 1 rfl hs1448 hc1449
                have hL := hL.thaw 1 rfl ho1440
                simp only [lC, lD] at hL
                refine DH.only 11 rfl (by kernel_rfl) (S_inRow (α := Finish) (x1441.Finishes.set (x1429.Boat : Int).toNat (Finish.mk x1452.Boat x1452.Code (min 1000000000 (w64 (x1452.Time + x1429.Value))))) (Race.mk (x1441.Finishes.set (x1429.Boat : Int).toNat (Finish.mk x1452.Boat x1452.Code (min 1000000000 (w64 (x1452.Time + x1429.Value)))))) rfl hL 1 rfl hix1447 ha1451 hc1479 (fun E2 S1 hL hK => S_storeX (j := 2) (Finish.mk x1452.Boat x1452.Code (min 1000000000 (w64 (x1452.Time + x1429.Value)))) hL 0 rfl Try_T2 hix1457 ha1458 rfl rfl rfl rfl rfl rfl hK) ?_)
                intro wd1478 S1480 hL
                simp only [lC, lD] at hL
                refine ⟨(hL.sel [0, 2, 3, 4, 5] (by decide) rfl), ?_⟩
                refine DH.done (by kernel_rfl) ?_
                have hL := hL.sel [1, 2, 3, 4, 5] (by decide) rfl
                exact ⟨s_l2.1.set (x1429.Race : Int).toNat (Race.mk (x1441.Finishes.set (x1429.Boat : Int).toNat (Finish.mk x1452.Boat x1452.Code (min 1000000000 (w64 (x1452.Time + x1429.Value)))))), hm, ⟨S1480, f1463, f1464, f1465, f1468, f1469, f1470, hL⟩⟩
              · refine CW.skip ?_
                have hL := hL.thaw 1 rfl ho1440
                have hL := hL.sel [1, 2, 3, 4, 5] (by decide) rfl
                exact ⟨s_l2.1, hm, ⟨S615, f1463, f1464, f1465, f1468, f1469, f1470, hL⟩⟩
          · intro s_j4 F1421 wd1422 hJ hm
            unfold M.impl_penalizedSeries_j4 at hm
            obtain ⟨S1420, f1423, f1424, f1425, f1426, f1427, f1428, hL⟩ := hJ
            exact ⟨s_j4, hm, ⟨S1420, f1423, f1424, f1425, f1426, f1427, f1428, hL⟩⟩
        · intro s_j3 F1357 wd1358 hJ hm
          unfold M.impl_penalizedSeries_j3 at hm
          obtain ⟨S1356, f1359, f1360, f1361, f1362, f1363, f1364, hL⟩ := hJ
          refine CW.regionL ?_
          refine OW.cons (OP.val (v := (.int .i64 (w64 (s_l2.2 + 1)))) rfl (x_add f1364 rfl) ?_)
          refine OW.cons (OP.val (v := (.int .i64 (w64 (s_l2.2 + 1)))) rfl (x_move) ?_)
          refine OW.nil ?_
          obtain rfl := Option.some.inj hm
          exact ⟨_, rfl, ⟨S1356, f1359, f1360, f1361, f1362, f1363, rfl, hL⟩⟩
      · refine CW.exit ?_
        refine XJ.hit ?_
        obtain rfl := Option.some.inj hm
        exact ⟨_, rfl, ⟨S615, f1230, f1231, f1232, f1233, f1234, f1235, hL⟩⟩
  · intro s_l1 F1484 wd1485 t106 hJ hm hr107
    unfold M.impl_penalizedSeries_l1 at hm
    obtain ⟨v104, S105, f1486, f1487, f1488, f1489, f1490, f1491, hL⟩ := hJ
    refine CW.seq ?_
    refine CW.regionL ?_
    refine OW.cons (OP.val (v := (.bool (decide (s_l1.2 < (a0.Races.length : Int))))) rfl (x_lss f1491 f1490) ?_)
    refine OW.nil ?_
    refine CW.seq ?_
    refine CW.condM (t := decide (s_l1.2 < (a0.Races.length : Int))) rfl hm (fun hb1492 hm => ?_) (fun hb1492 hm => ?_)
    · refine CW.skip ?_
      refine CW.seq ?_
      refine CW.block ?_
      refine CW.seq ?_
      refine CW.regionL ?_
      obtain ⟨x1493, ha1494, hm⟩ := bndE hm
      obtain ⟨hz1495, ha1503⟩ := idxE ha1494
      obtain ⟨b1496, q1497, v1498, hix1499, hs1500, hc1501, hr1502⟩ := rdN_at h2 hz1495 ha1503
      refine OW.cons (OP.val (v := (.pointer (some ⟨b1496, q1497, none⟩))) rfl (x_ix Try.underlying29 Try_T46 f1489 f1491 hix1499) ?_)
      refine OW.cons (OP.val (v := (.agg #[v1498])) rfl (x_loadN (cs := [v1498]) Try.underlying46 Try_T46 rfl rfl (by intro j u hj; match j, hj with | 0, hj => (simp at hj; subst hj; exact (hL.cellS 4 rfl hs1500 hc1501)))) ?_)
      refine OW.cons (S_alloc (cs := #[(.slice none 0 0)]) hL Try_T46 rfl rfl ?_)
      intro wd1504 b1505 hL
      refine OW.cons (S_storeN (l := [v1498]) (cs' := #[v1498]) hL 0 rfl Try_T46 rfl rfl (List.forall_mem_cons.2 ⟨rdL_one (hL.rdS 5 rfl hr1502), (fun _ h => by cases h)⟩) rfl (Nat.le_of_ble_eq_true rfl) rfl ?_)
      intro wd1506 hL
      refine OW.nil ?_
      refine CW.drawH (fun w' => Hp w0 [Ent.blk b1505 46 #[v1498], Ent.blk b8 31 #[(.int .i64 0), (.int .i64 0), (.slice none 0 0)], Ent.blk b6 31 #[(.int .i64 a0.Boats), (.int .i64 a0.Scheme), v1], Ent.snap w0 w0.heap.size] w') Try_mixed ?_
      have hL := hL.call (Mod.drew _)
      have hS := (hL.sel [0, 3, 4, 5] (by decide) rfl)
      refine DH.take 0 rfl (by kernel_rfl) (by kernel_rfl) (by kernel_rfl) rfl rfl hS (YH.val (v := (.pointer (some ⟨b10, 2, none⟩))) (fun w' hS' => x_fieldAddr (fsz := 1) 0 2 2 Try.underlying31 rfl Try_T29 rfl f1488 rfl)) ?_
      have hS := (hL.sel [0, 3, 4, 5] (by decide) rfl)
      refine DH.take 3 rfl (by kernel_rfl) (by kernel_rfl) (by kernel_rfl) rfl rfl hS (YH.val (v := (.pointer (some ⟨b1505, 0, none⟩))) (fun w' hS' => x_fieldAddr (fsz := 1) 0 0 0 Try.underlying46 rfl Try_T44 rfl rfl rfl)) ?_
      have hS := (hL.sel [0, 3, 4, 5] (by decide) rfl)
      refine DH.take 4 rfl (by kernel_rfl) (by kernel_rfl) (by kernel_rfl) rfl rfl hS (YH.val (v := v1498) (fun w' hS' => x_load1 Try.underlying44 rfl rfl (hS'.cellB 0 rfl rfl))) ?_
      obtain ⟨hc1528, hm⟩ := chkE hm
      obtain ⟨hc1535, hm⟩ := chkE hm
      refine DH.node (listed' := #[true, true, true, true, true, true, true, true, true, true, true]) (fuel' := 0) (fun (F : Fr) (w : World) => ∃ (v1568 : Value) (S1569 : Nat → Prop), F 1 = v3 ∧ F 4 = (.pointer (some ⟨b8, 0, none⟩)) ∧ F 5 = (.pointer (some ⟨b10, 0, none⟩)) ∧ F 19 = v1 ∧ F 20 = (.int .i64 (a0.Races.length : Int)) ∧ F 21 = (.int .i64 s_l1.2) ∧ Hp w0 [Ent.own 46 S1569 v1568 (s_l1.1 ++ ([(Race.mk (([] : List Finish) ++ x1493.Finishes))] : List Race)), Ent.blk b1505 46 #[v1498], Ent.blk b10 31 #[(.int .i64 a0.Boats), (.int .i64 a0.Scheme), v1568], Ent.blk b8 31 #[(.int .i64 0), (.int .i64 0), (.slice none 0 0)], Ent.blk b6 31 #[(.int .i64 a0.Boats), (.int .i64 a0.Scheme), v1], Ent.snap w0 w0.heap.size] w) ?_ (fun hN1559 => ?_)
      · intro F1584 wd1585 hJ
        obtain ⟨v1568, S1569, f1586, f1587, f1588, f1589, f1590, f1591, hL⟩ := hJ
        refine DH.done (by kernel_rfl) ?_
        refine CW.regionL ?_
        refine OW.cons (OP.val (v := (.int .i64 (w64 (s_l1.2 + 1)))) rfl (x_add f1591 rfl) ?_)
        refine OW.cons (OP.val (v := (.int .i64 (w64 (s_l1.2 + 1)))) rfl (x_move) ?_)
        refine OW.nil ?_
        have hL := hL.sel [0, 2, 3, 4, 5] (by decide) rfl
        obtain rfl := Option.some.inj hm
        exact ⟨_, rfl, ⟨v1568, S1569, f1586, f1587, f1588, f1589, f1590, rfl, hL⟩⟩
      refine DH.node (listed' := #[true, true, true, true, true, true, true, true, true, true, false]) (fuel' := 1) (fun (F : Fr) (w : World) => ∃ (v1570 : Value) (S1571 : Nat → Prop), F 1 = v3 ∧ F 4 = (.pointer (some ⟨b8, 0, none⟩)) ∧ F 5 = (.pointer (some ⟨b10, 0, none⟩)) ∧ F 19 = v1 ∧ F 20 = (.int .i64 (a0.Races.length : Int)) ∧ F 21 = (.int .i64 s_l1.2) ∧ F 33 = v1570 ∧ F 34 = (.pointer (some ⟨b10, 2, none⟩)) ∧ Hp w0 [Ent.own 46 S1571 v1570 (s_l1.1 ++ ([(Race.mk (([] : List Finish) ++ x1493.Finishes))] : List Race)), Ent.blk b1505 46 #[v1498], Ent.blk b10 31 #[(.int .i64 a0.Boats), (.int .i64 a0.Scheme), v104], Ent.blk b8 31 #[(.int .i64 0), (.int .i64 0), (.slice none 0 0)], Ent.blk b6 31 #[(.int .i64 a0.Boats), (.int .i64 a0.Scheme), v1], Ent.snap w0 w0.heap.size] w) ?_ (fun hN1560 => ?_)
      · intro F1592 wd1593 hJ
        obtain ⟨v1570, S1571, f1594, f1595, f1596, f1597, f1598, f1599, f1600, f1601, hL⟩ := hJ
        refine DH.only 10 rfl (by kernel_rfl) (S_store (cs' := #[(.int .i64 a0.Boats), (.int .i64 a0.Scheme), v1570]) hL 2 rfl Try_T29 f1601 (rdL_one (hL.rdO 0 rfl)) f1600 rfl rfl ?_)
        intro wd1602 hL
        refine ⟨(hL.sel [1, 3, 4, 5] (by decide) rfl), ?_⟩
        exact DH.relist (listed' := #[true, true, true, true, true, true, true, true, true, true, true]) (by kernel_rfl) (hN1559 _ _ ⟨v1570, S1571, f1594, f1595, f1596, f1597, f1598, f1599, hL⟩)
      refine DH.node (listed' := #[true, true, true, true, true, true, true, true, false, false, false]) (fuel' := 3) (fun (F : Fr) (w : World) => ∃ (v1572 : Value) (S1573 : Nat → Prop), F 1 = v3 ∧ F 4 = (.pointer (some ⟨b8, 0, none⟩)) ∧ F 5 = (.pointer (some ⟨b10, 0, none⟩)) ∧ F 19 = v1 ∧ F 20 = (.int .i64 (a0.Races.length : Int)) ∧ F 21 = (.int .i64 s_l1.2) ∧ F 26 = v104 ∧ F 32 = v1572 ∧ Hp w0 [Ent.own 46 S1573 v1572 ([(Race.mk (([] : List Finish) ++ x1493.Finishes))] : List Race), Ent.blk b1505 46 #[v1498], Ent.own 46 S105 v104 s_l1.1, Ent.blk b10 31 #[(.int .i64 a0.Boats), (.int .i64 a0.Scheme), v104], Ent.blk b8 31 #[(.int .i64 0), (.int .i64 0), (.slice none 0 0)], Ent.blk b6 31 #[(.int .i64 a0.Boats), (.int .i64 a0.Scheme), v1], Ent.snap w0 w0.heap.size] w) ?_ (fun hN1561 => ?_)
      · intro F1603 wd1604 hJ
        obtain ⟨v1572, S1573, f1605, f1606, f1607, f1608, f1609, f1610, f1611, f1612, hL⟩ := hJ
        have hL := hL.sel [2, 0, 1, 3, 4, 5, 6] (by decide) rfl
        refine DH.only 8 rfl (by kernel_rfl) (S_appendN Finish hL Try.underlying29 Try_T46 rfl f1611 f1612 hc1535 (by decide) rfl ?_)
        intro wd1613 v1614 S1615 hL
        refine ⟨(hL.sel [1, 3, 4, 5] (by decide) rfl), ?_⟩
        have hS := (hL.sel [1, 3, 4, 5] (by decide) rfl)
        refine DH.take 9 rfl (by kernel_rfl) (by kernel_rfl) (by kernel_rfl) rfl rfl hS (YH.val (v := (.pointer (some ⟨b10, 2, none⟩))) (fun w' hS' => x_fieldAddr (fsz := 1) 0 2 2 Try.underlying31 rfl Try_T29 rfl f1607 rfl)) ?_
        exact DH.relist (listed' := #[true, true, true, true, true, true, true, true, true, true, false]) (by kernel_rfl) (hN1560 _ _ ⟨v1614, S1615, f1605, f1606, f1607, f1608, f1609, f1610, rfl, rfl, hL⟩)
      refine DH.node (listed' := #[true, true, true, true, true, true, true, false, false, false, false]) (fuel' := 4) (fun (F : Fr) (w : World) => ∃ (v1574 : Value) (S1575 : Nat → Prop), F 1 = v3 ∧ F 4 = (.pointer (some ⟨b8, 0, none⟩)) ∧ F 5 = (.pointer (some ⟨b10, 0, none⟩)) ∧ F 19 = v1 ∧ F 20 = (.int .i64 (a0.Races.length : Int)) ∧ F 21 = (.int .i64 s_l1.2) ∧ F 26 = v104 ∧ F 31 = (.agg #[v1574]) ∧ Hp w0 [Ent.own 50 S1575 v1574 (([] : List Finish) ++ x1493.Finishes), Ent.blk b1505 46 #[v1498], Ent.own 46 S105 v104 s_l1.1, Ent.blk b10 31 #[(.int .i64 a0.Boats), (.int .i64 a0.Scheme), v104], Ent.blk b8 31 #[(.int .i64 0), (.int .i64 0), (.slice none 0 0)], Ent.blk b6 31 #[(.int .i64 a0.Boats), (.int .i64 a0.Scheme), v1], Ent.snap w0 w0.heap.size] w) ?_ (fun hN1562 => ?_)
      · intro F1616 wd1617 hJ
        obtain ⟨v1574, S1575, f1618, f1619, f1620, f1621, f1622, f1623, f1624, f1625, hL⟩ := hJ
        refine DH.only 7 rfl (by kernel_rfl) (S_lit1 (Race.mk (([] : List Finish) ++ x1493.Finishes)) rfl hL Try.underlying29 Try_T46 ((congrArg Value.cells f1625).trans rfl) rfl ?_)
        intro wd1626 v1627 S1628 hL
        refine ⟨(hL.sel [1, 4, 5, 6] (by decide) rfl), ?_⟩
        exact DH.relist (listed' := #[true, true, true, true, true, true, true, true, false, false, false]) (by kernel_rfl) (hN1561 _ _ ⟨v1627, S1628, f1618, f1619, f1620, f1621, f1622, f1623, f1624, rfl, hL⟩)
      refine DH.node (listed' := #[true, false, true, true, true, true, true, true, false, false, false]) (fuel' := 4) (fun (F : Fr) (w : World) => ∃ (v1576 : Value) (S1577 : Nat → Prop), F 1 = v3 ∧ F 4 = (.pointer (some ⟨b8, 0, none⟩)) ∧ F 5 = (.pointer (some ⟨b10, 0, none⟩)) ∧ F 19 = v1 ∧ F 20 = (.int .i64 (a0.Races.length : Int)) ∧ F 21 = (.int .i64 s_l1.2) ∧ F 25 = (.pointer (some ⟨b10, 2, none⟩)) ∧ F 32 = v1576 ∧ Hp w0 [Ent.own 46 S1577 v1576 ([(Race.mk (([] : List Finish) ++ x1493.Finishes))] : List Race), Ent.blk b1505 46 #[v1498], Ent.own 46 S105 v104 s_l1.1, Ent.blk b10 31 #[(.int .i64 a0.Boats), (.int .i64 a0.Scheme), v104], Ent.blk b8 31 #[(.int .i64 0), (.int .i64 0), (.slice none 0 0)], Ent.blk b6 31 #[(.int .i64 a0.Boats), (.int .i64 a0.Scheme), v1], Ent.snap w0 w0.heap.size] w) ?_ (fun hN1563 => ?_)
      · intro F1629 wd1630 hJ
        obtain ⟨v1576, S1577, f1631, f1632, f1633, f1634, f1635, f1636, f1637, f1638, hL⟩ := hJ
        refine DH.only 1 rfl (by kernel_rfl) (OP.val (v := v104) rfl (x_load1 Try.underlying29 rfl f1637 (hL.cellB 3 rfl rfl)) ?_)
        refine ⟨(hL.sel [1, 4, 5, 6] (by decide) rfl), ?_⟩
        exact DH.relist (listed' := #[true, true, true, true, true, true, true, true, false, false, false]) (by kernel_rfl) (hN1561 _ _ ⟨v1576, S1577, f1631, f1632, f1633, f1634, f1635, f1636, rfl, f1638, hL⟩)
      refine DH.node (listed' := #[true, false, true, true, true, true, true, false, false, false, false]) (fuel' := 5) (fun (F : Fr) (w : World) => ∃ (v1578 : Value) (S1579 : Nat → Prop), F 1 = v3 ∧ F 4 = (.pointer (some ⟨b8, 0, none⟩)) ∧ F 5 = (.pointer (some ⟨b10, 0, none⟩)) ∧ F 19 = v1 ∧ F 20 = (.int .i64 (a0.Races.length : Int)) ∧ F 21 = (.int .i64 s_l1.2) ∧ F 25 = (.pointer (some ⟨b10, 2, none⟩)) ∧ F 31 = (.agg #[v1578]) ∧ Hp w0 [Ent.own 50 S1579 v1578 (([] : List Finish) ++ x1493.Finishes), Ent.blk b1505 46 #[v1498], Ent.own 46 S105 v104 s_l1.1, Ent.blk b10 31 #[(.int .i64 a0.Boats), (.int .i64 a0.Scheme), v104], Ent.blk b8 31 #[(.int .i64 0), (.int .i64 0), (.slice none 0 0)], Ent.blk b6 31 #[(.int .i64 a0.Boats), (.int .i64 a0.Scheme), v1], Ent.snap w0 w0.heap.size] w) ?_ (fun hN1564 => ?_)
      · intro F1639 wd1640 hJ
        obtain ⟨v1578, S1579, f1641, f1642, f1643, f1644, f1645, f1646, f1647, f1648, hL⟩ := hJ
        refine DH.all (rs := [1, 7]) (by kernel_rfl) (by simp) ?_
        intro i1649 hi1650
        simp only [List.mem_cons, List.not_mem_nil, or_false] at hi1650
        rcases hi1650 with rfl | rfl
        · refine ⟨_, rfl, ?_⟩
          refine OP.val (v := v104) rfl (x_load1 Try.underlying29 rfl f1647 (hL.cellB 3 rfl rfl)) ?_
          refine ⟨(hL.sel [1, 4, 5, 6] (by decide) rfl), ?_⟩
          exact DH.relist (listed' := #[true, true, true, true, true, true, true, false, false, false, false]) (by kernel_rfl) (hN1562 _ _ ⟨v1578, S1579, f1641, f1642, f1643, f1644, f1645, f1646, rfl, f1648, hL⟩)
        · refine ⟨_, rfl, ?_⟩
          refine S_lit1 (Race.mk (([] : List Finish) ++ x1493.Finishes)) rfl hL Try.underlying29 Try_T46 ((congrArg Value.cells f1648).trans rfl) rfl ?_
          intro wd1651 v1652 S1653 hL
          refine ⟨(hL.sel [1, 4, 5, 6] (by decide) rfl), ?_⟩
          exact DH.relist (listed' := #[true, false, true, true, true, true, true, true, false, false, false]) (by kernel_rfl) (hN1563 _ _ ⟨v1652, S1653, f1641, f1642, f1643, f1644, f1645, f1646, f1647, rfl, hL⟩)
      refine DH.node (listed' := #[true, true, true, true, true, false, false, false, false, false, false]) (fuel' := 6) (fun (F : Fr) (w : World) => ∃ (v1580 : Value) (S1581 : Nat → Prop), F 1 = v3 ∧ F 4 = (.pointer (some ⟨b8, 0, none⟩)) ∧ F 5 = (.pointer (some ⟨b10, 0, none⟩)) ∧ F 19 = v1 ∧ F 20 = (.int .i64 (a0.Races.length : Int)) ∧ F 21 = (.int .i64 s_l1.2) ∧ F 26 = v104 ∧ F 27 = v1580 ∧ F 29 = v1498 ∧ Hp w0 [Ent.own 50 S1581 v1580 ([] : List Finish), Ent.blk b1505 46 #[v1498], Ent.own 46 S105 v104 s_l1.1, Ent.blk b10 31 #[(.int .i64 a0.Boats), (.int .i64 a0.Scheme), v104], Ent.blk b8 31 #[(.int .i64 0), (.int .i64 0), (.slice none 0 0)], Ent.blk b6 31 #[(.int .i64 a0.Boats), (.int .i64 a0.Scheme), v1], Ent.snap w0 w0.heap.size] w) ?_ (fun hN1565 => ?_)
      · intro F1654 wd1655 hJ
        obtain ⟨v1580, S1581, f1656, f1657, f1658, f1659, f1660, f1661, f1662, f1663, f1664, hL⟩ := hJ
        refine DH.only 5 rfl (by kernel_rfl) (S_append (ys := x1493.Finishes) hL 0 rfl Try.underlying44 Try_T50 rfl f1663 f1664 (hL.rdS 6 rfl hr1502) hc1528 (by decide) rfl ?_)
        intro wd1665 v1666 S1667 hL
        refine ⟨(hL.sel [1, 4, 5, 6] (by decide) rfl), ?_⟩
        have hS := (hL.sel [1, 4, 5, 6] (by decide) rfl)
        refine DH.take 6 rfl (by kernel_rfl) (by kernel_rfl) (by kernel_rfl) rfl rfl hS (YH.val (v := (.agg #[v1666])) (fun w' hS' => x_build Try_B46 (ps := [(0, v1666)]) ⟨⟨rfl, rfl⟩, trivial⟩ (by simp [Instr.fill, cells_int, cells_bool, cells_string, cells_agg, cells_slice, cells_pointer, (rdL_cells (hL.rdO 0 rfl))]))) ?_
        exact DH.relist (listed' := #[true, true, true, true, true, true, true, false, false, false, false]) (by kernel_rfl) (hN1562 _ _ ⟨v1666, S1667, f1656, f1657, f1658, f1659, f1660, f1661, f1662, rfl, hL⟩)
      refine DH.node (listed' := #[true, true, false, true, true, false, false, false, false, false, false]) (fuel' := 7) (fun (F : Fr) (w : World) => F 1 = v3 ∧ F 4 = (.pointer (some ⟨b8, 0, none⟩)) ∧ F 5 = (.pointer (some ⟨b10, 0, none⟩)) ∧ F 19 = v1 ∧ F 20 = (.int .i64 (a0.Races.length : Int)) ∧ F 21 = (.int .i64 s_l1.2) ∧ F 26 = v104 ∧ F 29 = v1498 ∧ Hp w0 [Ent.blk b1505 46 #[v1498], Ent.own 46 S105 v104 s_l1.1, Ent.blk b10 31 #[(.int .i64 a0.Boats), (.int .i64 a0.Scheme), v104], Ent.blk b8 31 #[(.int .i64 0), (.int .i64 0), (.slice none 0 0)], Ent.blk b6 31 #[(.int .i64 a0.Boats), (.int .i64 a0.Scheme), v1], Ent.snap w0 w0.heap.size] w) ?_ (fun hN1566 => ?_)
      · intro F1668 wd1669 hJ
        obtain ⟨f1670, f1671, f1672, f1673, f1674, f1675, f1676, f1677, hL⟩ := hJ
        refine DH.only 2 rfl (by kernel_rfl) (S_lit ([] : List Finish) hL Try.underlying44 Try_T50 rfl (by decide) (by first | (simp [Instr.fill, madeCells, Value.cells, ev, upd, Flat.enc, Flat.sz]; done) | rfl | kernel_rfl) rfl rfl ?_)
        intro wd1678 v1679 S1680 hL
        refine ⟨(hL.sel [1, 4, 5, 6] (by decide) rfl), ?_⟩
        exact DH.relist (listed' := #[true, true, true, true, true, false, false, false, false, false, false]) (by kernel_rfl) (hN1565 _ _ ⟨v1679, S1680, f1670, f1671, f1672, f1673, f1674, f1675, f1676, rfl, f1677, hL⟩)
      refine DH.node (listed' := #[true, false, true, true, true, false, false, false, false, false, false]) (fuel' := 7) (fun (F : Fr) (w : World) => ∃ (v1582 : Value) (S1583 : Nat → Prop), F 1 = v3 ∧ F 4 = (.pointer (some ⟨b8, 0, none⟩)) ∧ F 5 = (.pointer (some ⟨b10, 0, none⟩)) ∧ F 19 = v1 ∧ F 20 = (.int .i64 (a0.Races.length : Int)) ∧ F 21 = (.int .i64 s_l1.2) ∧ F 25 = (.pointer (some ⟨b10, 2, none⟩)) ∧ F 27 = v1582 ∧ F 29 = v1498 ∧ Hp w0 [Ent.own 50 S1583 v1582 ([] : List Finish), Ent.blk b1505 46 #[v1498], Ent.own 46 S105 v104 s_l1.1, Ent.blk b10 31 #[(.int .i64 a0.Boats), (.int .i64 a0.Scheme), v104], Ent.blk b8 31 #[(.int .i64 0), (.int .i64 0), (.slice none 0 0)], Ent.blk b6 31 #[(.int .i64 a0.Boats), (.int .i64 a0.Scheme), v1], Ent.snap w0 w0.heap.size] w) ?_ (fun hN1567 => ?_)
      · intro F1681 wd1682 hJ
        obtain ⟨v1582, S1583, f1683, f1684, f1685, f1686, f1687, f1688, f1689, f1690, f1691, hL⟩ := hJ
        refine DH.all (rs := [1, 5]) (by kernel_rfl) (by simp) ?_
        intro i1692 hi1693
        simp only [List.mem_cons, List.not_mem_nil, or_false] at hi1693
        rcases hi1693 with rfl | rfl
        · refine ⟨_, rfl, ?_⟩
          refine OP.val (v := v104) rfl (x_load1 Try.underlying29 rfl f1689 (hL.cellB 3 rfl rfl)) ?_
          refine ⟨(hL.sel [1, 4, 5, 6] (by decide) rfl), ?_⟩
          exact DH.relist (listed' := #[true, true, true, true, true, false, false, false, false, false, false]) (by kernel_rfl) (hN1565 _ _ ⟨v1582, S1583, f1683, f1684, f1685, f1686, f1687, f1688, rfl, f1690, f1691, hL⟩)
        · refine ⟨_, rfl, ?_⟩
          refine S_append (ys := x1493.Finishes) hL 0 rfl Try.underlying44 Try_T50 rfl f1690 f1691 (hL.rdS 6 rfl hr1502) hc1528 (by decide) rfl ?_
          intro wd1694 v1695 S1696 hL
          refine ⟨(hL.sel [1, 4, 5, 6] (by decide) rfl), ?_⟩
          have hS := (hL.sel [1, 4, 5, 6] (by decide) rfl)
          refine DH.take 6 rfl (by kernel_rfl) (by kernel_rfl) (by kernel_rfl) rfl rfl hS (YH.val (v := (.agg #[v1695])) (fun w' hS' => x_build Try_B46 (ps := [(0, v1695)]) ⟨⟨rfl, rfl⟩, trivial⟩ (by simp [Instr.fill, cells_int, cells_bool, cells_string, cells_agg, cells_slice, cells_pointer, (rdL_cells (hL.rdO 0 rfl))]))) ?_
          exact DH.relist (listed' := #[true, false, true, true, true, true, true, false, false, false, false]) (by kernel_rfl) (hN1564 _ _ ⟨v1695, S1696, f1683, f1684, f1685, f1686, f1687, f1688, f1689, rfl, hL⟩)
      refine DH.all (rs := [1, 2]) (by kernel_rfl) (by simp) ?_
      intro i1697 hi1698
      simp only [List.mem_cons, List.not_mem_nil, or_false] at hi1698
      rcases hi1698 with rfl | rfl
      · refine ⟨_, rfl, ?_⟩
        refine OP.val (v := v104) rfl (x_load1 Try.underlying29 rfl rfl (hL.cellB 2 rfl rfl)) ?_
        refine ⟨(hL.sel [0, 3, 4, 5] (by decide) rfl), ?_⟩
        exact DH.relist (listed' := #[true, true, false, true, true, false, false, false, false, false, false]) (by kernel_rfl) (hN1566 _ _ ⟨f1486, f1487, f1488, f1489, f1490, f1491, rfl, rfl, hL⟩)
      · refine ⟨_, rfl, ?_⟩
        refine S_lit ([] : List Finish) hL Try.underlying44 Try_T50 rfl (by decide) (by first | (simp [Instr.fill, madeCells, Value.cells, ev, upd, Flat.enc, Flat.sz]; done) | rfl | kernel_rfl) rfl rfl ?_
        intro wd1699 v1700 S1701 hL
        refine ⟨(hL.sel [1, 4, 5, 6] (by decide) rfl), ?_⟩
        exact DH.relist (listed' := #[true, false, true, true, true, false, false, false, false, false, false]) (by kernel_rfl) (hN1567 _ _ ⟨v1700, S1701, f1486, f1487, f1488, f1489, f1490, f1491, rfl, rfl, rfl, hL⟩)
    · refine CW.exit ?_
      refine XJ.hit ?_
      obtain rfl := Option.some.inj hm
      exact ⟨_, rfl, ⟨v104, S105, f1486, f1487, f1488, f1489, f1490, f1491, hL⟩⟩

theorem M.spec_l21Result_ok (w0 : World) (a0 : Series) {v1 : Value} (h2 : rdL (· < w0.heap.size) w0 v1 a0.Races) (a1 : List Penalty) {v3 : Value} (h4 : rdL (· < w0.heap.size) w0 v3 a1) {r : Int} (hm : M.spec_l21Result a0 a1 = some r) :
    Calls Try.prog 45 #[(.agg #[(.int .i64 a0.Boats), (.int .i64 a0.Scheme), v1]), v3] w0 fun e w' => e = .returned (.int .i64 r) ∧ Fresh w0 w' [] := by
  unfold M.spec_l21Result at hm
  refine calls_CW (args := [(.agg #[(.int .i64 a0.Boats), (.int .i64 a0.Scheme), v1]), v3]) Try.func45 rfl rfl rfl ?_
  have hL := Hp.start w0
  refine CW.seq ?_
  refine CW.regionL ?_
  refine OW.cons (S_box (cs := #[(.int .i64 a0.Boats), (.int .i64 a0.Scheme), v1]) hL rfl rfl rfl ?_)
  intro wd5 b6 hL
  refine OW.cons (OP.val (v := (.int .i64 0)) rfl (x_assign) ?_)
  refine OW.nil ?_
  refine CW.seq ?_
  refine CW.seq ?_
  refine CW.regionL ?_
  refine OW.cons (OP.val (v := (.agg #[(.int .i64 a0.Boats), (.int .i64 a0.Scheme), v1])) rfl (x_loadN (cs := [(.int .i64 a0.Boats), (.int .i64 a0.Scheme), v1]) Try.underlying31 Try_T31 rfl rfl (hL.cellsB 0 rfl (o := 0) (l := [(.int .i64 a0.Boats), (.int .i64 a0.Scheme), v1]) (by intro j u hj; exact (by simpa using hj)))) ?_)
  obtain ⟨x7, hx8, hm⟩ := bndE hm
  refine OW.cons (OP.call rfl (x_call (vs := [(.agg #[(.int .i64 a0.Boats), (.int .i64 a0.Scheme), v1])]) Try_C34 ⟨rfl, trivial⟩) (M.spec_IsSeries_ok _ a0 (hL.rdS 1 rfl h2) hx8) ?_)
  rintro e9 wd10 ⟨rfl, hF11⟩
  refine ⟨_, rfl, ?_⟩
  have hL := hL.pushAll hF11
  simp only [lA, lB, lC, lD] at hL
  refine OW.cons (OP.val (v := (.bool (!x7))) rfl (x_not rfl) ?_)
  refine OW.nil ?_
  refine CW.condM (t := !x7) rfl hm (fun hb12 hm => ?_) (fun hb12 hm => ?_)
  · refine CW.seq ?_
    refine CW.regionL ?_
    refine OW.cons (OP.val (v := (.int .i64 1)) rfl (x_assign) ?_)
    refine OW.nil ?_
    refine CW.ret ?_
    obtain rfl := Option.some.inj hm
    exact RR1 rfl rfl ⟨rfl, hL.fresh 1 rfl [] (by decide) (by decide) rfl⟩
  · refine CW.skip ?_
    refine CW.seq ?_
    refine CW.seq ?_
    refine CW.regionL ?_
    refine OW.cons (OP.val (v := (.agg #[(.int .i64 a0.Boats), (.int .i64 a0.Scheme), v1])) rfl (x_loadN (cs := [(.int .i64 a0.Boats), (.int .i64 a0.Scheme), v1]) Try.underlying31 Try_T31 rfl rfl (hL.cellsB 0 rfl (o := 0) (l := [(.int .i64 a0.Boats), (.int .i64 a0.Scheme), v1]) (by intro j u hj; exact (by simpa using hj)))) ?_)
    refine OW.cons (OP.val (v := v3) rfl (x_move) ?_)
    obtain ⟨x13, hx14, hm⟩ := bndE hm
    refine OW.cons (OP.call rfl (x_call (vs := [(.agg #[(.int .i64 a0.Boats), (.int .i64 a0.Scheme), v1]), v3]) Try_C35 ⟨rfl, rfl, trivial⟩) (M.spec_l21Valid_ok _ a0 (hL.rdS 1 rfl h2) a1 (hL.rdS 1 rfl h4) hx14) ?_)
    rintro e15 wd16 ⟨rfl, hF17⟩
    refine ⟨_, rfl, ?_⟩
    have hL := hL.pushAll hF17
    simp only [lA, lB, lC, lD] at hL
    refine OW.cons (OP.val (v := (.bool (!x13))) rfl (x_not rfl) ?_)
    refine OW.nil ?_
    refine CW.condM (t := !x13) rfl hm (fun hb18 hm => ?_) (fun hb18 hm => ?_)
    · refine CW.seq ?_
      refine CW.regionL ?_
      refine OW.cons (OP.val (v := (.int .i64 2)) rfl (x_assign) ?_)
      refine OW.nil ?_
      refine CW.ret ?_
      obtain rfl := Option.some.inj hm
      exact RR1 rfl rfl ⟨rfl, hL.fresh 1 rfl [] (by decide) (by decide) rfl⟩
    · refine CW.skip ?_
      refine CW.seq ?_
      refine CW.regionL ?_
      refine OW.cons (OP.val (v := (.int .i64 0)) rfl (x_assign) ?_)
      refine OW.nil ?_
      refine CW.ret ?_
      obtain rfl := Option.some.inj hm
      exact RR1 rfl rfl ⟨rfl, hL.fresh 1 rfl [] (by decide) (by decide) rfl⟩

theorem M.spec_l26Done_ok (w0 : World) (a0 : Finish) {r : Bool} (hm : M.spec_l26Done a0 = some r) :
    Calls Try.prog 70 #[(.agg #[(.int .i64 a0.Boat), (.int .i64 a0.Code), (.int .i64 a0.Time)])] w0 fun e w' => e = .returned (.bool r) ∧ Fresh w0 w' [] := by
  unfold M.spec_l26Done at hm
  refine calls_CW (args := [(.agg #[(.int .i64 a0.Boat), (.int .i64 a0.Code), (.int .i64 a0.Time)])]) Try.func70 rfl rfl rfl ?_
  have hL := Hp.start w0
  refine CW.seq ?_
  refine CW.regionL ?_
  refine OW.cons (S_box (cs := #[(.int .i64 a0.Boat), (.int .i64 a0.Code), (.int .i64 a0.Time)]) hL rfl rfl rfl ?_)
  intro wd1 b2 hL
  refine OW.cons (OP.val (v := (.bool false)) rfl (x_assign) ?_)
  refine OW.nil ?_
  refine CW.seq ?_
  refine CW.regionL ?_
  refine OW.cons (OP.val (v := (.pointer (some ⟨b2, 1, none⟩))) rfl (x_fieldAddr (fsz := 1) 0 1 1 Try.underlying50 rfl Try_T2 rfl rfl rfl) ?_)
  refine OW.cons (OP.val (v := (.int .i64 a0.Code)) rfl (x_load1 Try.underlying2 rfl rfl (hL.cellB 0 rfl rfl)) ?_)
  refine OW.cons (OP.val (v := (.bool (a0.Code == 0))) rfl (x_eql rfl rfl) ?_)
  refine OW.cons (OP.val (v := (.bool (a0.Code == 0))) rfl (x_assign) ?_)
  refine OW.nil ?_
  refine CW.ret ?_
  obtain rfl := Option.some.inj hm
  exact RR1 rfl rfl ⟨rfl, hL.fresh 1 rfl [] (by decide) (by decide) rfl⟩

theorem M.spec_l21Series_ok (w0 : World) (a0 : Series) {v1 : Value} (h2 : rdL (· < w0.heap.size) w0 v1 a0.Races) (a1 : List Penalty) {v3 : Value} (h4 : rdL (· < w0.heap.size) w0 v3 a1) {r : Series} (hm : M.spec_l21Series a0 a1 = some r) :
    Calls Try.prog 46 #[(.agg #[(.int .i64 a0.Boats), (.int .i64 a0.Scheme), v1]), v3] w0 fun e w' => ∃ (rv0 : Value) (rS0 : Nat → Prop), e = .returned (.agg #[(.int .i64 r.Boats), (.int .i64 r.Scheme), rv0]) ∧ Fresh w0 w' [Ent.own 46 rS0 rv0 r.Races] := by
  unfold M.spec_l21Series at hm
  refine calls_CW (args := [(.agg #[(.int .i64 a0.Boats), (.int .i64 a0.Scheme), v1]), v3]) Try.func46 rfl rfl rfl ?_
  have hL := Hp.start w0
  refine CW.seq ?_
  refine CW.regionL ?_
  refine OW.cons (S_box (cs := #[(.int .i64 a0.Boats), (.int .i64 a0.Scheme), v1]) hL rfl rfl rfl ?_)
  intro wd5 b6 hL
  refine OW.cons (S_alloc (cs := #[(.int .i64 0), (.int .i64 0), (.slice none 0 0)]) hL Try_T31 rfl rfl ?_)
  intro wd7 b8 hL
  refine OW.nil ?_
  refine CW.seq ?_
  refine CW.regionL ?_
  refine OW.cons (S_lit0 (α := Finish) Race hL Try.underlying29 Try_T46 rfl ?_)
  intro wd9 v10 S11 hL
  refine OW.cons (OP.val (v := v10) rfl (x_assign) ?_)
  refine OW.nil ?_
  refine CW.seq ?_
  refine CW.seq ?_
  refine CW.regionL ?_
  refine OW.cons (OP.val (v := (.int .i64 0)) rfl (x_assign) ?_)
  refine OW.nil ?_
  obtain ⟨o70, ho71, hm⟩ := bndE hm
  refine CW.loopB (fun (s_l1 : (List Race) × Int) (F : Fr) (w : World) => ∃ (v66 : Value) (S67 : Nat → Prop), F 1 = v3 ∧ F 2 = (.pointer (some ⟨b6, 0, none⟩)) ∧ F 4 = (.pointer (some ⟨b8, 0, none⟩)) ∧ F 5 = v66 ∧ F 6 = (.int .i64 s_l1.2) ∧ Hp w0 [Ent.own 46 S67 v66 s_l1.1, Ent.blk b8 31 #[(.int .i64 0), (.int .i64 0), (.slice none 0 0)], Ent.blk b6 31 #[(.int .i64 a0.Boats), (.int .i64 a0.Scheme), v1], Ent.snap w0 w0.heap.size] w) (fun o => outc o (fun x => some x) (fun s => M.spec_l21Series_a1 a0 a1 s) = some r) ho71 hm ⟨v10, S11, rfl, rfl, rfl, rfl, rfl, hL⟩ ?_ ?_
  · intro s_l1 F72 wd73 hJ hm
    have hm := outcE hm
    have hm : M.spec_l21Series_a1 a0 a1 s_l1 = some r := hm
    unfold M.spec_l21Series_a1 at hm
    obtain ⟨v66, S67, f74, f75, f76, f77, f78, hL⟩ := hJ
    refine CW.seq ?_
    refine CW.seq ?_
    refine CW.regionL ?_
    refine OW.cons (OP.val (v := (.int .i64 0)) rfl (x_assign) ?_)
    refine OW.nil ?_
    obtain ⟨o1213, ho1214, hm⟩ := bndE hm
    refine CW.loopB (fun (s_l2 : (List Race) × Int) (F : Fr) (w : World) => ∃ (S1210 : Nat → Prop), F 1 = v3 ∧ F 2 = (.pointer (some ⟨b6, 0, none⟩)) ∧ F 4 = (.pointer (some ⟨b8, 0, none⟩)) ∧ F 5 = v66 ∧ F 7 = (.int .i64 s_l2.2) ∧ Hp w0 [Ent.own 46 S1210 v66 s_l2.1, Ent.blk b8 31 #[(.int .i64 0), (.int .i64 0), (.slice none 0 0)], Ent.blk b6 31 #[(.int .i64 a0.Boats), (.int .i64 a0.Scheme), v1], Ent.snap w0 w0.heap.size] w) (fun o => outc o (fun x => some x) (fun s => M.spec_l21Series_a2 a0 a1 s) = some r) ho1214 hm ⟨S67, f74, f75, f76, f77, rfl, hL⟩ ?_ ?_
    · intro s_l2 F1215 wd1216 hJ hm
      have hm := outcE hm
      have hm : M.spec_l21Series_a2 a0 a1 s_l2 = some r := hm
      unfold M.spec_l21Series_a2 at hm
      obtain ⟨S1210, f1217, f1218, f1219, f1220, f1221, hL⟩ := hJ
      refine CW.seq ?_
      refine CW.seq ?_
      refine CW.regionL ?_
      refine OW.cons (OP.val (v := (.int .i64 0)) rfl (x_assign) ?_)
      refine OW.nil ?_
      obtain ⟨o1612, ho1613, hm⟩ := bndE hm
      refine CW.loopB (fun (s_l3 : (List Race) × Int) (F : Fr) (w : World) => ∃ (S1609 : Nat → Prop), F 1 = v3 ∧ F 2 = (.pointer (some ⟨b6, 0, none⟩)) ∧ F 4 = (.pointer (some ⟨b8, 0, none⟩)) ∧ F 5 = v66 ∧ F 10 = (.int .i64 s_l3.2) ∧ Hp w0 [Ent.own 46 S1609 v66 s_l3.1, Ent.blk b8 31 #[(.int .i64 0), (.int .i64 0), (.slice none 0 0)], Ent.blk b6 31 #[(.int .i64 a0.Boats), (.int .i64 a0.Scheme), v1], Ent.snap w0 w0.heap.size] w) (fun o => outc o (fun x => some x) (fun s => M.spec_l21Series_a3 a0 s) = some r) ho1613 hm ⟨S1210, f1217, f1218, f1219, f1220, rfl, hL⟩ ?_ ?_
      · intro s_l3 F1614 wd1615 hJ hm
        have hm := outcE hm
        have hm : M.spec_l21Series_a3 a0 s_l3 = some r := hm
        unfold M.spec_l21Series_a3 at hm
        obtain ⟨S1609, f1616, f1617, f1618, f1619, f1620, hL⟩ := hJ
        refine CW.seq ?_
        refine CW.regionL ?_
        refine OW.cons (OP.val (v := (.pointer (some ⟨b6, 0, none⟩))) rfl (x_fieldAddr (fsz := 1) 0 0 0 Try.underlying31 rfl Try_T2 rfl f1617 rfl) ?_)
        refine OW.cons (OP.val (v := (.int .i64 a0.Boats)) rfl (x_load1 Try.underlying2 rfl rfl (hL.cellB 2 rfl rfl)) ?_)
        refine OW.cons (OP.val (v := (.pointer (some ⟨b6, 1, none⟩))) rfl (x_fieldAddr (fsz := 1) 0 1 1 Try.underlying31 rfl Try_T2 rfl f1617 rfl) ?_)
        refine OW.cons (OP.val (v := (.int .i64 a0.Scheme)) rfl (x_load1 Try.underlying2 rfl rfl (hL.cellB 2 rfl rfl)) ?_)
        refine OW.cons (OP.val (v := v66) rfl (x_mv f1619) ?_)
        refine OW.cons (OP.val (v := (.agg #[(.int .i64 a0.Boats), (.int .i64 a0.Scheme), v66])) rfl (x_build Try_B31 (ps := [(0, (.int .i64 a0.Boats)), (1, (.int .i64 a0.Scheme)), (2, v66)]) ⟨⟨rfl, rfl⟩, ⟨rfl, rfl⟩, ⟨rfl, rfl⟩, trivial⟩ (by simp [Instr.fill, cells_int, cells_bool, cells_string, cells_agg, cells_slice, cells_pointer, (rdL_cells (hL.rdO 0 rfl))])) ?_)
        refine OW.cons (S_storeN (l := [(.int .i64 a0.Boats), (.int .i64 a0.Scheme), v66]) (cs' := #[(.int .i64 a0.Boats), (.int .i64 a0.Scheme), v66]) hL 1 rfl Try_T31 f1618 rfl (List.forall_mem_cons.2 ⟨rfl, (List.forall_mem_cons.2 ⟨rfl, (List.forall_mem_cons.2 ⟨rdL_one (hL.rdO 0 rfl), (fun _ h => by cases h)⟩)⟩)⟩) rfl (Nat.le_of_ble_eq_true rfl) rfl ?_)
        intro wd1621 hL
        refine OW.nil ?_
        refine CW.ret ?_
        obtain rfl := Option.some.inj hm
        exact RRc rfl f1618 (run_loadBlk Try.underlying31 Try_T31 (hL.get 1 rfl) rfl) ⟨v66, S1609, rfl, hL.fresh 3 rfl [0] (by decide) (by decide) rfl⟩
      · intro s_l3 F1622 wd1623 t1610 hJ hm hr1611
        unfold M.spec_l21Series_l3 at hm
        obtain ⟨S1609, f1624, f1625, f1626, f1627, f1628, hL⟩ := hJ
        refine CW.seq ?_
        refine CW.seq ?_
        refine CW.regionL ?_
        refine OW.cons (OP.val (v := (.int .i64 s_l3.2)) rfl (x_mv f1628) ?_)
        refine OW.cons (OP.val (v := v3) rfl (x_mv f1624) ?_)
        refine OW.cons (OP.val (v := (.int .i64 (a1.length : Int))) rfl (x_lenR Try.underlying33 rfl (hL.rdS 3 rfl h4)) ?_)
        refine OW.cons (OP.val (v := (.bool (decide (s_l3.2 < (a1.length : Int))))) rfl (x_lss rfl rfl) ?_)
        refine OW.nil ?_
        refine CW.condM (t := decide (s_l3.2 < (a1.length : Int))) rfl hm (fun hb1629 hm => ?_) (fun hb1629 hm => ?_)
        · refine CW.skip ?_
          refine CW.seqJ (fun (s_j1 : (List Race)) (F : Fr) (w : World) => ∃ (S1722 : Nat → Prop), F 1 = v3 ∧ F 2 = (.pointer (some ⟨b6, 0, none⟩)) ∧ F 4 = (.pointer (some ⟨b8, 0, none⟩)) ∧ F 5 = v66 ∧ F 10 = (.int .i64 s_l3.2) ∧ Hp w0 [Ent.own 46 S1722 v66 s_j1, Ent.blk b8 31 #[(.int .i64 0), (.int .i64 0), (.slice none 0 0)], Ent.blk b6 31 #[(.int .i64 a0.Boats), (.int .i64 a0.Scheme), v1], Ent.snap w0 w0.heap.size] w) (fun s_j1 => M.spec_l21Series_j1 s_l3 s_j1 = some t1610) ?_ ?_
          · refine CW.blockJ (fun (s_j2 : (List Race)) (F : Fr) (w : World) => ∃ (S1772 : Nat → Prop), F 1 = v3 ∧ F 2 = (.pointer (some ⟨b6, 0, none⟩)) ∧ F 4 = (.pointer (some ⟨b8, 0, none⟩)) ∧ F 5 = v66 ∧ F 10 = (.int .i64 s_l3.2) ∧ Hp w0 [Ent.own 46 S1772 v66 s_j2, Ent.blk b8 31 #[(.int .i64 0), (.int .i64 0), (.slice none 0 0)], Ent.blk b6 31 #[(.int .i64 a0.Boats), (.int .i64 a0.Scheme), v1], Ent.snap w0 w0.heap.size] w) (fun s_j2 => M.spec_l21Series_j2 s_l3 s_j2 = some t1610) ?_ ?_
            · refine CW.seq ?_
              refine CW.regionL ?_
              refine OW.cons (OP.val (v := v3) rfl (x_mv f1624) ?_)
              refine OW.cons (OP.val (v := (.int .i64 s_l3.2)) rfl (x_mv f1628) ?_)
              obtain ⟨x1780, ha1781, hm⟩ := bndE hm
              obtain ⟨hz1782, ha1786⟩ := idxE ha1781
              obtain ⟨b1783, q1784, hix1785⟩ := rdL_ix (hL.rdS 3 rfl h4) hz1782 ha1786
              refine OW.cons (OP.val (v := (.pointer (some ⟨b1783, q1784, none⟩))) rfl (x_ix Try.underlying33 Try_T48 rfl rfl hix1785) ?_)
              refine OW.cons (OP.val (v := (.agg #[(.int .i64 x1780.Race), (.int .i64 x1780.Boat), (.int .i64 x1780.Kind), (.int .i64 x1780.Value)])) rfl (x_loadN (cs := [(.int .i64 x1780.Race), (.int .i64 x1780.Boat), (.int .i64 x1780.Kind), (.int .i64 x1780.Value)]) Try.underlying48 Try_T48 rfl rfl (rdF_cells (hL.rdS 3 rfl h4) hix1785 ha1786)) ?_)
              refine OW.cons (S_alloc (cs := #[(.int .i64 0), (.int .i64 0), (.int .i64 0), (.int .i64 0)]) hL Try_T48 rfl rfl ?_)
              intro wd1787 b1788 hL
              refine OW.cons (S_storeN (l := [(.int .i64 x1780.Race), (.int .i64 x1780.Boat), (.int .i64 x1780.Kind), (.int .i64 x1780.Value)]) (cs' := #[(.int .i64 x1780.Race), (.int .i64 x1780.Boat), (.int .i64 x1780.Kind), (.int .i64 x1780.Value)]) hL 0 rfl Try_T48 rfl rfl (List.forall_mem_cons.2 ⟨rfl, (List.forall_mem_cons.2 ⟨rfl, (List.forall_mem_cons.2 ⟨rfl, (List.forall_mem_cons.2 ⟨rfl, (fun _ h => by cases h)⟩)⟩)⟩)⟩) rfl (Nat.le_of_ble_eq_true rfl) rfl ?_)
              intro wd1789 hL
              refine OW.nil ?_
              refine CW.seq ?_
              refine CW.regionL ?_
              refine OW.cons (OP.val (v := (.pointer (some ⟨b1788, 2, none⟩))) rfl (x_fieldAddr (fsz := 1) 0 2 2 Try.underlying48 rfl Try_T2 rfl rfl rfl) ?_)
              refine OW.cons (OP.val (v := (.int .i64 x1780.Kind)) rfl (x_load1 Try.underlying2 rfl rfl (hL.cellB 0 rfl rfl)) ?_)
              refine OW.cons (OP.val (v := (.bool (x1780.Kind == 1))) rfl (x_eql rfl rfl) ?_)
              refine OW.nil ?_
              refine CW.condM (t := x1780.Kind == 1) rfl hm (fun hb1790 hm => ?_) (fun hb1790 hm => ?_)
              · obtain ⟨wz1791, hL, ho1792⟩ := hL.freeze 1 rfl
                simp only [lC, lD] at hL
                refine CW.draw Try_mixed ?_
                have hL := hL.call (Mod.drew _)
                refine DW.pre (fuel := 1) (fin := (((((((((((((((Array.replicate 15 false).setIfInBounds 0 true).setIfInBounds 1 true).setIfInBounds 2 true).setIfInBounds 3 true).setIfInBounds 4 true).setIfInBounds 5 true).setIfInBounds 6 true).setIfInBounds 7 true).setIfInBounds 8 true).setIfInBounds 9 true).setIfInBounds 10 true).setIfInBounds 11 true).setIfInBounds 12 true).setIfInBounds 13 true)) (C := fun w' => Mod None_ _ w') [0, 1, 2, 3, 4, 5, 6, 7, 8, 9, 10, 11, 12, 13] (Mod.refl _ _) (by kernel_rfl) (by kernel_rfl) ?_
                refine QW.cons rfl (QP.val (v := v66) rfl (fun w' hm' => x_mv f1627) ?_)
                refine QW.cons rfl (QP.val (v := (.pointer (some ⟨b1788, 0, none⟩))) rfl (fun w' hm' => x_fieldAddr (fsz := 1) 0 0 0 Try.underlying48 rfl Try_T2 rfl rfl rfl) ?_)
                refine QW.cons rfl (QP.val (v := (.int .i64 x1780.Race)) rfl (fun w' hm' => x_load1 Try.underlying2 rfl rfl ((hL.call hm').cellB 0 rfl rfl)) ?_)
                obtain ⟨x1793, ha1794, hm⟩ := bndE hm
                obtain ⟨hz1795, ha1803⟩ := idxE ha1794
                obtain ⟨b1796, q1797, v1798, hix1799, hs1800, hc1801, hr1802⟩ := rdN_at ho1792.1.rdL hz1795 ha1803
                refine QW.cons rfl (QP.val (v := (.pointer (some ⟨b1796, q1797, none⟩))) rfl (fun w' hm' => x_ix Try.underlying29 Try_T46 rfl rfl hix1799) ?_)
                refine QW.cons rfl (QP.val (v := (.pointer (some ⟨b1796, q1797, none⟩))) rfl (fun w' hm' => x_fieldAddr (fsz := 1) q1797 0 q1797 Try.underlying46 rfl Try_T44 rfl rfl rfl) ?_)
                refine QW.cons rfl (QP.val (v := v1798) rfl (fun w' hm' => x_load1 Try.underlying44 rfl rfl ((hL.call hm').cellF 1 rfl hs1800 hc1801)) ?_)
                refine QW.cons rfl (QP.val (v := (.pointer (some ⟨b1788, 1, none⟩))) rfl (fun w' hm' => x_fieldAddr (fsz := 1) 0 1 1 Try.underlying48 rfl Try_T2 rfl rfl rfl) ?_)
                refine QW.cons rfl (QP.val (v := (.int .i64 x1780.Boat)) rfl (fun w' hm' => x_load1 Try.underlying2 rfl rfl ((hL.call hm').cellB 0 rfl rfl)) ?_)
                refine QW.cons rfl (QP.val (v := (.pointer (some ⟨b1788, 1, none⟩))) rfl (fun w' hm' => x_fieldAddr (fsz := 1) 0 1 1 Try.underlying48 rfl Try_T2 rfl rfl rfl) ?_)
                refine QW.cons rfl (QP.val (v := (.int .i64 x1780.Boat)) rfl (fun w' hm' => x_load1 Try.underlying2 rfl rfl ((hL.call hm').cellB 0 rfl rfl)) ?_)
                refine QW.cons rfl (QP.val (v := (.pointer (some ⟨b1788, 3, none⟩))) rfl (fun w' hm' => x_fieldAddr (fsz := 1) 0 3 3 Try.underlying48 rfl Try_T2 rfl rfl rfl) ?_)
                refine QW.cons rfl (QP.val (v := (.int .i64 x1780.Value)) rfl (fun w' hm' => x_load1 Try.underlying2 rfl rfl ((hL.call hm').cellB 0 rfl rfl)) ?_)
                refine QW.cons rfl (QP.val (v := (.agg #[(.int .i64 x1780.Boat), (.int .i64 x1780.Value), (.int .i64 0)])) rfl (fun w' hm' => x_build Try_B50 (ps := [(0, (.int .i64 x1780.Boat)), (1, (.int .i64 x1780.Value))]) ⟨⟨rfl, rfl⟩, ⟨rfl, rfl⟩, trivial⟩ (by simp [Instr.fill, cells_int, cells_bool, cells_string, cells_agg, cells_slice, cells_pointer])) ?_)
                obtain ⟨x1804, ha1805, hm⟩ := bndE hm
                obtain ⟨hz1806, ha1810⟩ := idxE ha1805
                obtain ⟨b1807, q1808, hix1809⟩ := rdL_ix (hL.rdF 1 rfl hr1802) hz1806 ha1810
                refine QW.cons rfl (QP.val (v := (.pointer (some ⟨b1807, q1808, none⟩))) rfl (fun w' hm' => x_ix Try.underlying44 Try_T50 rfl rfl hix1809) ?_)
                refine QW.nil ?_
                intro wd1811 hmod
                have hL := hL.call hmod
                have hc1813 := hL.cellF 1 rfl hs1800 hc1801
                have hL := hL.thaw 1 rfl ho1792
                simp only [lC, lD] at hL
                refine DW.only 14 rfl (by kernel_rfl) (S_inRowC (α := Finish) (x1793.Finishes.set (x1780.Boat : Int).toNat (Finish.mk x1780.Boat x1780.Value 0)) (Race.mk (x1793.Finishes.set (x1780.Boat : Int).toNat (Finish.mk x1780.Boat x1780.Value 0))) rfl hL 1 rfl hix1799 ha1803 hc1813 (fun E2 S1 hL hK => S_storeXN (l := [(.int .i64 x1780.Boat), (.int .i64 x1780.Value), (.int .i64 0)]) (Finish.mk x1780.Boat x1780.Value 0) hL 0 rfl Try_T50 hix1809 ha1810 rfl rfl rfl hK) ?_)
                intro wd1812 S1814 hL hc1815 ha1816
                simp only [lC, lD] at hL
                obtain ⟨wz1817, hL, ho1818, hs1819, hc1820, hr1821⟩ := hL.freezeAt (α := Finish) 1 rfl hix1799 ha1816 hc1815
                simp only [lC, lD] at hL
                refine DW.done (by kernel_rfl) ?_
                have hL := hL.thaw 1 rfl ho1818
                have hL := hL.sel [1, 2, 3, 4] (by decide) rfl
                exact ⟨s_l3.1.set (x1780.Race : Int).toNat (Race.mk (x1793.Finishes.set (x1780.Boat : Int).toNat (Finish.mk x1780.Boat x1780.Value 0))), hm, ⟨S1814, f1624, f1625, f1626, f1627, f1628, hL⟩⟩
              · refine CW.skip ?_
                have hL := hL.sel [1, 2, 3, 4] (by decide) rfl
                exact ⟨s_l3.1, hm, ⟨S1609, f1624, f1625, f1626, f1627, f1628, hL⟩⟩
            · intro s_j2 F1773 wd1774 hJ hm
              unfold M.spec_l21Series_j2 at hm
              obtain ⟨S1772, f1775, f1776, f1777, f1778, f1779, hL⟩ := hJ
              exact ⟨s_j2, hm, ⟨S1772, f1775, f1776, f1777, f1778, f1779, hL⟩⟩
          · intro s_j1 F1723 wd1724 hJ hm
            unfold M.spec_l21Series_j1 at hm
            obtain ⟨S1722, f1725, f1726, f1727, f1728, f1729, hL⟩ := hJ
            refine CW.regionL ?_
            refine OW.cons (OP.val (v := (.int .i64 s_l3.2)) rfl (x_mv f1729) ?_)
            refine OW.cons (OP.val (v := (.int .i64 (w64 (s_l3.2 + 1)))) rfl (x_add rfl rfl) ?_)
            refine OW.cons (OP.val (v := (.int .i64 (w64 (s_l3.2 + 1)))) rfl (x_assign) ?_)
            refine OW.nil ?_
            obtain rfl := Option.some.inj hm
            exact ⟨_, rfl, ⟨S1722, f1725, f1726, f1727, f1728, rfl, hL⟩⟩
        · refine CW.exit ?_
          refine XJ.hit ?_
          obtain rfl := Option.some.inj hm
          exact ⟨_, rfl, ⟨S1609, f1624, f1625, f1626, f1627, f1628, hL⟩⟩
    · intro s_l2 F1822 wd1823 t1211 hJ hm hr1212
      unfold M.spec_l21Series_l2 at hm
      obtain ⟨S1210, f1824, f1825, f1826, f1827, f1828, hL⟩ := hJ
      refine CW.seq ?_
      refine CW.seq ?_
      refine CW.regionL ?_
      refine OW.cons (OP.val (v := (.int .i64 s_l2.2)) rfl (x_mv f1828) ?_)
      refine OW.cons (OP.val (v := v3) rfl (x_mv f1824) ?_)
      refine OW.cons (OP.val (v := (.int .i64 (a1.length : Int))) rfl (x_lenR Try.underlying33 rfl (hL.rdS 3 rfl h4)) ?_)
      refine OW.cons (OP.val (v := (.bool (decide (s_l2.2 < (a1.length : Int))))) rfl (x_lss rfl rfl) ?_)
      refine OW.nil ?_
      refine CW.condM (t := decide (s_l2.2 < (a1.length : Int))) rfl hm (fun hb1829 hm => ?_) (fun hb1829 hm => ?_)
      · refine CW.skip ?_
        refine CW.seqJ (fun (s_j3 : (List Race)) (F : Fr) (w : World) => ∃ (S2108 : Nat → Prop), F 1 = v3 ∧ F 2 = (.pointer (some ⟨b6, 0, none⟩)) ∧ F 4 = (.pointer (some ⟨b8, 0, none⟩)) ∧ F 5 = v66 ∧ F 7 = (.int .i64 s_l2.2) ∧ Hp w0 [Ent.own 46 S2108 v66 s_j3, Ent.blk b8 31 #[(.int .i64 0), (.int .i64 0), (.slice none 0 0)], Ent.blk b6 31 #[(.int .i64 a0.Boats), (.int .i64 a0.Scheme), v1], Ent.snap w0 w0.heap.size] w) (fun s_j3 => M.spec_l21Series_j3 s_l2 s_j3 = some t1211) ?_ ?_
        · refine CW.blockJ (fun (s_j4 : (List Race)) (F : Fr) (w : World) => ∃ (S2251 : Nat → Prop), F 1 = v3 ∧ F 2 = (.pointer (some ⟨b6, 0, none⟩)) ∧ F 4 = (.pointer (some ⟨b8, 0, none⟩)) ∧ F 5 = v66 ∧ F 7 = (.int .i64 s_l2.2) ∧ Hp w0 [Ent.own 46 S2251 v66 s_j4, Ent.blk b8 31 #[(.int .i64 0), (.int .i64 0), (.slice none 0 0)], Ent.blk b6 31 #[(.int .i64 a0.Boats), (.int .i64 a0.Scheme), v1], Ent.snap w0 w0.heap.size] w) (fun s_j4 => M.spec_l21Series_j4 s_l2 s_j4 = some t1211) ?_ ?_
          · refine CW.seq ?_
            refine CW.regionL ?_
            refine OW.cons (OP.val (v := v3) rfl (x_mv f1824) ?_)
            refine OW.cons (OP.val (v := (.int .i64 s_l2.2)) rfl (x_mv f1828) ?_)
            obtain ⟨x2259, ha2260, hm⟩ := bndE hm
            obtain ⟨hz2261, ha2265⟩ := idxE ha2260
            obtain ⟨b2262, q2263, hix2264⟩ := rdL_ix (hL.rdS 3 rfl h4) hz2261 ha2265
            refine OW.cons (OP.val (v := (.pointer (some ⟨b2262, q2263, none⟩))) rfl (x_ix Try.underlying33 Try_T48 rfl rfl hix2264) ?_)
            refine OW.cons (OP.val (v := (.agg #[(.int .i64 x2259.Race), (.int .i64 x2259.Boat), (.int .i64 x2259.Kind), (.int .i64 x2259.Value)])) rfl (x_loadN (cs := [(.int .i64 x2259.Race), (.int .i64 x2259.Boat), (.int .i64 x2259.Kind), (.int .i64 x2259.Value)]) Try.underlying48 Try_T48 rfl rfl (rdF_cells (hL.rdS 3 rfl h4) hix2264 ha2265)) ?_)
            refine OW.cons (S_alloc (cs := #[(.int .i64 0), (.int .i64 0), (.int .i64 0), (.int .i64 0)]) hL Try_T48 rfl rfl ?_)
            intro wd2266 b2267 hL
            refine OW.cons (S_storeN (l := [(.int .i64 x2259.Race), (.int .i64 x2259.Boat), (.int .i64 x2259.Kind), (.int .i64 x2259.Value)]) (cs' := #[(.int .i64 x2259.Race), (.int .i64 x2259.Boat), (.int .i64 x2259.Kind), (.int .i64 x2259.Value)]) hL 0 rfl Try_T48 rfl rfl (List.forall_mem_cons.2 ⟨rfl, (List.forall_mem_cons.2 ⟨rfl, (List.forall_mem_cons.2 ⟨rfl, (List.forall_mem_cons.2 ⟨rfl, (fun _ h => by cases h)⟩)⟩)⟩)⟩) rfl (Nat.le_of_ble_eq_true rfl) rfl ?_)
            intro wd2268 hL
            refine OW.nil ?_
            refine CW.seq ?_
            obtain ⟨wz2269, hL, ho2270⟩ := hL.freeze 1 rfl
            simp only [lC, lD] at hL
            refine CW.drawH (fun w' => Hp w0 [Ent.blk b2267 48 #[(.int .i64 x2259.Race), (.int .i64 x2259.Boat), (.int .i64 x2259.Kind), (.int .i64 x2259.Value)], Ent.frzS wz2269 S1210, Ent.blk b8 31 #[(.int .i64 0), (.int .i64 0), (.slice none 0 0)], Ent.blk b6 31 #[(.int .i64 a0.Boats), (.int .i64 a0.Scheme), v1], Ent.snap w0 w0.heap.size] w') Try_mixed ?_
            have hL := hL.call (Mod.drew _)
            have hS := (hL.sel [0, 1, 2, 3, 4] (by decide) rfl)
            refine DH.take 0 rfl (by kernel_rfl) (by kernel_rfl) (by kernel_rfl) rfl rfl hS (YH.val (v := v66) (fun w' hS' => x_mv f1827)) ?_
            have hS := (hL.sel [0, 1, 2, 3, 4] (by decide) rfl)
            refine DH.take 1 rfl (by kernel_rfl) (by kernel_rfl) (by kernel_rfl) rfl rfl hS (YH.val (v := (.pointer (some ⟨b2267, 0, none⟩))) (fun w' hS' => x_fieldAddr (fsz := 1) 0 0 0 Try.underlying48 rfl Try_T2 rfl rfl rfl)) ?_
            have hS := (hL.sel [0, 1, 2, 3, 4] (by decide) rfl)
            refine DH.take 2 rfl (by kernel_rfl) (by kernel_rfl) (by kernel_rfl) rfl rfl hS (YH.val (v := (.int .i64 x2259.Race)) (fun w' hS' => x_load1 Try.underlying2 rfl rfl (hS'.cellB 0 rfl rfl))) ?_
            have hS := (hL.sel [0, 1, 2, 3, 4] (by decide) rfl)
            obtain ⟨x2292, ha2293, hm⟩ := bndE hm
            obtain ⟨hz2294, ha2302⟩ := idxE ha2293
            obtain ⟨b2295, q2296, v2297, hix2298, hs2299, hc2300, hr2301⟩ := rdN_at ho2270.1.rdL hz2294 ha2302
            refine DH.take 3 rfl (by kernel_rfl) (by kernel_rfl) (by kernel_rfl) rfl rfl hS (YH.val (v := (.pointer (some ⟨b2295, q2296, none⟩))) (fun w' hS' => x_ix Try.underlying29 Try_T46 rfl rfl hix2298)) ?_
            have hS := (hL.sel [0, 1, 2, 3, 4] (by decide) rfl)
            refine DH.take 4 rfl (by kernel_rfl) (by kernel_rfl) (by kernel_rfl) rfl rfl hS (YH.val (v := (.pointer (some ⟨b2295, q2296, none⟩))) (fun w' hS' => x_fieldAddr (fsz := 1) q2296 0 q2296 Try.underlying46 rfl Try_T44 rfl rfl rfl)) ?_
            have hS := (hL.sel [0, 1, 2, 3, 4] (by decide) rfl)
            refine DH.take 5 rfl (by kernel_rfl) (by kernel_rfl) (by kernel_rfl) rfl rfl hS (YH.val (v := v2297) (fun w' hS' => x_load1 Try.underlying44 rfl rfl (hS'.cellF 1 rfl hs2299 hc2300))) ?_
            have hS := (hL.sel [0, 1, 2, 3, 4] (by decide) rfl)
            refine DH.take 6 rfl (by kernel_rfl) (by kernel_rfl) (by kernel_rfl) rfl rfl hS (YH.val (v := (.pointer (some ⟨b2267, 1, none⟩))) (fun w' hS' => x_fieldAddr (fsz := 1) 0 1 1 Try.underlying48 rfl Try_T2 rfl rfl rfl)) ?_
            have hS := (hL.sel [0, 1, 2, 3, 4] (by decide) rfl)
            refine DH.take 7 rfl (by kernel_rfl) (by kernel_rfl) (by kernel_rfl) rfl rfl hS (YH.val (v := (.int .i64 x2259.Boat)) (fun w' hS' => x_load1 Try.underlying2 rfl rfl (hS'.cellB 0 rfl rfl))) ?_
            have hS := (hL.sel [0, 1, 2, 3, 4] (by decide) rfl)
            obtain ⟨x2303, ha2304, hm⟩ := bndE hm
            obtain ⟨hz2305, ha2309⟩ := idxE ha2304
            obtain ⟨b2306, q2307, hix2308⟩ := rdL_ix (hL.rdF 1 rfl hr2301) hz2305 ha2309
            refine DH.take 8 rfl (by kernel_rfl) (by kernel_rfl) (by kernel_rfl) rfl rfl hS (YH.val (v := (.pointer (some ⟨b2306, q2307, none⟩))) (fun w' hS' => x_ix Try.underlying44 Try_T50 rfl rfl hix2308)) ?_
            have hS := (hL.sel [0, 1, 2, 3, 4] (by decide) rfl)
            refine DH.take 9 rfl (by kernel_rfl) (by kernel_rfl) (by kernel_rfl) rfl rfl hS (YH.val (v := (.agg #[(.int .i64 x2303.Boat), (.int .i64 x2303.Code), (.int .i64 x2303.Time)])) (fun w' hS' => x_loadN (cs := [(.int .i64 x2303.Boat), (.int .i64 x2303.Code), (.int .i64 x2303.Time)]) Try.underlying50 Try_T50 rfl rfl (rdF_cells (hS'.rdF 1 rfl hr2301) hix2308 ha2309))) ?_
            refine DH.only 10 rfl (by kernel_rfl) (S_alloc (cs := #[(.int .i64 0), (.int .i64 0), (.int .i64 0)]) hL Try_T50 rfl rfl ?_)
            intro wd2310 b2311 hL
            refine ⟨(hL.sel [1, 2, 3, 4, 5] (by decide) rfl), ?_⟩
            refine DH.only 11 rfl (by kernel_rfl) (S_storeN (l := [(.int .i64 x2303.Boat), (.int .i64 x2303.Code), (.int .i64 x2303.Time)]) (cs' := #[(.int .i64 x2303.Boat), (.int .i64 x2303.Code), (.int .i64 x2303.Time)]) hL 0 rfl Try_T50 rfl rfl (List.forall_mem_cons.2 ⟨rfl, (List.forall_mem_cons.2 ⟨rfl, (List.forall_mem_cons.2 ⟨rfl, (fun _ h => by cases h)⟩)⟩)⟩) rfl (Nat.le_of_ble_eq_true rfl) rfl ?_)
            intro wd2312 hL
            refine ⟨(hL.sel [1, 2, 3, 4, 5] (by decide) rfl), ?_⟩
            refine DH.done (by kernel_rfl) ?_
            have hL := hL.thaw 2 rfl ho2270
            refine CW.seqJ (fun (s_j5 : Bool) (F : Fr) (w : World) => F 1 = v3 ∧ F 2 = (.pointer (some ⟨b6, 0, none⟩)) ∧ F 4 = (.pointer (some ⟨b8, 0, none⟩)) ∧ F 5 = v66 ∧ F 7 = (.int .i64 s_l2.2) ∧ F 8 = (.pointer (some ⟨b2267, 0, none⟩)) ∧ F 9 = (.pointer (some ⟨b2311, 0, none⟩)) ∧ F 58 = (.bool s_j5) ∧ Hp w0 [Ent.blk b2311 50 #[(.int .i64 x2303.Boat), (.int .i64 x2303.Code), (.int .i64 x2303.Time)], Ent.blk b2267 48 #[(.int .i64 x2259.Race), (.int .i64 x2259.Boat), (.int .i64 x2259.Kind), (.int .i64 x2259.Value)], Ent.own 46 S1210 v66 s_l2.1, Ent.blk b8 31 #[(.int .i64 0), (.int .i64 0), (.slice none 0 0)], Ent.blk b6 31 #[(.int .i64 a0.Boats), (.int .i64 a0.Scheme), v1], Ent.snap w0 w0.heap.size] w) (fun s_j5 => M.spec_l21Series_j5 s_l2 x2259 x2303 s_j5 = some t1211) ?_ ?_
            · refine CW.regionL ?_
              refine OW.cons (OP.val (v := (.pointer (some ⟨b2267, 2, none⟩))) rfl (x_fieldAddr (fsz := 1) 0 2 2 Try.underlying48 rfl Try_T2 rfl rfl rfl) ?_)
              refine OW.cons (OP.val (v := (.int .i64 x2259.Kind)) rfl (x_load1 Try.underlying2 rfl rfl (hL.cellB 1 rfl rfl)) ?_)
              refine OW.cons (OP.val (v := (.bool (x2259.Kind == 2))) rfl (x_eql rfl rfl) ?_)
              refine OW.cons (OP.val (v := (.bool (x2259.Kind == 2))) rfl (x_move) ?_)
              refine ifB_elim hm (fun hb2388 hm => ?_) (fun hb2388 hm => ?_)
              · refine OW.cons (OP.yes' rfl rfl hb2388 (OP.val (v := (.agg #[(.int .i64 x2303.Boat), (.int .i64 x2303.Code), (.int .i64 x2303.Time)])) rfl (x_loadN (cs := [(.int .i64 x2303.Boat), (.int .i64 x2303.Code), (.int .i64 x2303.Time)]) Try.underlying50 Try_T50 rfl rfl (hL.cellsB 0 rfl (o := 0) (l := [(.int .i64 x2303.Boat), (.int .i64 x2303.Code), (.int .i64 x2303.Time)]) (by intro j u hj; exact (by simpa using hj)))) ?_))
                obtain ⟨x2389, hx2390, hm⟩ := bndE hm
                refine OW.cons (OP.yes' rfl rfl hb2388 (OP.call rfl (x_call (vs := [(.agg #[(.int .i64 x2303.Boat), (.int .i64 x2303.Code), (.int .i64 x2303.Time)])]) Try_C70 ⟨rfl, trivial⟩) (M.spec_l26Done_ok _ x2303 hx2390) ?_))
                rintro e2391 wd2392 ⟨rfl, hF2393⟩
                refine ⟨_, rfl, ?_⟩
                have hL := hL.pushAll hF2393
                simp only [lA, lB, lC, lD] at hL
                refine OW.cons (OP.val (v := (.bool x2389)) rfl (x_pickT' rfl hb2388 rfl) ?_)
                refine OW.nil ?_
                exact ⟨x2389, hm, ⟨f1824, f1825, f1826, f1827, f1828, rfl, rfl, rfl, hL⟩⟩
              · refine OW.cons (OP.no' rfl rfl hb2388 rfl ?_)
                refine OW.cons (OP.no' rfl rfl hb2388 rfl ?_)
                refine OW.cons (OP.val (v := (.bool false)) rfl (x_pickF' rfl hb2388 rfl) ?_)
                refine OW.nil ?_
                exact ⟨false, hm, ⟨f1824, f1825, f1826, f1827, f1828, rfl, rfl, rfl, hL⟩⟩
            · intro s_j5 F2319 wd2320 hJ hm
              unfold M.spec_l21Series_j5 at hm
              obtain ⟨f2321, f2322, f2323, f2324, f2325, f2326, f2327, f2328, hL⟩ := hJ
              refine CW.condM (t := s_j5) f2328 hm (fun hb2329 hm => ?_) (fun hb2329 hm => ?_)
              · obtain ⟨wz2330, hL, ho2331⟩ := hL.freeze 2 rfl
                simp only [lC, lD] at hL
                refine CW.drawH (fun w' => Hp w0 [Ent.blk b2311 50 #[(.int .i64 x2303.Boat), (.int .i64 x2303.Code), (.int .i64 x2303.Time)], Ent.blk b2267 48 #[(.int .i64 x2259.Race), (.int .i64 x2259.Boat), (.int .i64 x2259.Kind), (.int .i64 x2259.Value)], Ent.blk b8 31 #[(.int .i64 0), (.int .i64 0), (.slice none 0 0)], Ent.blk b6 31 #[(.int .i64 a0.Boats), (.int .i64 a0.Scheme), v1], Ent.snap w0 w0.heap.size] w') Try_mixed ?_
                have hL := hL.call (Mod.drew _)
                have hS := (hL.sel [0, 1, 3, 4, 5] (by decide) rfl)
                refine DH.take 0 rfl (by kernel_rfl) (by kernel_rfl) (by kernel_rfl) rfl rfl hS (YH.val (v := v66) (fun w' hS' => x_mv f2324)) ?_
                have hS := (hL.sel [0, 1, 3, 4, 5] (by decide) rfl)
                refine DH.take 1 rfl (by kernel_rfl) (by kernel_rfl) (by kernel_rfl) rfl rfl hS (YH.val (v := (.pointer (some ⟨b2267, 0, none⟩))) (fun w' hS' => x_fieldAddr (fsz := 1) 0 0 0 Try.underlying48 rfl Try_T2 rfl f2326 rfl)) ?_
                have hS := (hL.sel [0, 1, 3, 4, 5] (by decide) rfl)
                refine DH.take 2 rfl (by kernel_rfl) (by kernel_rfl) (by kernel_rfl) rfl rfl hS (YH.val (v := (.int .i64 x2259.Race)) (fun w' hS' => x_load1 Try.underlying2 rfl rfl (hS'.cellB 1 rfl rfl))) ?_
                have hS := (hL.sel [0, 1, 3, 4, 5] (by decide) rfl)
                obtain ⟨x2360, ha2361, hm⟩ := bndE hm
                obtain ⟨hz2362, ha2370⟩ := idxE ha2361
                obtain ⟨b2363, q2364, v2365, hix2366, hs2367, hc2368, hr2369⟩ := rdN_at ho2331.1.rdL hz2362 ha2370
                refine DH.take 3 rfl (by kernel_rfl) (by kernel_rfl) (by kernel_rfl) rfl rfl hS (YH.val (v := (.pointer (some ⟨b2363, q2364, none⟩))) (fun w' hS' => x_ix Try.underlying29 Try_T46 rfl rfl hix2366)) ?_
                have hS := (hL.sel [0, 1, 3, 4, 5] (by decide) rfl)
                refine DH.take 4 rfl (by kernel_rfl) (by kernel_rfl) (by kernel_rfl) rfl rfl hS (YH.val (v := (.pointer (some ⟨b2363, q2364, none⟩))) (fun w' hS' => x_fieldAddr (fsz := 1) q2364 0 q2364 Try.underlying46 rfl Try_T44 rfl rfl rfl)) ?_
                have hS := (hL.sel [0, 1, 3, 4, 5] (by decide) rfl)
                refine DH.take 6 rfl (by kernel_rfl) (by kernel_rfl) (by kernel_rfl) rfl rfl hS (YH.val (v := (.pointer (some ⟨b2267, 1, none⟩))) (fun w' hS' => x_fieldAddr (fsz := 1) 0 1 1 Try.underlying48 rfl Try_T2 rfl f2326 rfl)) ?_
                have hS := (hL.sel [0, 1, 3, 4, 5] (by decide) rfl)
                refine DH.take 7 rfl (by kernel_rfl) (by kernel_rfl) (by kernel_rfl) rfl rfl hS (YH.val (v := (.int .i64 x2259.Boat)) (fun w' hS' => x_load1 Try.underlying2 rfl rfl (hS'.cellB 1 rfl rfl))) ?_
                have hS := (hL.sel [0, 1, 3, 4, 5] (by decide) rfl)
                refine DH.take 8 rfl (by kernel_rfl) (by kernel_rfl) (by kernel_rfl) rfl rfl hS (YH.val (v := (.pointer (some ⟨b2311, 2, none⟩))) (fun w' hS' => x_fieldAddr (fsz := 1) 0 2 2 Try.underlying50 rfl Try_T2 rfl f2327 rfl)) ?_
                have hS := (hL.sel [0, 1, 3, 4, 5] (by decide) rfl)
                refine DH.take 9 rfl (by kernel_rfl) (by kernel_rfl) (by kernel_rfl) rfl rfl hS (YH.val (v := (.int .i64 x2303.Time)) (fun w' hS' => x_load1 Try.underlying2 rfl rfl (hS'.cellB 0 rfl rfl))) ?_
                have hS := (hL.sel [0, 1, 3, 4, 5] (by decide) rfl)
                refine DH.take 10 rfl (by kernel_rfl) (by kernel_rfl) (by kernel_rfl) rfl rfl hS (YH.val (v := (.pointer (some ⟨b2267, 3, none⟩))) (fun w' hS' => x_fieldAddr (fsz := 1) 0 3 3 Try.underlying48 rfl Try_T2 rfl f2326 rfl)) ?_
                have hS := (hL.sel [0, 1, 3, 4, 5] (by decide) rfl)
                refine DH.take 11 rfl (by kernel_rfl) (by kernel_rfl) (by kernel_rfl) rfl rfl hS (YH.val (v := (.int .i64 x2259.Value)) (fun w' hS' => x_load1 Try.underlying2 rfl rfl (hS'.cellB 1 rfl rfl))) ?_
                have hS := (hL.sel [0, 1, 3, 4, 5] (by decide) rfl)
                refine DH.take 12 rfl (by kernel_rfl) (by kernel_rfl) (by kernel_rfl) rfl rfl hS (YH.val (v := (.int .i64 (w64 (x2303.Time + x2259.Value)))) (fun w' hS' => x_add rfl rfl)) ?_
                have hS := (hL.sel [0, 1, 3, 4, 5] (by decide) rfl)
                refine DH.take 13 rfl (by kernel_rfl) (by kernel_rfl) (by kernel_rfl) rfl rfl hS (YH.val (v := (.int .i64 (min 1000000000 (w64 (x2303.Time + x2259.Value))))) (fun w' hS' => x_min2 rfl rfl)) ?_
                refine DH.only 5 rfl (by kernel_rfl) (OP.val (v := v2365) rfl (x_load1 Try.underlying44 rfl rfl (hL.cellF 2 rfl hs2367 hc2368)) ?_)
                refine ⟨(hL.sel [0, 1, 3, 4, 5] (by decide) rfl), ?_⟩
                have hS := (hL.sel [0, 1, 3, 4, 5] (by decide) rfl)
                obtain ⟨x2371, ha2372, hm⟩ := bndE hm
                obtain ⟨hz2373, ha2377⟩ := idxE ha2372
                obtain ⟨b2374, q2375, hix2376⟩ := rdL_ix (hL.rdF 2 rfl hr2369) hz2373 ha2377
                refine DH.take 14 rfl (by kernel_rfl) (by kernel_rfl) (by kernel_rfl) rfl rfl hS (YH.val (v := (.pointer (some ⟨b2374, q2375, none⟩))) (fun w' hS' => x_ix Try.underlying44 Try_T50 rfl rfl hix2376)) ?_
                have hS := (hL.sel [0, 1, 3, 4, 5] (by decide) rfl)
                refine DH.take 15 rfl (by kernel_rfl) (by kernel_rfl) (by kernel_rfl) rfl rfl hS (YH.val (v := (.pointer (some ⟨b2374, q2375 + 2, none⟩))) (fun w' hS' => x_fieldAddr (fsz := 1) q2375 2 (q2375 + 2) Try.underlying50 rfl Try_T2 rfl rfl rfl)) ?_
                have hc2379 := hL.cellF 2 rfl hs2367 hc2368
                have hL := hL.thaw 2 rfl ho2331
                simp only [lC, lD] at hL
                refine DH.only 16 rfl (by kernel_rfl) (S_inRowC (α := Finish) (x2360.Finishes.set (x2259.Boat : Int).toNat (Finish.mk x2371.Boat x2371.Code (min 1000000000 (w64 (x2303.Time + x2259.Value))))) (Race.mk (x2360.Finishes.set (x2259.Boat : Int).toNat (Finish.mk x2371.Boat x2371.Code (min 1000000000 (w64 (x2303.Time + x2259.Value)))))) rfl hL 2 rfl hix2366 ha2370 hc2379 (fun E2 S1 hL hK => S_storeX (j := 2) (Finish.mk x2371.Boat x2371.Code (min 1000000000 (w64 (x2303.Time + x2259.Value)))) hL 0 rfl Try_T2 hix2376 ha2377 rfl rfl rfl rfl rfl rfl hK) ?_)
                intro wd2378 S2380 hL hc2381 ha2382
                simp only [lC, lD] at hL
                obtain ⟨wz2383, hL, ho2384, hs2385, hc2386, hr2387⟩ := hL.freezeAt (α := Finish) 2 rfl hix2366 ha2382 hc2381
                simp only [lC, lD] at hL
                refine ⟨(hL.sel [0, 1, 3, 4, 5] (by decide) rfl), ?_⟩
                refine DH.done (by kernel_rfl) ?_
                have hL := hL.thaw 2 rfl ho2384
                have hL := hL.sel [2, 3, 4, 5] (by decide) rfl
                exact ⟨s_l2.1.set (x2259.Race : Int).toNat (Race.mk (x2360.Finishes.set (x2259.Boat : Int).toNat (Finish.mk x2371.Boat x2371.Code (min 1000000000 (w64 (x2303.Time + x2259.Value)))))), hm, ⟨S2380, f2321, f2322, f2323, f2324, f2325, hL⟩⟩
              · refine CW.skip ?_
                have hL := hL.sel [2, 3, 4, 5] (by decide) rfl
                exact ⟨s_l2.1, hm, ⟨S1210, f2321, f2322, f2323, f2324, f2325, hL⟩⟩
          · intro s_j4 F2252 wd2253 hJ hm
            unfold M.spec_l21Series_j4 at hm
            obtain ⟨S2251, f2254, f2255, f2256, f2257, f2258, hL⟩ := hJ
            exact ⟨s_j4, hm, ⟨S2251, f2254, f2255, f2256, f2257, f2258, hL⟩⟩
        · intro s_j3 F2109 wd2110 hJ hm
          unfold M.spec_l21Series_j3 at hm
          obtain ⟨S2108, f2111, f2112, f2113, f2114, f2115, hL⟩ := hJ
          refine CW.regionL ?_
          refine OW.cons (OP.val (v := (.int .i64 s_l2.2)) rfl (x_mv f2115) ?_)
          refine OW.cons (OP.val (v := (.int .i64 (w64 (s_l2.2 + 1)))) rfl (x_add rfl rfl) ?_)
          refine OW.cons (OP.val (v := (.int .i64 (w64 (s_l2.2 + 1)))) rfl (x_assign) ?_)
          refine OW.nil ?_
          obtain rfl := Option.some.inj hm
          exact ⟨_, rfl, ⟨S2108, f2111, f2112, f2113, f2114, rfl, hL⟩⟩
      · refine CW.exit ?_
        refine XJ.hit ?_
        obtain rfl := Option.some.inj hm
        exact ⟨_, rfl, ⟨S1210, f1824, f1825, f1826, f1827, f1828, hL⟩⟩
  · intro s_l1 F2394 wd2395 t68 hJ hm hr69
    unfold M.spec_l21Series_l1 at hm
    obtain ⟨v66, S67, f2396, f2397, f2398, f2399, f2400, hL⟩ := hJ
    refine CW.seq ?_
    refine CW.seq ?_
    refine CW.regionL ?_
    refine OW.cons (OP.val (v := (.int .i64 s_l1.2)) rfl (x_mv f2400) ?_)
    refine OW.cons (OP.val (v := (.pointer (some ⟨b6, 2, none⟩))) rfl (x_fieldAddr (fsz := 1) 0 2 2 Try.underlying31 rfl Try_T29 rfl f2397 rfl) ?_)
    refine OW.cons (OP.val (v := v1) rfl (x_load1 Try.underlying29 rfl rfl (hL.cellB 2 rfl rfl)) ?_)
    refine OW.cons (OP.val (v := (.int .i64 (a0.Races.length : Int))) rfl (x_lenR Try.underlying29 rfl (hL.rdS 3 rfl h2)) ?_)
    refine OW.cons (OP.val (v := (.bool (decide (s_l1.2 < (a0.Races.length : Int))))) rfl (x_lss rfl rfl) ?_)
    refine OW.nil ?_
    refine CW.condM (t := decide (s_l1.2 < (a0.Races.length : Int))) rfl hm (fun hb2401 hm => ?_) (fun hb2401 hm => ?_)
    · refine CW.skip ?_
      refine CW.seq ?_
      refine CW.block ?_
      refine CW.regionL ?_
      refine OW.cons (OP.val (v := v66) rfl (x_mv f2399) ?_)
      refine OW.cons (S_lit ([] : List Finish) hL Try.underlying44 Try_T50 rfl (by decide) (by first | (simp [Instr.fill, madeCells, Value.cells, ev, upd, Flat.enc, Flat.sz]; done) | rfl | kernel_rfl) rfl rfl ?_)
      intro wd2402 v2403 S2404 hL
      refine OW.cons (OP.val (v := (.pointer (some ⟨b6, 2, none⟩))) rfl (x_fieldAddr (fsz := 1) 0 2 2 Try.underlying31 rfl Try_T29 rfl f2397 rfl) ?_)
      refine OW.cons (OP.val (v := v1) rfl (x_load1 Try.underlying29 rfl rfl (hL.cellB 3 rfl rfl)) ?_)
      refine OW.cons (OP.val (v := (.int .i64 s_l1.2)) rfl (x_mv f2400) ?_)
      obtain ⟨x2405, ha2406, hm⟩ := bndE hm
      obtain ⟨hz2407, ha2415⟩ := idxE ha2406
      obtain ⟨b2408, q2409, v2410, hix2411, hs2412, hc2413, hr2414⟩ := rdN_at h2 hz2407 ha2415
      refine OW.cons (OP.val (v := (.pointer (some ⟨b2408, q2409, none⟩))) rfl (x_ix Try.underlying29 Try_T46 rfl rfl hix2411) ?_)
      refine OW.cons (OP.val (v := (.pointer (some ⟨b2408, q2409, none⟩))) rfl (x_fieldAddr (fsz := 1) q2409 0 q2409 Try.underlying46 rfl Try_T44 rfl rfl rfl) ?_)
      refine OW.cons (OP.val (v := v2410) rfl (x_load1 Try.underlying44 rfl rfl (hL.cellS 4 rfl hs2412 hc2413)) ?_)
      obtain ⟨hc2419, hm⟩ := chkE hm
      refine OW.cons (S_append (ys := x2405.Finishes) hL 0 rfl Try.underlying44 Try_T50 rfl rfl rfl (hL.rdS 4 rfl hr2414) hc2419 (by decide) rfl ?_)
      intro wd2416 v2417 S2418 hL
      refine OW.cons (OP.val (v := (.agg #[v2417])) rfl (x_build Try_B46 (ps := [(0, v2417)]) ⟨⟨rfl, rfl⟩, trivial⟩ (by simp [Instr.fill, cells_int, cells_bool, cells_string, cells_agg, cells_slice, cells_pointer, (rdL_cells (hL.rdO 0 rfl))])) ?_)
      refine OW.cons (S_lit1 (Race.mk (([] : List Finish) ++ x2405.Finishes)) rfl hL Try.underlying29 Try_T46 rfl rfl ?_)
      intro wd2420 v2421 S2422 hL
      obtain ⟨hc2426, hm⟩ := chkE hm
      have hL := hL.sel [1, 0, 2, 3, 4] (by decide) rfl
      refine OW.cons (S_appendN Finish hL Try.underlying29 Try_T46 rfl rfl rfl hc2426 (by decide) rfl ?_)
      intro wd2423 v2424 S2425 hL
      refine OW.cons (OP.val (v := v2424) rfl (x_assign) ?_)
      refine OW.nil ?_
      refine CW.regionL ?_
      refine OW.cons (OP.val (v := (.int .i64 s_l1.2)) rfl (x_mv f2400) ?_)
      refine OW.cons (OP.val (v := (.int .i64 (w64 (s_l1.2 + 1)))) rfl (x_add rfl rfl) ?_)
      refine OW.cons (OP.val (v := (.int .i64 (w64 (s_l1.2 + 1)))) rfl (x_assign) ?_)
      refine OW.nil ?_
      obtain rfl := Option.some.inj hm
      exact ⟨_, rfl, ⟨v2424, S2425, f2396, f2397, f2398, rfl, rfl, hL⟩⟩
    · refine CW.exit ?_
      refine XJ.hit ?_
      obtain rfl := Option.some.inj hm
      exact ⟨_, rfl, ⟨v66, S67, f2396, f2397, f2398, f2399, f2400, hL⟩⟩

theorem M.spec_PenalizedSeries_ok (w0 : World) (a0 : Series) {v1 : Value} (h2 : rdL (· < w0.heap.size) w0 v1 a0.Races) (a1 : List Penalty) {v3 : Value} (h4 : rdL (· < w0.heap.size) w0 v3 a1) {r : Series × Int} (hm : M.spec_PenalizedSeries a0 a1 = some r) :
    Calls Try.prog 19 #[(.agg #[(.int .i64 a0.Boats), (.int .i64 a0.Scheme), v1]), v3] w0 fun e w' => ∃ (rv0 : Value) (rS0 : Nat → Prop), e = .returned (.tuple #[(.agg #[(.int .i64 r.1.Boats), (.int .i64 r.1.Scheme), rv0]), (.int .i64 r.2)]) ∧ Fresh w0 w' [Ent.own 46 rS0 rv0 r.1.Races] := by
  unfold M.spec_PenalizedSeries at hm
  refine calls_CW (args := [(.agg #[(.int .i64 a0.Boats), (.int .i64 a0.Scheme), v1]), v3]) Try.func19 rfl rfl rfl ?_
  have hL := Hp.start w0
  refine CW.seq ?_
  refine CW.regionL ?_
  refine OW.cons (S_box (cs := #[(.int .i64 a0.Boats), (.int .i64 a0.Scheme), v1]) hL rfl rfl rfl ?_)
  intro wd5 b6 hL
  refine OW.cons (S_alloc (cs := #[(.int .i64 0), (.int .i64 0), (.slice none 0 0)]) hL Try_T31 rfl rfl ?_)
  intro wd7 b8 hL
  refine OW.cons (OP.val (v := (.int .i64 0)) rfl (x_assign) ?_)
  refine OW.nil ?_
  refine CW.seq ?_
  refine CW.regionL ?_
  refine OW.cons (OP.val (v := (.agg #[(.int .i64 a0.Boats), (.int .i64 a0.Scheme), v1])) rfl (x_loadN (cs := [(.int .i64 a0.Boats), (.int .i64 a0.Scheme), v1]) Try.underlying31 Try_T31 rfl rfl (hL.cellsB 1 rfl (o := 0) (l := [(.int .i64 a0.Boats), (.int .i64 a0.Scheme), v1]) (by intro j u hj; exact (by simpa using hj)))) ?_)
  refine OW.cons (OP.val (v := v3) rfl (x_move) ?_)
  obtain ⟨x9, hx10, hm⟩ := bndE hm
  refine OW.cons (OP.call rfl (x_call (vs := [(.agg #[(.int .i64 a0.Boats), (.int .i64 a0.Scheme), v1]), v3]) Try_C45 ⟨rfl, rfl, trivial⟩) (M.spec_l21Result_ok _ a0 (hL.rdS 2 rfl h2) a1 (hL.rdS 2 rfl h4) hx10) ?_)
  rintro e11 wd12 ⟨rfl, hF13⟩
  refine ⟨_, rfl, ?_⟩
  have hL := hL.pushAll hF13
  simp only [lA, lB, lC, lD] at hL
  refine OW.cons (OP.val (v := (.int .i64 x9)) rfl (x_assign) ?_)
  refine OW.nil ?_
  refine CW.seq ?_
  refine CW.seq ?_
  refine CW.regionL ?_
  refine OW.cons (OP.val (v := (.int .i64 x9)) rfl (x_move) ?_)
  refine OW.cons (OP.val (v := (.bool (x9 != 0))) rfl (x_neq rfl rfl) ?_)
  refine OW.nil ?_
  refine CW.condM (t := x9 != 0) rfl hm (fun hb14 hm => ?_) (fun hb14 hm => ?_)
  · refine CW.seq ?_
    refine CW.regionL ?_
    refine OW.cons (OP.val (v := (.agg #[(.int .i64 0), (.int .i64 0), (.slice none 0 0)])) rfl (x_build Try_B31 (ps := []) trivial (by simp [Instr.fill, cells_int, cells_bool, cells_string, cells_agg, cells_slice, cells_pointer])) ?_)
    refine OW.cons (OP.val (v := (.int .i64 x9)) rfl (x_move) ?_)
    refine OW.cons (S_storeN (l := [(.int .i64 0), (.int .i64 0), (.slice none 0 0)]) (cs' := #[(.int .i64 0), (.int .i64 0), (.slice none 0 0)]) hL 0 rfl Try_T31 rfl rfl (List.forall_mem_cons.2 ⟨rfl, (List.forall_mem_cons.2 ⟨rfl, (List.forall_mem_cons.2 ⟨rfl, (fun _ h => by cases h)⟩)⟩)⟩) rfl (Nat.le_of_ble_eq_true rfl) rfl ?_)
    intro wd15 hL
    refine OW.cons (OP.val (v := (.int .i64 x9)) rfl (x_assign) ?_)
    refine OW.nil ?_
    refine CW.ret ?_
    have hL := hL.pushNil Race 46
    obtain rfl := Option.some.inj hm
    exact RRct rfl rfl (run_loadBlk Try.underlying31 Try_T31 (hL.get 1 rfl) rfl) rfl ⟨(.slice none 0 0), None_, rfl, hL.fresh 3 rfl [0] (by decide) (by decide) rfl⟩
  · refine CW.skip ?_
    refine CW.seq ?_
    refine CW.regionL ?_
    refine OW.cons (OP.val (v := (.agg #[(.int .i64 a0.Boats), (.int .i64 a0.Scheme), v1])) rfl (x_loadN (cs := [(.int .i64 a0.Boats), (.int .i64 a0.Scheme), v1]) Try.underlying31 Try_T31 rfl rfl (hL.cellsB 1 rfl (o := 0) (l := [(.int .i64 a0.Boats), (.int .i64 a0.Scheme), v1]) (by intro j u hj; exact (by simpa using hj)))) ?_)
    refine OW.cons (OP.val (v := v3) rfl (x_move) ?_)
    obtain ⟨x16, hx17, hm⟩ := bndE hm
    refine OW.cons (OP.call rfl (x_call (vs := [(.agg #[(.int .i64 a0.Boats), (.int .i64 a0.Scheme), v1]), v3]) Try_C46 ⟨rfl, rfl, trivial⟩) (M.spec_l21Series_ok _ a0 (hL.rdS 2 rfl h2) a1 (hL.rdS 2 rfl h4) hx17) ?_)
    rintro e20 wd21 ⟨v19, S18, rfl, hF22⟩
    refine ⟨_, rfl, ?_⟩
    have hL := hL.pushAll hF22
    simp only [lA, lB, lC, lD] at hL
    refine OW.cons (S_storeN (l := [(.int .i64 x16.Boats), (.int .i64 x16.Scheme), v19]) (cs' := #[(.int .i64 x16.Boats), (.int .i64 x16.Scheme), v19]) hL 1 rfl Try_T31 rfl rfl (List.forall_mem_cons.2 ⟨rfl, (List.forall_mem_cons.2 ⟨rfl, (List.forall_mem_cons.2 ⟨rdL_one (hL.rdO 0 rfl), (fun _ h => by cases h)⟩)⟩)⟩) rfl (Nat.le_of_ble_eq_true rfl) rfl ?_)
    intro wd23 hL
    refine OW.cons (OP.val (v := (.int .i64 0)) rfl (x_assign) ?_)
    refine OW.nil ?_
    refine CW.ret ?_
    obtain rfl := Option.some.inj hm
    exact RRct rfl rfl (run_loadBlk Try.underlying31 Try_T31 (hL.get 1 rfl) rfl) rfl ⟨v19, S18, rfl, hL.fresh 3 rfl [0] (by decide) (by decide) rfl⟩

theorem M.spec_DrawPenalizedTable_ok (w0 : World) (a0 : List UInt8) {v1 : Value} (h2 : rdL (· < w0.heap.size) w0 v1 a0) {r : Series × (List Penalty)} (hm : M.spec_DrawPenalizedTable a0 = some r) :
    Calls Try.prog 25 #[v1] w0 fun e w' => ∃ (rv0 : Value) (rS0 : Nat → Prop), ∃ (rv1 : Value) (rS1 : Nat → Prop), e = .returned (.tuple #[(.agg #[(.int .i64 r.1.Boats), (.int .i64 r.1.Scheme), rv0]), rv1]) ∧ Fresh w0 w' [Ent.own 46 rS0 rv0 r.1.Races, Ent.own 48 rS1 rv1 r.2] := by
  unfold M.spec_DrawPenalizedTable at hm
  refine calls_CW (args := [v1]) Try.func25 rfl rfl rfl ?_
  have hL := Hp.start w0
  refine CW.seq ?_
  refine CW.regionL ?_
  refine OW.cons (S_alloc (cs := #[(.int .i64 0), (.int .i64 0), (.slice none 0 0)]) hL Try_T31 rfl rfl ?_)
  intro wd3 b4 hL
  refine OW.cons (OP.val (v := (.slice none 0 0)) rfl (x_assign) ?_)
  refine OW.nil ?_
  refine CW.seq ?_
  refine CW.regionL ?_
  refine OW.cons (OP.val (v := v1) rfl (x_move) ?_)
  obtain ⟨x5, hx6, hm⟩ := bndE hm
  refine OW.cons (OP.call rfl (x_call (vs := [v1]) Try_C42 ⟨rfl, trivial⟩) (M.spec_l01From_ok _ a0 (hL.rdS 1 rfl h2) hx6) ?_)
  rintro e8 wd9 ⟨b7, rfl, hF10⟩
  refine ⟨_, rfl, ?_⟩
  have hL := hL.pushAll hF10
  simp only [lA, lB, lC, lD] at hL
  obtain ⟨x11, hx12, hm⟩ := bndE hm
  refine OW.cons (OP.call rfl (x_call (vs := [(.pointer (some ⟨b7, 0, none⟩))]) Try_C41 ⟨rfl, trivial⟩) (M.spec_l21Draw_ok _ (Src.mk a0 x5.1 x5.2) (hL.exS 2 0 (by decide) rfl rfl h2) (hL.get 0 rfl) hx12) ?_)
  rintro e17 wd18 ⟨v14, S13, v16, S15, rfl, hF19⟩
  refine ⟨_, rfl, ?_⟩
  have hL := hL.mut 0 rfl hF19
  simp only [lA, lB, lC, lD] at hL
  refine OW.cons (OP.val (v := (.agg #[(.int .i64 x11.1.1.Boats), (.int .i64 x11.1.1.Scheme), v14])) rfl (x_extract rfl rfl) ?_)
  refine OW.cons (OP.val (v := v16) rfl (x_extract rfl rfl) ?_)
  refine OW.cons (S_storeN (l := [(.int .i64 x11.1.1.Boats), (.int .i64 x11.1.1.Scheme), v14]) (cs' := #[(.int .i64 x11.1.1.Boats), (.int .i64 x11.1.1.Scheme), v14]) hL 3 rfl Try_T31 rfl rfl (List.forall_mem_cons.2 ⟨rfl, (List.forall_mem_cons.2 ⟨rfl, (List.forall_mem_cons.2 ⟨rdL_one (hL.rdO 0 rfl), (fun _ h => by cases h)⟩)⟩)⟩) rfl (Nat.le_of_ble_eq_true rfl) rfl ?_)
  intro wd20 hL
  refine OW.cons (OP.val (v := v16) rfl (x_assign) ?_)
  refine OW.nil ?_
  refine CW.ret ?_
  obtain rfl := Option.some.inj hm
  exact RRct rfl rfl (run_loadBlk Try.underlying31 Try_T31 (hL.get 3 rfl) rfl) rfl ⟨v14, S13, v16, S15, rfl, hL.fresh 4 rfl [0, 1] (by decide) (by decide) rfl⟩

theorem M.impl_placesOf_ok (w0 : World) (a0 : List Finish) {v1 : Value} (h2 : rdL (· < w0.heap.size) w0 v1 a0) {r : (List Int) × (List Int)} (hm : M.impl_placesOf a0 = some r) :
    Calls Try.prog 95 #[v1] w0 fun e w' => ∃ (rv0 : Value) (rS0 : Nat → Prop), ∃ (rv1 : Value) (rS1 : Nat → Prop), e = .returned (.tuple #[rv0, rv1]) ∧ Fresh w0 w' [Ent.own 2 rS0 rv0 r.1, Ent.own 2 rS1 rv1 r.2] := by
  unfold M.impl_placesOf at hm
  refine calls_CW (args := [v1]) Try.func95 rfl rfl rfl ?_
  have hL := Hp.start w0
  refine CW.seq ?_
  refine CW.regionL ?_
  refine OW.cons (OP.val (v := (.slice none 0 0)) rfl (x_assign) ?_)
  refine OW.cons (OP.val (v := (.slice none 0 0)) rfl (x_assign) ?_)
  refine OW.nil ?_
  refine CW.seq ?_
  refine CW.drawH (fun w' => Hp w0 [Ent.snap w0 w0.heap.size] w') Try_mixed ?_
  have hL := hL.call (Mod.drew _)
  have hS := (hL.sel [0] (by decide) rfl)
  refine DH.take 0 rfl (by kernel_rfl) (by kernel_rfl) (by kernel_rfl) rfl rfl hS (YH.val (v := v1) (fun w' hS' => x_move)) ?_
  have hS := (hL.sel [0] (by decide) rfl)
  refine DH.take 1 rfl (by kernel_rfl) (by kernel_rfl) (by kernel_rfl) rfl rfl hS (YH.val (v := (.int .i64 (a0.length : Int))) (fun w' hS' => x_lenW Try.underlying44 rfl (subV_len (hL.rdS 0 rfl h2)))) ?_
  have hS := (hL.sel [0] (by decide) rfl)
  refine DH.take 3 rfl (by kernel_rfl) (by kernel_rfl) (by kernel_rfl) rfl rfl hS (YH.val (v := v1) (fun w' hS' => x_move)) ?_
  have hS := (hL.sel [0] (by decide) rfl)
  refine DH.take 4 rfl (by kernel_rfl) (by kernel_rfl) (by kernel_rfl) rfl rfl hS (YH.val (v := (.int .i64 (a0.length : Int))) (fun w' hS' => x_lenW Try.underlying44 rfl (subV_len (hL.rdS 0 rfl h2)))) ?_
  obtain ⟨hc14, hm⟩ := chkE hm
  obtain ⟨hc18, hm⟩ := chkE hm
  refine DH.node (listed' := #[true, true, true, true, true, true, true, true]) (fuel' := 0) (fun (F : Fr) (w : World) => ∃ (v34 : Value) (S35 : Nat → Prop) (v36 : Value) (S37 : Nat → Prop), F 0 = v1 ∧ F 2 = (.slice none 0 0) ∧ F 3 = (.slice none 0 0) ∧ F 4 = v36 ∧ F 5 = v34 ∧ Hp w0 [Ent.own 2 S35 v34 (List.replicate ((a0.length : Int)).toNat (0 : Int)), Ent.own 2 S37 v36 (List.replicate ((a0.length : Int)).toNat (0 : Int)), Ent.snap w0 w0.heap.size] w) ?_ (fun hN31 => ?_)
  · intro F42 wd43 hJ
    obtain ⟨v34, S35, v36, S37, f44, f45, f46, f47, f48, hL⟩ := hJ
    refine DH.done (by kernel_rfl) ?_
    refine CW.seq ?_
    refine CW.seq ?_
    refine CW.regionL ?_
    refine OW.cons (OP.val (v := v1) rfl (x_mv f44) ?_)
    refine OW.cons (OP.val (v := (.int .i64 (a0.length : Int))) rfl (x_lenR Try.underlying44 rfl (hL.rdS 2 rfl h2)) ?_)
    refine OW.cons (OP.val (v := (.int .i64 0)) rfl (x_move) ?_)
    refine OW.nil ?_
    obtain ⟨o8841, ho8842, hm⟩ := bndE hm
    refine CW.loopB (fun (s_l1 : (List Int) × (List Int) × Int) (F : Fr) (w : World) => ∃ (S8837 : Nat → Prop) (S8838 : Nat → Prop), F 0 = v1 ∧ F 4 = v36 ∧ F 5 = v34 ∧ F 16 = v1 ∧ F 17 = (.int .i64 (a0.length : Int)) ∧ F 18 = (.int .i64 s_l1.2.2) ∧ Hp w0 [Ent.own 2 S8838 v34 s_l1.2.1, Ent.own 2 S8837 v36 s_l1.1, Ent.snap w0 w0.heap.size] w) (fun o => outc o (fun x => some x) (fun s => M.impl_placesOf_a1 s) = some r) ho8842 hm ⟨S37, S35, f44, f47, f48, rfl, rfl, rfl, hL⟩ ?_ ?_
    · intro s_l1 F8843 wd8844 hJ hm
      have hm := outcE hm
      have hm : M.impl_placesOf_a1 s_l1 = some r := hm
      unfold M.impl_placesOf_a1 at hm
      obtain ⟨S8837, S8838, f8845, f8846, f8847, f8848, f8849, f8850, hL⟩ := hJ
      refine CW.seq ?_
      refine CW.regionL ?_
      refine OW.cons (OP.val (v := v36) rfl (x_mv f8846) ?_)
      refine OW.cons (OP.val (v := v34) rfl (x_mv f8847) ?_)
      refine OW.cons (OP.val (v := v36) rfl (x_assign) ?_)
      refine OW.cons (OP.val (v := v34) rfl (x_assign) ?_)
      refine OW.nil ?_
      refine CW.ret ?_
      obtain rfl := Option.some.inj hm
      exact RR2 rfl rfl rfl ⟨v36, S8837, v34, S8838, rfl, hL.fresh 2 rfl [1, 0] (by decide) (by decide) rfl⟩
    · intro s_l1 F8851 wd8852 t8839 hJ hm hr8840
      unfold M.impl_placesOf_l1 at hm
      obtain ⟨S8837, S8838, f8853, f8854, f8855, f8856, f8857, f8858, hL⟩ := hJ
      refine CW.seq ?_
      refine CW.regionL ?_
      refine OW.cons (OP.val (v := (.bool (decide (s_l1.2.2 < (a0.length : Int))))) rfl (x_lss f8858 f8857) ?_)
      refine OW.nil ?_
      refine CW.seq ?_
      refine CW.condM (t := decide (s_l1.2.2 < (a0.length : Int))) rfl hm (fun hb8859 hm => ?_) (fun hb8859 hm => ?_)
      · refine CW.skip ?_
        refine CW.seqJ (fun (s_j1 : (List Int) × (List Int)) (F : Fr) (w : World) => ∃ (S11052 : Nat → Prop) (S11053 : Nat → Prop), F 0 = v1 ∧ F 4 = v36 ∧ F 5 = v34 ∧ F 16 = v1 ∧ F 17 = (.int .i64 (a0.length : Int)) ∧ F 18 = (.int .i64 s_l1.2.2) ∧ Hp w0 [Ent.own 2 S11053 v34 s_j1.2, Ent.own 2 S11052 v36 s_j1.1, Ent.snap w0 w0.heap.size] w) (fun s_j1 => M.impl_placesOf_j1 s_l1 s_j1 = some t8839) ?_ ?_
        · refine CW.blockJ (fun (s_j2 : (List Int) × (List Int)) (F : Fr) (w : World) => ∃ (S12153 : Nat → Prop) (S12154 : Nat → Prop), F 0 = v1 ∧ F 4 = v36 ∧ F 5 = v34 ∧ F 16 = v1 ∧ F 17 = (.int .i64 (a0.length : Int)) ∧ F 18 = (.int .i64 s_l1.2.2) ∧ Hp w0 [Ent.own 2 S12154 v34 s_j2.2, Ent.own 2 S12153 v36 s_j2.1, Ent.snap w0 w0.heap.size] w) (fun s_j2 => M.impl_placesOf_j2 s_l1 s_j2 = some t8839) ?_ ?_
          · refine CW.seq ?_
            refine CW.regionL ?_
            refine OW.cons (OP.val (v := (.int .i64 s_l1.2.2)) rfl (x_mv f8858) ?_)
            obtain ⟨x12163, ha12164, hm⟩ := bndE hm
            obtain ⟨hz12165, ha12169⟩ := idxE ha12164
            obtain ⟨b12166, q12167, hix12168⟩ := rdL_ix (hL.rdS 2 rfl h2) hz12165 ha12169
            refine OW.cons (OP.val (v := (.pointer (some ⟨b12166, q12167, none⟩))) rfl (x_ix Try.underlying44 Try_T50 f8856 f8858 hix12168) ?_)
            refine OW.cons (OP.val (v := (.agg #[(.int .i64 x12163.Boat), (.int .i64 x12163.Code), (.int .i64 x12163.Time)])) rfl (x_loadN (cs := [(.int .i64 x12163.Boat), (.int .i64 x12163.Code), (.int .i64 x12163.Time)]) Try.underlying50 Try_T50 rfl rfl (rdF_cells (hL.rdS 2 rfl h2) hix12168 ha12169)) ?_)
            refine OW.cons (S_alloc (cs := #[(.int .i64 0), (.int .i64 0), (.int .i64 0)]) hL Try_T50 rfl rfl ?_)
            intro wd12170 b12171 hL
            refine OW.cons (OP.val (v := (.int .i64 s_l1.2.2)) rfl (x_assign) ?_)
            refine OW.cons (S_storeN (l := [(.int .i64 x12163.Boat), (.int .i64 x12163.Code), (.int .i64 x12163.Time)]) (cs' := #[(.int .i64 x12163.Boat), (.int .i64 x12163.Code), (.int .i64 x12163.Time)]) hL 0 rfl Try_T50 rfl rfl (List.forall_mem_cons.2 ⟨rfl, (List.forall_mem_cons.2 ⟨rfl, (List.forall_mem_cons.2 ⟨rfl, (fun _ h => by cases h)⟩)⟩)⟩) rfl (Nat.le_of_ble_eq_true rfl) rfl ?_)
            intro wd12172 hL
            refine OW.nil ?_
            refine CW.seq ?_
            refine CW.seq ?_
            refine CW.regionL ?_
            refine OW.cons (OP.val (v := (.pointer (some ⟨b12171, 1, none⟩))) rfl (x_fieldAddr (fsz := 1) 0 1 1 Try.underlying50 rfl Try_T2 rfl rfl rfl) ?_)
            refine OW.cons (OP.val (v := (.int .i64 x12163.Code)) rfl (x_load1 Try.underlying2 rfl rfl (hL.cellB 0 rfl rfl)) ?_)
            refine OW.cons (OP.val (v := (.bool (x12163.Code != 0))) rfl (x_neq rfl rfl) ?_)
            refine OW.nil ?_
            refine CW.condM (t := x12163.Code != 0) rfl hm (fun hb12173 hm => ?_) (fun hb12173 hm => ?_)
            · refine CW.exit ?_
              refine XJ.hit ?_
              have hL := hL.sel [1, 2, 3] (by decide) rfl
              exact ⟨(s_l1.1, s_l1.2.1), hm, ⟨S8837, S8838, f8853, f8854, f8855, f8856, f8857, f8858, hL⟩⟩
            · refine CW.skip ?_
              refine CW.seq ?_
              refine CW.regionL ?_
              refine OW.cons (OP.val (v := v36) rfl (x_mv f8854) ?_)
              refine OW.cons (OP.val (v := (.int .i64 s_l1.2.2)) rfl (x_move) ?_)
              obtain ⟨x12174, ha12175, hm⟩ := bndE hm
              obtain ⟨hz12176, ha12180⟩ := idxE ha12175
              obtain ⟨b12177, q12178, hix12179⟩ := rdL_ix (hL.rdO 2 rfl) hz12176 ha12180
              refine OW.cons (OP.val (v := (.pointer (some ⟨b12177, q12178, none⟩))) rfl (x_ix Try.underlying61 Try_T2 rfl rfl hix12179) ?_)
              refine OW.cons (S_storeX (j := 0) 1 hL 2 rfl Try_T2 hix12179 ha12180 rfl rfl rfl rfl rfl rfl ?_)
              intro wd12181 hL
              refine OW.nil ?_
              refine CW.seq ?_
              refine CW.regionL ?_
              refine OW.cons (OP.val (v := v1) rfl (x_mv f8853) ?_)
              refine OW.cons (OP.val (v := (.int .i64 (a0.length : Int))) rfl (x_lenR Try.underlying44 rfl (hL.rdS 3 rfl h2)) ?_)
              refine OW.cons (OP.val (v := (.int .i64 0)) rfl (x_move) ?_)
              refine OW.nil ?_
              obtain ⟨o12880, ho12881, hm⟩ := bndE hm
              refine CW.loopB (fun (s_l2 : (List Int) × (List Int) × Int) (F : Fr) (w : World) => ∃ (S12876 : Nat → Prop) (S12877 : Nat → Prop), F 0 = v1 ∧ F 4 = v36 ∧ F 5 = v34 ∧ F 6 = (.int .i64 s_l1.2.2) ∧ F 7 = (.pointer (some ⟨b12171, 0, none⟩)) ∧ F 16 = v1 ∧ F 17 = (.int .i64 (a0.length : Int)) ∧ F 18 = (.int .i64 s_l1.2.2) ∧ F 29 = v1 ∧ F 30 = (.int .i64 (a0.length : Int)) ∧ F 31 = (.int .i64 s_l2.2.2) ∧ Hp w0 [Ent.blk b12171 50 #[(.int .i64 x12163.Boat), (.int .i64 x12163.Code), (.int .i64 x12163.Time)], Ent.own 2 S12877 v34 s_l2.2.1, Ent.own 2 S12876 v36 s_l2.1, Ent.snap w0 w0.heap.size] w) (fun o => outc o (fun x => some (.ret x)) (fun s => M.impl_placesOf_a2 s_l1 s) = some t8839) ho12881 hm ⟨S8837, S8838, f8853, f8854, f8855, rfl, rfl, f8856, f8857, f8858, rfl, rfl, rfl, hL⟩ ?_ ?_
              · intro s_l2 F12882 wd12883 hJ hm
                have hm := outcE hm
                have hm : M.impl_placesOf_a2 s_l1 s_l2 = some t8839 := hm
                unfold M.impl_placesOf_a2 at hm
                obtain ⟨S12876, S12877, f12884, f12885, f12886, f12887, f12888, f12889, f12890, f12891, f12892, f12893, f12894, hL⟩ := hJ
                have hL := hL.sel [1, 2, 3] (by decide) rfl
                exact ⟨(s_l2.1, s_l2.2.1), hm, ⟨S12876, S12877, f12884, f12885, f12886, f12889, f12890, f12891, hL⟩⟩
              · intro s_l2 F12895 wd12896 t12878 hJ hm hr12879
                unfold M.impl_placesOf_l2 at hm
                obtain ⟨S12876, S12877, f12897, f12898, f12899, f12900, f12901, f12902, f12903, f12904, f12905, f12906, f12907, hL⟩ := hJ
                refine CW.seq ?_
                refine CW.regionL ?_
                refine OW.cons (OP.val (v := (.bool (decide (s_l2.2.2 < (a0.length : Int))))) rfl (x_lss f12907 f12906) ?_)
                refine OW.nil ?_
                refine CW.seq ?_
                refine CW.condM (t := decide (s_l2.2.2 < (a0.length : Int))) rfl hm (fun hb12908 hm => ?_) (fun hb12908 hm => ?_)
                · refine CW.skip ?_
                  refine CW.seqJ (fun (s_j3 : (List Int) × (List Int)) (F : Fr) (w : World) => ∃ (S13074 : Nat → Prop) (S13075 : Nat → Prop), F 0 = v1 ∧ F 4 = v36 ∧ F 5 = v34 ∧ F 6 = (.int .i64 s_l1.2.2) ∧ F 7 = (.pointer (some ⟨b12171, 0, none⟩)) ∧ F 16 = v1 ∧ F 17 = (.int .i64 (a0.length : Int)) ∧ F 18 = (.int .i64 s_l1.2.2) ∧ F 29 = v1 ∧ F 30 = (.int .i64 (a0.length : Int)) ∧ F 31 = (.int .i64 s_l2.2.2) ∧ Hp w0 [Ent.blk b12171 50 #[(.int .i64 x12163.Boat), (.int .i64 x12163.Code), (.int .i64 x12163.Time)], Ent.own 2 S13075 v34 s_j3.2, Ent.own 2 S13074 v36 s_j3.1, Ent.snap w0 w0.heap.size] w) (fun s_j3 => M.impl_placesOf_j3 s_l2 s_j3 = some t12878) ?_ ?_
                  · refine CW.blockJ (fun (s_j4 : (List Int) × (List Int)) (F : Fr) (w : World) => ∃ (S13164 : Nat → Prop) (S13165 : Nat → Prop), F 0 = v1 ∧ F 4 = v36 ∧ F 5 = v34 ∧ F 6 = (.int .i64 s_l1.2.2) ∧ F 7 = (.pointer (some ⟨b12171, 0, none⟩)) ∧ F 16 = v1 ∧ F 17 = (.int .i64 (a0.length : Int)) ∧ F 18 = (.int .i64 s_l1.2.2) ∧ F 29 = v1 ∧ F 30 = (.int .i64 (a0.length : Int)) ∧ F 31 = (.int .i64 s_l2.2.2) ∧ Hp w0 [Ent.blk b12171 50 #[(.int .i64 x12163.Boat), (.int .i64 x12163.Code), (.int .i64 x12163.Time)], Ent.own 2 S13165 v34 s_j4.2, Ent.own 2 S13164 v36 s_j4.1, Ent.snap w0 w0.heap.size] w) (fun s_j4 => M.impl_placesOf_j4 s_l2 s_j4 = some t12878) ?_ ?_
                    · refine CW.seq ?_
                      refine CW.regionL ?_
                      obtain ⟨x13179, ha13180, hm⟩ := bndE hm
                      obtain ⟨hz13181, ha13185⟩ := idxE ha13180
                      obtain ⟨b13182, q13183, hix13184⟩ := rdL_ix (hL.rdS 3 rfl h2) hz13181 ha13185
                      refine OW.cons (OP.val (v := (.pointer (some ⟨b13182, q13183, none⟩))) rfl (x_ix Try.underlying44 Try_T50 f12905 f12907 hix13184) ?_)
                      refine OW.cons (OP.val (v := (.agg #[(.int .i64 x13179.Boat), (.int .i64 x13179.Code), (.int .i64 x13179.Time)])) rfl (x_loadN (cs := [(.int .i64 x13179.Boat), (.int .i64 x13179.Code), (.int .i64 x13179.Time)]) Try.underlying50 Try_T50 rfl rfl (rdF_cells (hL.rdS 3 rfl h2) hix13184 ha13185)) ?_)
                      refine OW.cons (S_alloc (cs := #[(.int .i64 0), (.int .i64 0), (.int .i64 0)]) hL Try_T50 rfl rfl ?_)
                      intro wd13186 b13187 hL
                      refine OW.cons (S_storeN (l := [(.int .i64 x13179.Boat), (.int .i64 x13179.Code), (.int .i64 x13179.Time)]) (cs' := #[(.int .i64 x13179.Boat), (.int .i64 x13179.Code), (.int .i64 x13179.Time)]) hL 0 rfl Try_T50 rfl rfl (List.forall_mem_cons.2 ⟨rfl, (List.forall_mem_cons.2 ⟨rfl, (List.forall_mem_cons.2 ⟨rfl, (fun _ h => by cases h)⟩)⟩)⟩) rfl (Nat.le_of_ble_eq_true rfl) rfl ?_)
                      intro wd13188 hL
                      refine OW.nil ?_
                      refine CW.seqJ (fun (s_j5 : Bool) (F : Fr) (w : World) => F 0 = v1 ∧ F 4 = v36 ∧ F 5 = v34 ∧ F 6 = (.int .i64 s_l1.2.2) ∧ F 7 = (.pointer (some ⟨b12171, 0, none⟩)) ∧ F 9 = (.pointer (some ⟨b13187, 0, none⟩)) ∧ F 16 = v1 ∧ F 17 = (.int .i64 (a0.length : Int)) ∧ F 18 = (.int .i64 s_l1.2.2) ∧ F 29 = v1 ∧ F 30 = (.int .i64 (a0.length : Int)) ∧ F 31 = (.int .i64 s_l2.2.2) ∧ F 44 = (.bool s_j5) ∧ Hp w0 [Ent.blk b13187 50 #[(.int .i64 x13179.Boat), (.int .i64 x13179.Code), (.int .i64 x13179.Time)], Ent.blk b12171 50 #[(.int .i64 x12163.Boat), (.int .i64 x12163.Code), (.int .i64 x12163.Time)], Ent.own 2 S12877 v34 s_l2.2.1, Ent.own 2 S12876 v36 s_l2.1, Ent.snap w0 w0.heap.size] w) (fun s_j5 => M.impl_placesOf_j5 s_l1 x12163 s_l2 x13179 s_j5 = some t12878) ?_ ?_
                      · refine CW.regionL ?_
                        refine OW.cons (OP.val (v := (.pointer (some ⟨b13187, 1, none⟩))) rfl (x_fieldAddr (fsz := 1) 0 1 1 Try.underlying50 rfl Try_T2 rfl rfl rfl) ?_)
                        refine OW.cons (OP.val (v := (.int .i64 x13179.Code)) rfl (x_load1 Try.underlying2 rfl rfl (hL.cellB 0 rfl rfl)) ?_)
                        refine OW.cons (OP.val (v := (.bool (x13179.Code == 0))) rfl (x_eql rfl rfl) ?_)
                        refine OW.cons (OP.val (v := (.bool (x13179.Code == 0))) rfl (x_move) ?_)
                        refine ifB_elim hm (fun hb13253 hm => ?_) (fun hb13253 hm => ?_)
                        · refine OW.cons (OP.yes' rfl rfl hb13253 (OP.val (v := (.pointer (some ⟨b13187, 2, none⟩))) rfl (x_fieldAddr (fsz := 1) 0 2 2 Try.underlying50 rfl Try_T2 rfl rfl rfl) ?_))
                          refine OW.cons (OP.yes' rfl rfl hb13253 (OP.val (v := (.int .i64 x13179.Time)) rfl (x_load1 Try.underlying2 rfl rfl (hL.cellB 0 rfl rfl)) ?_))
                          refine OW.cons (OP.yes' rfl rfl hb13253 (OP.val (v := (.pointer (some ⟨b12171, 2, none⟩))) rfl (x_fieldAddr (fsz := 1) 0 2 2 Try.underlying50 rfl Try_T2 rfl f12901 rfl) ?_))
                          refine OW.cons (OP.yes' rfl rfl hb13253 (OP.val (v := (.int .i64 x12163.Time)) rfl (x_load1 Try.underlying2 rfl rfl (hL.cellB 1 rfl rfl)) ?_))
                          refine OW.cons (OP.yes' rfl rfl hb13253 (OP.val (v := (.bool (decide (x13179.Time < x12163.Time)))) rfl (x_lss rfl rfl) ?_))
                          refine OW.cons (OP.val (v := (.bool (decide (x13179.Time < x12163.Time)))) rfl (x_pickT' rfl hb13253 rfl) ?_)
                          refine OW.nil ?_
                          exact ⟨decide (x13179.Time < x12163.Time), hm, ⟨f12897, f12898, f12899, f12900, f12901, rfl, f12902, f12903, f12904, f12905, f12906, f12907, rfl, hL⟩⟩
                        · refine OW.cons (OP.no' rfl rfl hb13253 rfl ?_)
                          refine OW.cons (OP.no' rfl rfl hb13253 rfl ?_)
                          refine OW.cons (OP.no' rfl rfl hb13253 rfl ?_)
                          refine OW.cons (OP.no' rfl rfl hb13253 rfl ?_)
                          refine OW.cons (OP.no' rfl rfl hb13253 rfl ?_)
                          refine OW.cons (OP.val (v := (.bool false)) rfl (x_pickF' rfl hb13253 rfl) ?_)
                          refine OW.nil ?_
                          exact ⟨false, hm, ⟨f12897, f12898, f12899, f12900, f12901, rfl, f12902, f12903, f12904, f12905, f12906, f12907, rfl, hL⟩⟩
                      · intro s_j5 F13190 wd13191 hJ hm
                        unfold M.impl_placesOf_j5 at hm
                        obtain ⟨f13192, f13193, f13194, f13195, f13196, f13197, f13198, f13199, f13200, f13201, f13202, f13203, f13204, hL⟩ := hJ
                        refine CW.condM (t := s_j5) f13204 hm (fun hb13205 hm => ?_) (fun hb13205 hm => ?_)
                        · refine CW.regionL ?_
                          refine OW.cons (OP.val (v := v36) rfl (x_mv f13193) ?_)
                          refine OW.cons (OP.val (v := (.int .i64 s_l1.2.2)) rfl (x_mv f13195) ?_)
                          obtain ⟨x13206, ha13207, hm⟩ := bndE hm
                          obtain ⟨hz13208, ha13212⟩ := idxE ha13207
                          obtain ⟨b13209, q13210, hix13211⟩ := rdL_ix (hL.rdO 3 rfl) hz13208 ha13212
                          refine OW.cons (OP.val (v := (.pointer (some ⟨b13209, q13210, none⟩))) rfl (x_ix Try.underlying61 Try_T2 rfl rfl hix13211) ?_)
                          refine OW.cons (OP.val (v := (.int .i64 x13206)) rfl (x_load1 Try.underlying2 rfl rfl (rdF_cells (hL.rdO 3 rfl) hix13211 ha13212 0 _ rfl)) ?_)
                          refine OW.cons (OP.val (v := (.int .i64 (w64 (x13206 + 1)))) rfl (x_add rfl rfl) ?_)
                          obtain ⟨x13213, ha13214, hm⟩ := bndE hm
                          obtain ⟨hz13215, ha13219⟩ := idxE ha13214
                          obtain ⟨b13216, q13217, hix13218⟩ := rdL_ix (hL.rdO 3 rfl) hz13215 ha13219
                          refine OW.cons (OP.val (v := (.pointer (some ⟨b13216, q13217, none⟩))) rfl (x_ix Try.underlying61 Try_T2 rfl rfl hix13218) ?_)
                          refine OW.cons (S_storeX (j := 0) (w64 (x13206 + 1)) hL 3 rfl Try_T2 hix13218 ha13219 rfl rfl rfl rfl rfl rfl ?_)
                          intro wd13220 hL
                          refine OW.nil ?_
                          have hL := hL.sel [1, 2, 3, 4] (by decide) rfl
                          exact ⟨(s_l2.1.set (s_l1.2.2 : Int).toNat (w64 (x13206 + 1)), s_l2.2.1), hm, ⟨S12876, S12877, f13192, f13193, f13194, f13195, f13196, f13198, f13199, f13200, f13201, f13202, f13203, hL⟩⟩
                        · refine CW.seqJ (fun (s_j6 : Bool) (F : Fr) (w : World) => F 0 = v1 ∧ F 4 = v36 ∧ F 5 = v34 ∧ F 6 = (.int .i64 s_l1.2.2) ∧ F 7 = (.pointer (some ⟨b12171, 0, none⟩)) ∧ F 16 = v1 ∧ F 17 = (.int .i64 (a0.length : Int)) ∧ F 18 = (.int .i64 s_l1.2.2) ∧ F 29 = v1 ∧ F 30 = (.int .i64 (a0.length : Int)) ∧ F 31 = (.int .i64 s_l2.2.2) ∧ F 60 = (.bool s_j6) ∧ Hp w0 [Ent.blk b13187 50 #[(.int .i64 x13179.Boat), (.int .i64 x13179.Code), (.int .i64 x13179.Time)], Ent.blk b12171 50 #[(.int .i64 x12163.Boat), (.int .i64 x12163.Code), (.int .i64 x12163.Time)], Ent.own 2 S12877 v34 s_l2.2.1, Ent.own 2 S12876 v36 s_l2.1, Ent.snap w0 w0.heap.size] w) (fun s_j6 => M.impl_placesOf_j6 s_l1 s_l2 s_j6 = some t12878) ?_ ?_
                          · refine CW.regionL ?_
                            refine OW.cons (OP.val (v := (.pointer (some ⟨b13187, 1, none⟩))) rfl (x_fieldAddr (fsz := 1) 0 1 1 Try.underlying50 rfl Try_T2 rfl f13197 rfl) ?_)
                            refine OW.cons (OP.val (v := (.int .i64 x13179.Code)) rfl (x_load1 Try.underlying2 rfl rfl (hL.cellB 0 rfl rfl)) ?_)
                            refine OW.cons (OP.val (v := (.bool (x13179.Code == 0))) rfl (x_eql rfl rfl) ?_)
                            refine OW.cons (OP.val (v := (.bool (x13179.Code == 0))) rfl (x_move) ?_)
                            refine ifB_elim hm (fun hb13252 hm => ?_) (fun hb13252 hm => ?_)
                            · refine OW.cons (OP.yes' rfl rfl hb13252 (OP.val (v := (.pointer (some ⟨b13187, 2, none⟩))) rfl (x_fieldAddr (fsz := 1) 0 2 2 Try.underlying50 rfl Try_T2 rfl f13197 rfl) ?_))
                              refine OW.cons (OP.yes' rfl rfl hb13252 (OP.val (v := (.int .i64 x13179.Time)) rfl (x_load1 Try.underlying2 rfl rfl (hL.cellB 0 rfl rfl)) ?_))
                              refine OW.cons (OP.yes' rfl rfl hb13252 (OP.val (v := (.pointer (some ⟨b12171, 2, none⟩))) rfl (x_fieldAddr (fsz := 1) 0 2 2 Try.underlying50 rfl Try_T2 rfl f13196 rfl) ?_))
                              refine OW.cons (OP.yes' rfl rfl hb13252 (OP.val (v := (.int .i64 x12163.Time)) rfl (x_load1 Try.underlying2 rfl rfl (hL.cellB 1 rfl rfl)) ?_))
                              refine OW.cons (OP.yes' rfl rfl hb13252 (OP.val (v := (.bool (x13179.Time == x12163.Time))) rfl (x_eql rfl rfl) ?_))
                              refine OW.cons (OP.val (v := (.bool (x13179.Time == x12163.Time))) rfl (x_pickT' rfl hb13252 rfl) ?_)
                              refine OW.nil ?_
                              exact ⟨x13179.Time == x12163.Time, hm, ⟨f13192, f13193, f13194, f13195, f13196, f13198, f13199, f13200, f13201, f13202, f13203, rfl, hL⟩⟩
                            · refine OW.cons (OP.no' rfl rfl hb13252 rfl ?_)
                              refine OW.cons (OP.no' rfl rfl hb13252 rfl ?_)
                              refine OW.cons (OP.no' rfl rfl hb13252 rfl ?_)
                              refine OW.cons (OP.no' rfl rfl hb13252 rfl ?_)
                              refine OW.cons (OP.no' rfl rfl hb13252 rfl ?_)
                              refine OW.cons (OP.val (v := (.bool false)) rfl (x_pickF' rfl hb13252 rfl) ?_)
                              refine OW.nil ?_
                              exact ⟨false, hm, ⟨f13192, f13193, f13194, f13195, f13196, f13198, f13199, f13200, f13201, f13202, f13203, rfl, hL⟩⟩
                          · intro s_j6 F13222 wd13223 hJ hm
                            unfold M.impl_placesOf_j6 at hm
                            obtain ⟨f13224, f13225, f13226, f13227, f13228, f13229, f13230, f13231, f13232, f13233, f13234, f13235, hL⟩ := hJ
                            refine CW.condM (t := s_j6) f13235 hm (fun hb13236 hm => ?_) (fun hb13236 hm => ?_)
                            · refine CW.regionL ?_
                              refine OW.cons (OP.val (v := v34) rfl (x_mv f13226) ?_)
                              refine OW.cons (OP.val (v := (.int .i64 s_l1.2.2)) rfl (x_mv f13227) ?_)
                              obtain ⟨x13237, ha13238, hm⟩ := bndE hm
                              obtain ⟨hz13239, ha13243⟩ := idxE ha13238
                              obtain ⟨b13240, q13241, hix13242⟩ := rdL_ix (hL.rdO 2 rfl) hz13239 ha13243
                              refine OW.cons (OP.val (v := (.pointer (some ⟨b13240, q13241, none⟩))) rfl (x_ix Try.underlying61 Try_T2 rfl rfl hix13242) ?_)
                              refine OW.cons (OP.val (v := (.int .i64 x13237)) rfl (x_load1 Try.underlying2 rfl rfl (rdF_cells (hL.rdO 2 rfl) hix13242 ha13243 0 _ rfl)) ?_)
                              refine OW.cons (OP.val (v := (.int .i64 (w64 (x13237 + 1)))) rfl (x_add rfl rfl) ?_)
                              obtain ⟨x13244, ha13245, hm⟩ := bndE hm
                              obtain ⟨hz13246, ha13250⟩ := idxE ha13245
                              obtain ⟨b13247, q13248, hix13249⟩ := rdL_ix (hL.rdO 2 rfl) hz13246 ha13250
                              refine OW.cons (OP.val (v := (.pointer (some ⟨b13247, q13248, none⟩))) rfl (x_ix Try.underlying61 Try_T2 rfl rfl hix13249) ?_)
                              refine OW.cons (S_storeX (j := 0) (w64 (x13237 + 1)) hL 2 rfl Try_T2 hix13249 ha13250 rfl rfl rfl rfl rfl rfl ?_)
                              intro wd13251 hL
                              refine OW.nil ?_
                              have hL := hL.sel [1, 2, 3, 4] (by decide) rfl
                              exact ⟨(s_l2.1, s_l2.2.1.set (s_l1.2.2 : Int).toNat (w64 (x13237 + 1))), hm, ⟨S12876, S12877, f13224, f13225, f13226, f13227, f13228, f13229, f13230, f13231, f13232, f13233, f13234, hL⟩⟩
                            · refine CW.skip ?_
                              have hL := hL.sel [1, 2, 3, 4] (by decide) rfl
                              exact ⟨(s_l2.1, s_l2.2.1), hm, ⟨S12876, S12877, f13224, f13225, f13226, f13227, f13228, f13229, f13230, f13231, f13232, f13233, f13234, hL⟩⟩
                    · intro s_j4 F13166 wd13167 hJ hm
                      unfold M.impl_placesOf_j4 at hm
                      obtain ⟨S13164, S13165, f13168, f13169, f13170, f13171, f13172, f13173, f13174, f13175, f13176, f13177, f13178, hL⟩ := hJ
                      exact ⟨(s_j4.1, s_j4.2), hm, ⟨S13164, S13165, f13168, f13169, f13170, f13171, f13172, f13173, f13174, f13175, f13176, f13177, f13178, hL⟩⟩
                  · intro s_j3 F13076 wd13077 hJ hm
                    unfold M.impl_placesOf_j3 at hm
                    obtain ⟨S13074, S13075, f13078, f13079, f13080, f13081, f13082, f13083, f13084, f13085, f13086, f13087, f13088, hL⟩ := hJ
                    refine CW.regionL ?_
                    refine OW.cons (OP.val (v := (.int .i64 (w64 (s_l2.2.2 + 1)))) rfl (x_add f13088 rfl) ?_)
                    refine OW.cons (OP.val (v := (.int .i64 (w64 (s_l2.2.2 + 1)))) rfl (x_move) ?_)
                    refine OW.nil ?_
                    obtain rfl := Option.some.inj hm
                    exact ⟨_, rfl, ⟨S13074, S13075, f13078, f13079, f13080, f13081, f13082, f13083, f13084, f13085, f13086, f13087, rfl, hL⟩⟩
                · refine CW.exit ?_
                  refine XJ.hit ?_
                  obtain rfl := Option.some.inj hm
                  exact ⟨_, rfl, ⟨S12876, S12877, f12897, f12898, f12899, f12900, f12901, f12902, f12903, f12904, f12905, f12906, f12907, hL⟩⟩
          · intro s_j2 F12155 wd12156 hJ hm
            unfold M.impl_placesOf_j2 at hm
            obtain ⟨S12153, S12154, f12157, f12158, f12159, f12160, f12161, f12162, hL⟩ := hJ
            exact ⟨(s_j2.1, s_j2.2), hm, ⟨S12153, S12154, f12157, f12158, f12159, f12160, f12161, f12162, hL⟩⟩
        · intro s_j1 F11054 wd11055 hJ hm
          unfold M.impl_placesOf_j1 at hm
          obtain ⟨S11052, S11053, f11056, f11057, f11058, f11059, f11060, f11061, hL⟩ := hJ
          refine CW.regionL ?_
          refine OW.cons (OP.val (v := (.int .i64 (w64 (s_l1.2.2 + 1)))) rfl (x_add f11061 rfl) ?_)
          refine OW.cons (OP.val (v := (.int .i64 (w64 (s_l1.2.2 + 1)))) rfl (x_move) ?_)
          refine OW.nil ?_
          obtain rfl := Option.some.inj hm
          exact ⟨_, rfl, ⟨S11052, S11053, f11056, f11057, f11058, f11059, f11060, rfl, hL⟩⟩
      · refine CW.exit ?_
        refine XJ.hit ?_
        obtain rfl := Option.some.inj hm
        exact ⟨_, rfl, ⟨S8837, S8838, f8853, f8854, f8855, f8856, f8857, f8858, hL⟩⟩
  refine DH.node (listed' := #[true, true, true, true, true, false, true, false]) (fuel' := 2) (fun (F : Fr) (w : World) => ∃ (v38 : Value) (S39 : Nat → Prop), F 0 = v1 ∧ F 2 = (.slice none 0 0) ∧ F 3 = (.slice none 0 0) ∧ F 4 = v38 ∧ F 14 = (.int .i64 (a0.length : Int)) ∧ Hp w0 [Ent.own 2 S39 v38 (List.replicate ((a0.length : Int)).toNat (0 : Int)), Ent.snap w0 w0.heap.size] w) ?_ (fun hN32 => ?_)
  · intro F13254 wd13255 hJ
    obtain ⟨v38, S39, f13256, f13257, f13258, f13259, f13260, hL⟩ := hJ
    refine DH.only 5 rfl (by kernel_rfl) (S_make (α := Int) 0 hL Try.underlying61 Try_T2 f13260 f13260 rfl hc18 (by decide) rfl ?_)
    intro wd13261 v13262 S13263 hL
    refine ⟨(hL.sel [2] (by decide) rfl), ?_⟩
    have hS := (hL.sel [2] (by decide) rfl)
    refine DH.take 7 rfl (by kernel_rfl) (by kernel_rfl) (by kernel_rfl) rfl rfl hS (YH.val (v := v13262) (fun w' hS' => x_assign)) ?_
    exact DH.relist (listed' := #[true, true, true, true, true, true, true, true]) (by kernel_rfl) (hN31 _ _ ⟨v13262, S13263, v38, S39, f13256, f13257, f13258, f13259, rfl, hL⟩)
  refine DH.node (listed' := #[true, true, false, true, true, true, false, false]) (fuel' := 3) (fun (F : Fr) (w : World) => ∃ (v40 : Value) (S41 : Nat → Prop), F 0 = v1 ∧ F 2 = (.slice none 0 0) ∧ F 3 = (.slice none 0 0) ∧ F 11 = (.int .i64 (a0.length : Int)) ∧ F 15 = v40 ∧ Hp w0 [Ent.own 2 S41 v40 (List.replicate ((a0.length : Int)).toNat (0 : Int)), Ent.snap w0 w0.heap.size] w) ?_ (fun hN33 => ?_)
  · intro F13264 wd13265 hJ
    obtain ⟨v40, S41, f13266, f13267, f13268, f13269, f13270, hL⟩ := hJ
    refine DH.only 2 rfl (by kernel_rfl) (S_make (α := Int) 0 hL Try.underlying61 Try_T2 f13269 f13269 rfl hc14 (by decide) rfl ?_)
    intro wd13271 v13272 S13273 hL
    refine ⟨(hL.sel [2] (by decide) rfl), ?_⟩
    have hS := (hL.sel [2] (by decide) rfl)
    refine DH.take 6 rfl (by kernel_rfl) (by kernel_rfl) (by kernel_rfl) rfl rfl hS (YH.val (v := v13272) (fun w' hS' => x_assign)) ?_
    have hS := (hL.sel [2] (by decide) rfl)
    refine DH.take 7 rfl (by kernel_rfl) (by kernel_rfl) (by kernel_rfl) rfl rfl hS (YH.val (v := v40) (fun w' hS' => x_mva f13270)) ?_
    have hL := hL.sel [1, 0, 2] (by decide) rfl
    exact DH.relist (listed' := #[true, true, true, true, true, true, true, true]) (by kernel_rfl) (hN31 _ _ ⟨v40, S41, v13272, S13273, f13266, f13267, f13268, rfl, rfl, hL⟩)
  refine DH.all (rs := [2, 5]) (by kernel_rfl) (by simp) ?_
  intro i13274 hi13275
  simp only [List.mem_cons, List.not_mem_nil, or_false] at hi13275
  rcases hi13275 with rfl | rfl
  · refine ⟨_, rfl, ?_⟩
    refine S_make (α := Int) 0 hL Try.underlying61 Try_T2 rfl rfl rfl hc14 (by decide) rfl ?_
    intro wd13276 v13277 S13278 hL
    refine ⟨(hL.sel [1] (by decide) rfl), ?_⟩
    have hS := (hL.sel [1] (by decide) rfl)
    refine DH.take 6 rfl (by kernel_rfl) (by kernel_rfl) (by kernel_rfl) rfl rfl hS (YH.val (v := v13277) (fun w' hS' => x_assign)) ?_
    exact DH.relist (listed' := #[true, true, true, true, true, false, true, false]) (by kernel_rfl) (hN32 _ _ ⟨v13277, S13278, rfl, rfl, rfl, rfl, rfl, hL⟩)
  · refine ⟨_, rfl, ?_⟩
    refine S_make (α := Int) 0 hL Try.underlying61 Try_T2 rfl rfl rfl hc18 (by decide) rfl ?_
    intro wd13279 v13280 S13281 hL
    refine ⟨(hL.sel [1] (by decide) rfl), ?_⟩
    exact DH.relist (listed' := #[true, true, false, true, true, true, false, false]) (by kernel_rfl) (hN33 _ _ ⟨v13280, S13281, rfl, rfl, rfl, rfl, rfl, hL⟩)

theorem M.impl_codePoints_ok (w0 : World) (a0 : List Finish) {v1 : Value} (h2 : rdL (· < w0.heap.size) w0 v1 a0) (a1 : Int) (a2 : Int) {r : Int} (hm : M.impl_codePoints a0 a1 a2 = some r) :
    Calls Try.prog 75 #[v1, (.int .i64 a1), (.int .i64 a2)] w0 fun e w' => e = .returned (.int .i64 r) ∧ Fresh w0 w' [] := by
  unfold M.impl_codePoints at hm
  refine calls_CW (args := [v1, (.int .i64 a1), (.int .i64 a2)]) Try.func75 rfl rfl rfl ?_
  have hL := Hp.start w0
  refine CW.seq ?_
  refine CW.regionL ?_
  refine OW.cons (OP.val (v := (.int .i64 0)) rfl (x_assign) ?_)
  refine OW.nil ?_
  refine CW.seq ?_
  refine CW.seq ?_
  refine CW.regionL ?_
  refine OW.cons (OP.val (v := (.int .i64 a1)) rfl (x_move) ?_)
  refine OW.cons (OP.val (v := (.bool (a1 == 9))) rfl (x_eql rfl rfl) ?_)
  refine OW.nil ?_
  refine CW.condM (t := a1 == 9) rfl hm (fun hb3 hm => ?_) (fun hb3 hm => ?_)
  · refine CW.seq ?_
    refine CW.regionL ?_
    refine OW.cons (OP.val (v := (.int .i64 0)) rfl (x_assign) ?_)
    refine OW.nil ?_
    refine CW.ret ?_
    obtain rfl := Option.some.inj hm
    exact RR1 rfl rfl ⟨rfl, hL.fresh 0 rfl [] (by decide) (by decide) rfl⟩
  · refine CW.skip ?_
    refine CW.seq ?_
    refine CW.regionL ?_
    refine OW.cons (OP.val (v := v1) rfl (x_move) ?_)
    refine OW.cons (OP.val (v := (.int .i64 (a0.length : Int))) rfl (x_lenR Try.underlying44 rfl (hL.rdS 0 rfl h2)) ?_)
    refine OW.cons (OP.val (v := (.int .i64 (a0.length : Int))) rfl (x_assign) ?_)
    refine OW.nil ?_
    refine CW.seq ?_
    refine CW.seq ?_
    refine CW.regionL ?_
    refine OW.cons (OP.val (v := v1) rfl (x_move) ?_)
    refine OW.cons (OP.val (v := (.int .i64 (a0.length : Int))) rfl (x_lenR Try.underlying44 rfl (hL.rdS 0 rfl h2)) ?_)
    refine OW.cons (OP.val (v := (.int .i64 0)) rfl (x_move) ?_)
    refine OW.nil ?_
    obtain ⟨o248, ho249, hm⟩ := bndE hm
    refine CW.loopB (fun (s_l1 : Int × Int) (F : Fr) (w : World) => F 1 = (.int .i64 a1) ∧ F 2 = (.int .i64 a2) ∧ F 7 = (.int .i64 s_l1.1) ∧ F 14 = v1 ∧ F 15 = (.int .i64 (a0.length : Int)) ∧ F 16 = (.int .i64 s_l1.2) ∧ Hp w0 [Ent.snap w0 w0.heap.size] w) (fun o => outc o (fun x => some x) (fun s => M.impl_codePoints_a1 s) = some r) ho249 hm ⟨rfl, rfl, rfl, rfl, rfl, rfl, hL⟩ ?_ ?_
    · intro s_l1 F250 wd251 hJ hm
      have hm := outcE hm
      have hm : M.impl_codePoints_a1 s_l1 = some r := hm
      unfold M.impl_codePoints_a1 at hm
      obtain ⟨f252, f253, f254, f255, f256, f257, hL⟩ := hJ
      refine CW.seq ?_
      refine CW.regionL ?_
      refine OW.cons (OP.val (v := (.int .i64 s_l1.1)) rfl (x_mv f254) ?_)
      refine OW.cons (OP.val (v := (.int .i64 (w64 (s_l1.1 + 1)))) rfl (x_add rfl rfl) ?_)
      refine OW.cons (OP.val (v := (.int .i64 (w64 (10 * (w64 (s_l1.1 + 1)))))) rfl (x_mul rfl rfl) ?_)
      refine OW.cons (OP.val (v := (.int .i64 (w64 (10 * (w64 (s_l1.1 + 1)))))) rfl (x_assign) ?_)
      refine OW.nil ?_
      refine CW.ret ?_
      obtain rfl := Option.some.inj hm
      exact RR1 rfl rfl ⟨rfl, hL.fresh 0 rfl [] (by decide) (by decide) rfl⟩
    · intro s_l1 F258 wd259 t246 hJ hm hr247
      unfold M.impl_codePoints_l1 at hm
      obtain ⟨f260, f261, f262, f263, f264, f265, hL⟩ := hJ
      refine CW.seq ?_
      refine CW.regionL ?_
      refine OW.cons (OP.val (v := (.bool (decide (s_l1.2 < (a0.length : Int))))) rfl (x_lss f265 f264) ?_)
      refine OW.nil ?_
      refine CW.seq ?_
      refine CW.condM (t := decide (s_l1.2 < (a0.length : Int))) rfl hm (fun hb266 hm => ?_) (fun hb266 hm => ?_)
      · refine CW.skip ?_
        refine CW.seqJ (fun (s_j1 : Int) (F : Fr) (w : World) => F 1 = (.int .i64 a1) ∧ F 2 = (.int .i64 a2) ∧ F 7 = (.int .i64 s_j1) ∧ F 14 = v1 ∧ F 15 = (.int .i64 (a0.length : Int)) ∧ F 16 = (.int .i64 s_l1.2) ∧ Hp w0 [Ent.snap w0 w0.heap.size] w) (fun s_j1 => M.impl_codePoints_j1 s_l1 s_j1 = some t246) ?_ ?_
        · refine CW.blockJ (fun (s_j2 : Int) (F : Fr) (w : World) => F 1 = (.int .i64 a1) ∧ F 2 = (.int .i64 a2) ∧ F 7 = (.int .i64 s_j2) ∧ F 14 = v1 ∧ F 15 = (.int .i64 (a0.length : Int)) ∧ F 16 = (.int .i64 s_l1.2) ∧ Hp w0 [Ent.snap w0 w0.heap.size] w) (fun s_j2 => M.impl_codePoints_j2 s_l1 s_j2 = some t246) ?_ ?_
          · refine CW.seq ?_
            refine CW.regionL ?_
            obtain ⟨x363, ha364, hm⟩ := bndE hm
            obtain ⟨hz365, ha369⟩ := idxE ha364
            obtain ⟨b366, q367, hix368⟩ := rdL_ix (hL.rdS 0 rfl h2) hz365 ha369
            refine OW.cons (OP.val (v := (.pointer (some ⟨b366, q367, none⟩))) rfl (x_ix Try.underlying44 Try_T50 f263 f265 hix368) ?_)
            refine OW.cons (OP.val (v := (.agg #[(.int .i64 x363.Boat), (.int .i64 x363.Code), (.int .i64 x363.Time)])) rfl (x_loadN (cs := [(.int .i64 x363.Boat), (.int .i64 x363.Code), (.int .i64 x363.Time)]) Try.underlying50 Try_T50 rfl rfl (rdF_cells (hL.rdS 0 rfl h2) hix368 ha369)) ?_)
            refine OW.cons (S_alloc (cs := #[(.int .i64 0), (.int .i64 0), (.int .i64 0)]) hL Try_T50 rfl rfl ?_)
            intro wd370 b371 hL
            refine OW.cons (S_storeN (l := [(.int .i64 x363.Boat), (.int .i64 x363.Code), (.int .i64 x363.Time)]) (cs' := #[(.int .i64 x363.Boat), (.int .i64 x363.Code), (.int .i64 x363.Time)]) hL 0 rfl Try_T50 rfl rfl (List.forall_mem_cons.2 ⟨rfl, (List.forall_mem_cons.2 ⟨rfl, (List.forall_mem_cons.2 ⟨rfl, (fun _ h => by cases h)⟩)⟩)⟩) rfl (Nat.le_of_ble_eq_true rfl) rfl ?_)
            intro wd372 hL
            refine OW.nil ?_
            refine CW.seqJ (fun (s_j3 : Bool) (F : Fr) (w : World) => F 1 = (.int .i64 a1) ∧ F 2 = (.int .i64 a2) ∧ F 7 = (.int .i64 s_l1.1) ∧ F 14 = v1 ∧ F 15 = (.int .i64 (a0.length : Int)) ∧ F 16 = (.int .i64 s_l1.2) ∧ F 30 = (.bool s_j3) ∧ Hp w0 [Ent.blk b371 50 #[(.int .i64 x363.Boat), (.int .i64 x363.Code), (.int .i64 x363.Time)], Ent.snap w0 w0.heap.size] w) (fun s_j3 => M.impl_codePoints_j3 s_l1 s_j3 = some t246) ?_ ?_
            · refine CW.regionL ?_
              refine OW.cons (OP.val (v := (.pointer (some ⟨b371, 1, none⟩))) rfl (x_fieldAddr (fsz := 1) 0 1 1 Try.underlying50 rfl Try_T2 rfl rfl rfl) ?_)
              refine OW.cons (OP.val (v := (.int .i64 x363.Code)) rfl (x_load1 Try.underlying2 rfl rfl (hL.cellB 0 rfl rfl)) ?_)
              refine OW.cons (OP.val (v := (.bool (x363.Code == 1))) rfl (x_eql rfl rfl) ?_)
              refine OW.cons (OP.val (v := (.bool (x363.Code == 1))) rfl (x_move) ?_)
              refine ifB_elim hm (fun hb385 hm => ?_) (fun hb385 hm => ?_)
              · refine OW.cons (OP.yes' rfl rfl hb385 (OP.val (v := (.int .i64 a1)) rfl (x_mv f260) ?_))
                refine OW.cons (OP.yes' rfl rfl hb385 (OP.val (v := (.bool (a1 != 1))) rfl (x_neq rfl rfl) ?_))
                refine OW.cons (OP.val (v := (.bool (a1 != 1))) rfl (x_pickT' rfl hb385 rfl) ?_)
                refine OW.cons (OP.val (v := (.bool (a1 != 1))) rfl (x_move) ?_)
                refine ifB_elim hm (fun hb386 hm => ?_) (fun hb386 hm => ?_)
                · refine OW.cons (OP.yes' rfl rfl hb386 (OP.val (v := (.int .i64 a2)) rfl (x_mv f261) ?_))
                  refine OW.cons (OP.yes' rfl rfl hb386 (OP.val (v := (.bool (a2 == 1))) rfl (x_eql rfl rfl) ?_))
                  refine OW.cons (OP.val (v := (.bool (a2 == 1))) rfl (x_pickT' rfl hb386 rfl) ?_)
                  refine OW.nil ?_
                  exact ⟨a2 == 1, hm, ⟨f260, f261, f262, f263, f264, f265, rfl, hL⟩⟩
                · refine OW.cons (OP.no' rfl rfl hb386 rfl ?_)
                  refine OW.cons (OP.no' rfl rfl hb386 rfl ?_)
                  refine OW.cons (OP.val (v := (.bool false)) rfl (x_pickF' rfl hb386 rfl) ?_)
                  refine OW.nil ?_
                  exact ⟨false, hm, ⟨f260, f261, f262, f263, f264, f265, rfl, hL⟩⟩
              · refine OW.cons (OP.no' rfl rfl hb385 rfl ?_)
                refine OW.cons (OP.no' rfl rfl hb385 rfl ?_)
                refine OW.cons (OP.val (v := (.bool false)) rfl (x_pickF' rfl hb385 rfl) ?_)
                refine OW.cons (OP.val (v := (.bool false)) rfl (x_move) ?_)
                refine OW.cons (OP.no' rfl rfl rfl rfl ?_)
                refine OW.cons (OP.no' rfl rfl rfl rfl ?_)
                refine OW.cons (OP.val (v := (.bool false)) rfl (x_pickF' rfl rfl rfl) ?_)
                refine OW.nil ?_
                exact ⟨false, hm, ⟨f260, f261, f262, f263, f264, f265, rfl, hL⟩⟩
            · intro s_j3 F375 wd376 hJ hm
              unfold M.impl_codePoints_j3 at hm
              obtain ⟨f377, f378, f379, f380, f381, f382, f383, hL⟩ := hJ
              refine CW.condM (t := s_j3) f383 hm (fun hb384 hm => ?_) (fun hb384 hm => ?_)
              · refine CW.regionL ?_
                refine OW.cons (OP.val (v := (.int .i64 s_l1.1)) rfl (x_mv f379) ?_)
                refine OW.cons (OP.val (v := (.int .i64 (w64 (s_l1.1 - 1)))) rfl (x_sub rfl rfl) ?_)
                refine OW.cons (OP.val (v := (.int .i64 (w64 (s_l1.1 - 1)))) rfl (x_assign) ?_)
                refine OW.nil ?_
                have hL := hL.sel [1] (by decide) rfl
                exact ⟨w64 (s_l1.1 - 1), hm, ⟨f377, f378, rfl, f380, f381, f382, hL⟩⟩
              · refine CW.skip ?_
                have hL := hL.sel [1] (by decide) rfl
                exact ⟨s_l1.1, hm, ⟨f377, f378, f379, f380, f381, f382, hL⟩⟩
          · intro s_j2 F355 wd356 hJ hm
            unfold M.impl_codePoints_j2 at hm
            obtain ⟨f357, f358, f359, f360, f361, f362, hL⟩ := hJ
            exact ⟨s_j2, hm, ⟨f357, f358, f359, f360, f361, f362, hL⟩⟩
        · intro s_j1 F323 wd324 hJ hm
          unfold M.impl_codePoints_j1 at hm
          obtain ⟨f325, f326, f327, f328, f329, f330, hL⟩ := hJ
          refine CW.regionL ?_
          refine OW.cons (OP.val (v := (.int .i64 (w64 (s_l1.2 + 1)))) rfl (x_add f330 rfl) ?_)
          refine OW.cons (OP.val (v := (.int .i64 (w64 (s_l1.2 + 1)))) rfl (x_move) ?_)
          refine OW.nil ?_
          obtain rfl := Option.some.inj hm
          exact ⟨_, rfl, ⟨f325, f326, f327, f328, f329, rfl, hL⟩⟩
      · refine CW.exit ?_
        refine XJ.hit ?_
        obtain rfl := Option.some.inj hm
        exact ⟨_, rfl, ⟨f260, f261, f262, f263, f264, f265, hL⟩⟩

theorem M.impl_racePoints_ok (w0 : World) (a0 : List Finish) {v1 : Value} (h2 : rdL (· < w0.heap.size) w0 v1 a0) (a1 : Int) {r : (List Int)} (hm : M.impl_racePoints a0 a1 = some r) :
    Calls Try.prog 80 #[v1, (.int .i64 a1)] w0 fun e w' => ∃ (rv0 : Value) (rS0 : Nat → Prop), e = .returned rv0 ∧ Fresh w0 w' [Ent.own 2 rS0 rv0 r] := by
  unfold M.impl_racePoints at hm
  refine calls_CW (args := [v1, (.int .i64 a1)]) Try.func80 rfl rfl rfl ?_
  have hL := Hp.start w0
  refine CW.seq ?_
  refine CW.regionL ?_
  refine OW.cons (OP.val (v := (.slice none 0 0)) rfl (x_assign) ?_)
  refine OW.nil ?_
  refine CW.seq ?_
  refine CW.regionL ?_
  refine OW.cons (OP.val (v := v1) rfl (x_move) ?_)
  obtain ⟨x3, hx4, hm⟩ := bndE hm
  refine OW.cons (OP.call rfl (x_call (vs := [v1]) Try_C95 ⟨rfl, trivial⟩) (M.impl_placesOf_ok _ a0 (hL.rdS 0 rfl h2) hx4) ?_)
  rintro e9 wd10 ⟨v6, S5, v8, S7, rfl, hF11⟩
  refine ⟨_, rfl, ?_⟩
  have hL := hL.pushAll hF11
  simp only [lA, lB, lC, lD] at hL
  refine OW.cons (OP.val (v := (.tuple #[v6, v8])) rfl (x_move) ?_)
  refine OW.cons (OP.val (v := v6) rfl (x_extract rfl rfl) ?_)
  refine OW.cons (OP.val (v := v8) rfl (x_extract rfl rfl) ?_)
  refine OW.cons (OP.val (v := v6) rfl (x_assign) ?_)
  refine OW.cons (OP.val (v := v8) rfl (x_assign) ?_)
  refine OW.nil ?_
  refine CW.seq ?_
  refine CW.regionL ?_
  refine OW.cons (S_lit ([] : List Int) hL Try.underlying61 Try_T2 rfl (by decide) (by first | (simp [Instr.fill, madeCells, Value.cells, ev, upd, Flat.enc, Flat.sz]; done) | rfl | kernel_rfl) rfl rfl ?_)
  intro wd12 v13 S14 hL
  refine OW.cons (OP.val (v := v13) rfl (x_assign) ?_)
  refine OW.nil ?_
  refine CW.seq ?_
  refine CW.seq ?_
  refine CW.regionL ?_
  refine OW.cons (OP.val (v := v1) rfl (x_move) ?_)
  refine OW.cons (OP.val (v := (.int .i64 (a0.length : Int))) rfl (x_lenR Try.underlying44 rfl (hL.rdS 3 rfl h2)) ?_)
  refine OW.cons (OP.val (v := (.int .i64 0)) rfl (x_move) ?_)
  refine OW.nil ?_
  obtain ⟨o615, ho616, hm⟩ := bndE hm
  refine CW.loopB (fun (s_l1 : (List Int) × Int) (F : Fr) (w : World) => ∃ (v611 : Value) (S612 : Nat → Prop), F 0 = v1 ∧ F 1 = (.int .i64 a1) ∧ F 5 = v6 ∧ F 6 = v8 ∧ F 7 = v611 ∧ F 16 = v1 ∧ F 17 = (.int .i64 (a0.length : Int)) ∧ F 18 = (.int .i64 s_l1.2) ∧ Hp w0 [Ent.own 2 S612 v611 s_l1.1, Ent.own 2 S5 v6 x3.1, Ent.own 2 S7 v8 x3.2, Ent.snap w0 w0.heap.size] w) (fun o => outc o (fun x => some x) (fun s => M.impl_racePoints_a1 s) = some r) ho616 hm ⟨v13, S14, rfl, rfl, rfl, rfl, rfl, rfl, rfl, rfl, hL⟩ ?_ ?_
  · intro s_l1 F617 wd618 hJ hm
    have hm := outcE hm
    have hm : M.impl_racePoints_a1 s_l1 = some r := hm
    unfold M.impl_racePoints_a1 at hm
    obtain ⟨v611, S612, f619, f620, f621, f622, f623, f624, f625, f626, hL⟩ := hJ
    refine CW.seq ?_
    refine CW.regionL ?_
    refine OW.cons (OP.val (v := v611) rfl (x_mv f623) ?_)
    refine OW.cons (OP.val (v := v611) rfl (x_assign) ?_)
    refine OW.nil ?_
    refine CW.ret ?_
    obtain rfl := Option.some.inj hm
    exact RR1 rfl rfl ⟨v611, S612, rfl, hL.fresh 3 rfl [0] (by decide) (by decide) rfl⟩
  · intro s_l1 F627 wd628 t613 hJ hm hr614
    unfold M.impl_racePoints_l1 at hm
    obtain ⟨v611, S612, f629, f630, f631, f632, f633, f634, f635, f636, hL⟩ := hJ
    refine CW.seq ?_
    refine CW.regionL ?_
    refine OW.cons (OP.val (v := (.bool (decide (s_l1.2 < (a0.length : Int))))) rfl (x_lss f636 f635) ?_)
    refine OW.nil ?_
    refine CW.seq ?_
    refine CW.condM (t := decide (s_l1.2 < (a0.length : Int))) rfl hm (fun hb637 hm => ?_) (fun hb637 hm => ?_)
    · refine CW.skip ?_
      refine CW.seqJ (fun (s_j1 : (List Int)) (F : Fr) (w : World) => ∃ (v780 : Value) (S781 : Nat → Prop), F 0 = v1 ∧ F 1 = (.int .i64 a1) ∧ F 5 = v6 ∧ F 6 = v8 ∧ F 7 = v780 ∧ F 16 = v1 ∧ F 17 = (.int .i64 (a0.length : Int)) ∧ F 18 = (.int .i64 s_l1.2) ∧ Hp w0 [Ent.own 2 S781 v780 s_j1, Ent.own 2 S5 v6 x3.1, Ent.own 2 S7 v8 x3.2, Ent.snap w0 w0.heap.size] w) (fun s_j1 => M.impl_racePoints_j1 s_l1 s_j1 = some t613) ?_ ?_
      · refine CW.blockJ (fun (s_j2 : (List Int)) (F : Fr) (w : World) => ∃ (v857 : Value) (S858 : Nat → Prop), F 0 = v1 ∧ F 1 = (.int .i64 a1) ∧ F 5 = v6 ∧ F 6 = v8 ∧ F 7 = v857 ∧ F 16 = v1 ∧ F 17 = (.int .i64 (a0.length : Int)) ∧ F 18 = (.int .i64 s_l1.2) ∧ Hp w0 [Ent.own 2 S858 v857 s_j2, Ent.own 2 S5 v6 x3.1, Ent.own 2 S7 v8 x3.2, Ent.snap w0 w0.heap.size] w) (fun s_j2 => M.impl_racePoints_j2 s_l1 s_j2 = some t613) ?_ ?_
        · refine CW.seq ?_
          refine CW.regionL ?_
          refine OW.cons (OP.val (v := (.int .i64 s_l1.2)) rfl (x_mv f636) ?_)
          obtain ⟨x869, ha870, hm⟩ := bndE hm
          obtain ⟨hz871, ha875⟩ := idxE ha870
          obtain ⟨b872, q873, hix874⟩ := rdL_ix (hL.rdS 3 rfl h2) hz871 ha875
          refine OW.cons (OP.val (v := (.pointer (some ⟨b872, q873, none⟩))) rfl (x_ix Try.underlying44 Try_T50 f634 f636 hix874) ?_)
          refine OW.cons (OP.val (v := (.agg #[(.int .i64 x869.Boat), (.int .i64 x869.Code), (.int .i64 x869.Time)])) rfl (x_loadN (cs := [(.int .i64 x869.Boat), (.int .i64 x869.Code), (.int .i64 x869.Time)]) Try.underlying50 Try_T50 rfl rfl (rdF_cells (hL.rdS 3 rfl h2) hix874 ha875)) ?_)
          refine OW.cons (S_alloc (cs := #[(.int .i64 0), (.int .i64 0), (.int .i64 0)]) hL Try_T50 rfl rfl ?_)
          intro wd876 b877 hL
          refine OW.cons (OP.val (v := (.int .i64 s_l1.2)) rfl (x_assign) ?_)
          refine OW.cons (S_storeN (l := [(.int .i64 x869.Boat), (.int .i64 x869.Code), (.int .i64 x869.Time)]) (cs' := #[(.int .i64 x869.Boat), (.int .i64 x869.Code), (.int .i64 x869.Time)]) hL 0 rfl Try_T50 rfl rfl (List.forall_mem_cons.2 ⟨rfl, (List.forall_mem_cons.2 ⟨rfl, (List.forall_mem_cons.2 ⟨rfl, (fun _ h => by cases h)⟩)⟩)⟩) rfl (Nat.le_of_ble_eq_true rfl) rfl ?_)
          intro wd878 hL
          refine OW.nil ?_
          refine CW.seq ?_
          refine CW.regionL ?_
          refine OW.cons (OP.val (v := (.pointer (some ⟨b877, 1, none⟩))) rfl (x_fieldAddr (fsz := 1) 0 1 1 Try.underlying50 rfl Try_T2 rfl rfl rfl) ?_)
          refine OW.cons (OP.val (v := (.int .i64 x869.Code)) rfl (x_load1 Try.underlying2 rfl rfl (hL.cellB 0 rfl rfl)) ?_)
          refine OW.cons (OP.val (v := (.bool (x869.Code == 0))) rfl (x_eql rfl rfl) ?_)
          refine OW.nil ?_
          refine CW.condM (t := x869.Code == 0) rfl hm (fun hb879 hm => ?_) (fun hb879 hm => ?_)
          · refine CW.drawH (fun w' => Hp w0 [Ent.blk b877 50 #[(.int .i64 x869.Boat), (.int .i64 x869.Code), (.int .i64 x869.Time)], Ent.own 2 S5 v6 x3.1, Ent.own 2 S7 v8 x3.2, Ent.snap w0 w0.heap.size] w') Try_mixed ?_
            have hL := hL.call (Mod.drew _)
            have hS := (hL.sel [0, 2, 3, 4] (by decide) rfl)
            refine DH.take 0 rfl (by kernel_rfl) (by kernel_rfl) (by kernel_rfl) rfl rfl hS (YH.val (v := v611) (fun w' hS' => x_mv f633)) ?_
            have hS := (hL.sel [0, 2, 3, 4] (by decide) rfl)
            refine DH.take 1 rfl (by kernel_rfl) (by kernel_rfl) (by kernel_rfl) rfl rfl hS (YH.val (v := v6) (fun w' hS' => x_mv f631)) ?_
            have hS := (hL.sel [0, 2, 3, 4] (by decide) rfl)
            refine DH.take 2 rfl (by kernel_rfl) (by kernel_rfl) (by kernel_rfl) rfl rfl hS (YH.val (v := (.int .i64 s_l1.2)) (fun w' hS' => x_move)) ?_
            have hS := (hL.sel [0, 2, 3, 4] (by decide) rfl)
            obtain ⟨x901, ha902, hm⟩ := bndE hm
            obtain ⟨hz903, ha907⟩ := idxE ha902
            obtain ⟨b904, q905, hix906⟩ := rdL_ix (hL.rdO 2 rfl) hz903 ha907
            refine DH.take 3 rfl (by kernel_rfl) (by kernel_rfl) (by kernel_rfl) rfl rfl hS (YH.val (v := (.pointer (some ⟨b904, q905, none⟩))) (fun w' hS' => x_ix Try.underlying61 Try_T2 rfl rfl hix906)) ?_
            have hS := (hL.sel [0, 2, 3, 4] (by decide) rfl)
            refine DH.take 4 rfl (by kernel_rfl) (by kernel_rfl) (by kernel_rfl) rfl rfl hS (YH.val (v := (.int .i64 x901)) (fun w' hS' => x_load1 Try.underlying2 rfl rfl (rdF_cells (hS'.rdO 1 rfl) hix906 ha907 0 _ rfl))) ?_
            have hS := (hL.sel [0, 2, 3, 4] (by decide) rfl)
            refine DH.take 5 rfl (by kernel_rfl) (by kernel_rfl) (by kernel_rfl) rfl rfl hS (YH.val (v := (.int .i64 (w64 (2 * x901)))) (fun w' hS' => x_mul rfl rfl)) ?_
            have hS := (hL.sel [0, 2, 3, 4] (by decide) rfl)
            refine DH.take 6 rfl (by kernel_rfl) (by kernel_rfl) (by kernel_rfl) rfl rfl hS (YH.val (v := v8) (fun w' hS' => x_mv f632)) ?_
            have hS := (hL.sel [0, 2, 3, 4] (by decide) rfl)
            refine DH.take 7 rfl (by kernel_rfl) (by kernel_rfl) (by kernel_rfl) rfl rfl hS (YH.val (v := (.int .i64 s_l1.2)) (fun w' hS' => x_move)) ?_
            have hS := (hL.sel [0, 2, 3, 4] (by decide) rfl)
            obtain ⟨x908, ha909, hm⟩ := bndE hm
            obtain ⟨hz910, ha914⟩ := idxE ha909
            obtain ⟨b911, q912, hix913⟩ := rdL_ix (hL.rdO 3 rfl) hz910 ha914
            refine DH.take 8 rfl (by kernel_rfl) (by kernel_rfl) (by kernel_rfl) rfl rfl hS (YH.val (v := (.pointer (some ⟨b911, q912, none⟩))) (fun w' hS' => x_ix Try.underlying61 Try_T2 rfl rfl hix913)) ?_
            have hS := (hL.sel [0, 2, 3, 4] (by decide) rfl)
            refine DH.take 9 rfl (by kernel_rfl) (by kernel_rfl) (by kernel_rfl) rfl rfl hS (YH.val (v := (.int .i64 x908)) (fun w' hS' => x_load1 Try.underlying2 rfl rfl (rdF_cells (hS'.rdO 2 rfl) hix913 ha914 0 _ rfl))) ?_
            have hS := (hL.sel [0, 2, 3, 4] (by decide) rfl)
            refine DH.take 10 rfl (by kernel_rfl) (by kernel_rfl) (by kernel_rfl) rfl rfl hS (YH.val (v := (.int .i64 (w64 ((w64 (2 * x901)) + x908)))) (fun w' hS' => x_add rfl rfl)) ?_
            have hS := (hL.sel [0, 2, 3, 4] (by decide) rfl)
            refine DH.take 11 rfl (by kernel_rfl) (by kernel_rfl) (by kernel_rfl) rfl rfl hS (YH.val (v := (.int .i64 (w64 ((w64 ((w64 (2 * x901)) + x908)) - 1)))) (fun w' hS' => x_sub rfl rfl)) ?_
            have hS := (hL.sel [0, 2, 3, 4] (by decide) rfl)
            refine DH.take 12 rfl (by kernel_rfl) (by kernel_rfl) (by kernel_rfl) rfl rfl hS (YH.val (v := (.int .i64 (w64 (5 * (w64 ((w64 ((w64 (2 * x901)) + x908)) - 1)))))) (fun w' hS' => x_mul rfl rfl)) ?_
            refine DH.only 13 rfl (by kernel_rfl) (S_lit ([w64 (5 * (w64 ((w64 ((w64 (2 * x901)) + x908)) - 1)))] : List Int) hL Try.underlying61 Try_T2 rfl (by decide) (by first | (simp [Instr.fill, madeCells, Value.cells, ev, upd, Flat.enc, Flat.sz]; done) | rfl | kernel_rfl) rfl rfl ?_)
            intro wd915 v916 S917 hL
            refine ⟨(hL.sel [1, 3, 4, 5] (by decide) rfl), ?_⟩
            obtain ⟨hc921, hm⟩ := chkE hm
            refine DH.only 14 rfl (by kernel_rfl) (S_append (ys := ([w64 (5 * (w64 ((w64 ((w64 (2 * x901)) + x908)) - 1)))] : List Int)) hL 2 rfl Try.underlying61 Try_T2 rfl rfl rfl (hL.rdO 0 rfl) hc921 (by decide) rfl ?_)
            intro wd918 v919 S920 hL
            refine ⟨(hL.sel [1, 3, 4, 5] (by decide) rfl), ?_⟩
            have hS := (hL.sel [1, 3, 4, 5] (by decide) rfl)
            refine DH.take 15 rfl (by kernel_rfl) (by kernel_rfl) (by kernel_rfl) rfl rfl hS (YH.val (v := v919) (fun w' hS' => x_assign)) ?_
            refine DH.done (by kernel_rfl) ?_
            have hL := hL.sel [2, 3, 4, 5] (by decide) rfl
            exact ⟨s_l1.1 ++ ([w64 (5 * (w64 ((w64 ((w64 (2 * x901)) + x908)) - 1)))] : List Int), hm, ⟨v919, S920, f629, f630, f631, f632, rfl, f634, f635, f636, hL⟩⟩
          · refine CW.regionL ?_
            refine OW.cons (OP.val (v := v611) rfl (x_mv f633) ?_)
            refine OW.cons (OP.val (v := v1) rfl (x_mv f629) ?_)
            refine OW.cons (OP.val (v := (.pointer (some ⟨b877, 1, none⟩))) rfl (x_fieldAddr (fsz := 1) 0 1 1 Try.underlying50 rfl Try_T2 rfl rfl rfl) ?_)
            refine OW.cons (OP.val (v := (.int .i64 x869.Code)) rfl (x_load1 Try.underlying2 rfl rfl (hL.cellB 0 rfl rfl)) ?_)
            refine OW.cons (OP.val (v := (.int .i64 a1)) rfl (x_mv f630) ?_)
            obtain ⟨x922, hx923, hm⟩ := bndE hm
            refine OW.cons (OP.call rfl (x_call (vs := [v1, (.int .i64 x869.Code), (.int .i64 a1)]) Try_C75 ⟨rfl, rfl, rfl, trivial⟩) (M.impl_codePoints_ok _ a0 (hL.rdS 4 rfl h2) x869.Code a1 hx923) ?_)
            rintro e924 wd925 ⟨rfl, hF926⟩
            refine ⟨_, rfl, ?_⟩
            have hL := hL.pushAll hF926
            simp only [lA, lB, lC, lD] at hL
            refine OW.cons (S_lit ([x922] : List Int) hL Try.underlying61 Try_T2 rfl (by decide) (by first | (simp [Instr.fill, madeCells, Value.cells, ev, upd, Flat.enc, Flat.sz]; done) | rfl | kernel_rfl) rfl rfl ?_)
            intro wd927 v928 S929 hL
            obtain ⟨hc933, hm⟩ := chkE hm
            refine OW.cons (S_append (ys := ([x922] : List Int)) hL 2 rfl Try.underlying61 Try_T2 rfl rfl rfl (hL.rdO 0 rfl) hc933 (by decide) rfl ?_)
            intro wd930 v931 S932 hL
            refine OW.cons (OP.val (v := v931) rfl (x_assign) ?_)
            refine OW.nil ?_
            have hL := hL.sel [2, 3, 4, 5] (by decide) rfl
            exact ⟨s_l1.1 ++ ([x922] : List Int), hm, ⟨v931, S932, f629, f630, f631, f632, rfl, f634, f635, f636, hL⟩⟩
        · intro s_j2 F859 wd860 hJ hm
          unfold M.impl_racePoints_j2 at hm
          obtain ⟨v857, S858, f861, f862, f863, f864, f865, f866, f867, f868, hL⟩ := hJ
          exact ⟨s_j2, hm, ⟨v857, S858, f861, f862, f863, f864, f865, f866, f867, f868, hL⟩⟩
      · intro s_j1 F782 wd783 hJ hm
        unfold M.impl_racePoints_j1 at hm
        obtain ⟨v780, S781, f784, f785, f786, f787, f788, f789, f790, f791, hL⟩ := hJ
        refine CW.regionL ?_
        refine OW.cons (OP.val (v := (.int .i64 (w64 (s_l1.2 + 1)))) rfl (x_add f791 rfl) ?_)
        refine OW.cons (OP.val (v := (.int .i64 (w64 (s_l1.2 + 1)))) rfl (x_move) ?_)
        refine OW.nil ?_
        obtain rfl := Option.some.inj hm
        exact ⟨_, rfl, ⟨v780, S781, f784, f785, f786, f787, f788, f789, f790, rfl, hL⟩⟩
    · refine CW.exit ?_
      refine XJ.hit ?_
      obtain rfl := Option.some.inj hm
      exact ⟨_, rfl, ⟨v611, S612, f629, f630, f631, f632, f633, f634, f635, f636, hL⟩⟩

end Go.Proofs.Ytgelmamcinlahaa
