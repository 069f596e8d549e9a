/- Links: each Go function returns what its model computes and leaves what was there. Printed by my generator. -/
import Derived.Test.YtgelmamcinlahaaLnkFnPenalizedTableC
namespace Go.Proofs.Ytgelmamcinlahaa
set_option maxRecDepth 10000
open Go Go.RowKit Go.ChangeShapes Go.WideShapes
set_option linter.unusedVariables false
set_option linter.unusedSimpArgs false

theorem M.spec_TableOf_ok (w0 : World) (a0 : Series) {v1 : Value} (h2 : rdL (· < w0.heap.size) w0 v1 a0.Races) {r : Table × Int} (hm : M.spec_TableOf a0 = some r) :
    Calls Try.prog 76 #[(.agg #[(.int .i64 a0.Boats), (.int .i64 a0.Scheme), v1])] w0 fun e w' => ∃ (rv0 : Value) (rS0 : Nat → Prop), ∃ (rv1 : Value) (rS1 : Nat → Prop), e = .returned (.tuple #[(.agg #[(.int .i64 r.1.Boats), rv0, rv1]), (.int .i64 r.2)]) ∧ Fresh w0 w' [Ent.own 61 rS0 rv0 r.1.Points, Ent.own 61 rS1 rv1 r.1.Codes] := by
  unfold M.spec_TableOf at hm
  refine calls_CW (args := [(.agg #[(.int .i64 a0.Boats), (.int .i64 a0.Scheme), v1])]) Try.func76 rfl rfl rfl ?_
  have hL := Hp.start w0
  refine CW.seq ?_
  refine CW.regionL ?_
  refine OW.cons (S_box (cs := #[(.int .i64 a0.Boats), (.int .i64 a0.Scheme), v1]) hL rfl rfl rfl ?_)
  intro wd3 b4 hL
  refine OW.cons (S_alloc (cs := #[(.int .i64 0), (.slice none 0 0), (.slice none 0 0)]) hL Try_T56 rfl rfl ?_)
  intro wd5 b6 hL
  refine OW.cons (OP.val (v := (.int .i64 0)) rfl (x_assign) ?_)
  refine OW.nil ?_
  refine CW.seq ?_
  refine CW.seq ?_
  refine CW.regionL ?_
  refine OW.cons (OP.val (v := (.agg #[(.int .i64 a0.Boats), (.int .i64 a0.Scheme), v1])) rfl (x_loadN (cs := [(.int .i64 a0.Boats), (.int .i64 a0.Scheme), v1]) Try.underlying31 Try_T31 rfl rfl (hL.cellsB 1 rfl (o := 0) (l := [(.int .i64 a0.Boats), (.int .i64 a0.Scheme), v1]) (by intro j u hj; exact (by simpa using hj)))) ?_)
  obtain ⟨x7, hx8, hm⟩ := bndE hm
  refine OW.cons (OP.call rfl (x_call (vs := [(.agg #[(.int .i64 a0.Boats), (.int .i64 a0.Scheme), v1])]) Try_C34 ⟨rfl, trivial⟩) (M.spec_IsSeries_ok _ a0 (hL.rdS 2 rfl h2) hx8) ?_)
  rintro e9 wd10 ⟨rfl, hF11⟩
  refine ⟨_, rfl, ?_⟩
  have hL := hL.pushAll hF11
  simp only [lA, lB, lC, lD] at hL
  refine OW.cons (OP.val (v := (.bool (!x7))) rfl (x_not rfl) ?_)
  refine OW.nil ?_
  refine CW.condM (t := !x7) rfl hm (fun hb12 hm => ?_) (fun hb12 hm => ?_)
  · refine CW.seq ?_
    refine CW.regionL ?_
    refine OW.cons (OP.val (v := (.agg #[(.int .i64 0), (.slice none 0 0), (.slice none 0 0)])) rfl (x_build Try_B56 (ps := []) trivial (by simp [Instr.fill, cells_int, cells_bool, cells_string, cells_agg, cells_slice, cells_pointer])) ?_)
    refine OW.cons (S_storeN (l := [(.int .i64 0), (.slice none 0 0), (.slice none 0 0)]) (cs' := #[(.int .i64 0), (.slice none 0 0), (.slice none 0 0)]) hL 0 rfl Try_T56 rfl rfl (List.forall_mem_cons.2 ⟨rfl, (List.forall_mem_cons.2 ⟨rfl, (List.forall_mem_cons.2 ⟨rfl, (fun _ h => by cases h)⟩)⟩)⟩) rfl (Nat.le_of_ble_eq_true rfl) rfl ?_)
    intro wd13 hL
    refine OW.cons (OP.val (v := (.int .i64 1)) rfl (x_assign) ?_)
    refine OW.nil ?_
    refine CW.ret ?_
    have hL := hL.pushNil (List Int) 61
    have hL := hL.pushNil (List Int) 61
    obtain rfl := Option.some.inj hm
    exact RRct rfl rfl (run_loadBlk Try.underlying56 Try_T56 (hL.get 2 rfl) rfl) rfl ⟨(.slice none 0 0), None_, (.slice none 0 0), None_, rfl, hL.fresh 4 rfl [1, 0] (by decide) (by decide) rfl⟩
  · refine CW.skip ?_
    refine CW.seq ?_
    refine CW.regionL ?_
    refine OW.cons (OP.val (v := (.pointer (some ⟨b4, 0, none⟩))) rfl (x_fieldAddr (fsz := 1) 0 0 0 Try.underlying31 rfl Try_T2 rfl rfl rfl) ?_)
    refine OW.cons (OP.val (v := (.int .i64 a0.Boats)) rfl (x_load1 Try.underlying2 rfl rfl (hL.cellB 1 rfl rfl)) ?_)
    refine OW.cons (S_lit0 (α := Int) (List Int) hL Try.underlying54 Try_T61 rfl ?_)
    intro wd14 v15 S16 hL
    refine OW.cons (S_lit0 (α := Int) (List Int) hL Try.underlying54 Try_T61 rfl ?_)
    intro wd17 v18 S19 hL
    refine OW.cons (OP.val (v := (.agg #[(.int .i64 a0.Boats), v15, v18])) rfl (x_build Try_B56 (ps := [(0, (.int .i64 a0.Boats)), (1, v15), (2, v18)]) ⟨⟨rfl, rfl⟩, ⟨rfl, rfl⟩, ⟨rfl, rfl⟩, trivial⟩ (by simp [Instr.fill, cells_int, cells_bool, cells_string, cells_agg, cells_slice, cells_pointer, (rdL_cells (hL.rdO 1 rfl)), (rdL_cells (hL.rdO 0 rfl))])) ?_)
    refine OW.cons (S_alloc (cs := #[(.int .i64 0), (.slice none 0 0), (.slice none 0 0)]) hL Try_T56 rfl rfl ?_)
    intro wd20 b21 hL
    refine OW.cons (S_storeN (l := [(.int .i64 a0.Boats), v15, v18]) (cs' := #[(.int .i64 a0.Boats), v15, v18]) hL 0 rfl Try_T56 rfl rfl (List.forall_mem_cons.2 ⟨rfl, (List.forall_mem_cons.2 ⟨rdL_one (hL.rdO 2 rfl), (List.forall_mem_cons.2 ⟨rdL_one (hL.rdO 1 rfl), (fun _ h => by cases h)⟩)⟩)⟩) rfl (Nat.le_of_ble_eq_true rfl) rfl ?_)
    intro wd22 hL
    refine OW.nil ?_
    refine CW.seq ?_
    refine CW.seq ?_
    refine CW.regionL ?_
    refine OW.cons (OP.val (v := (.int .i64 0)) rfl (x_assign) ?_)
    refine OW.nil ?_
    obtain ⟨o451, ho452, hm⟩ := bndE hm
    have hL := hL.sel [2, 1, 0, 3, 4, 5] (by decide) rfl
    refine CW.loopB (fun (s_l1 : (List (List Int)) × (List (List Int)) × Int) (F : Fr) (w : World) => ∃ (v445 : Value) (S446 : Nat → Prop) (v447 : Value) (S448 : Nat → Prop), F 1 = (.pointer (some ⟨b4, 0, none⟩)) ∧ F 2 = (.pointer (some ⟨b6, 0, none⟩)) ∧ F 4 = (.pointer (some ⟨b21, 0, none⟩)) ∧ F 5 = (.int .i64 s_l1.2.2) ∧ Hp w0 [Ent.own 61 S446 v445 s_l1.1, Ent.own 61 S448 v447 s_l1.2.1, Ent.blk b21 56 #[(.int .i64 a0.Boats), v445, v447], Ent.blk b6 56 #[(.int .i64 0), (.slice none 0 0), (.slice none 0 0)], Ent.blk b4 31 #[(.int .i64 a0.Boats), (.int .i64 a0.Scheme), v1], Ent.snap w0 w0.heap.size] w) (fun o => outc o (fun x => some x) (fun s => M.spec_TableOf_a1 a0 s) = some r) ho452 hm ⟨v15, S16, v18, S19, rfl, rfl, rfl, rfl, hL⟩ ?_ ?_
    · intro s_l1 F453 wd454 hJ hm
      have hm := outcE hm
      have hm : M.spec_TableOf_a1 a0 s_l1 = some r := hm
      unfold M.spec_TableOf_a1 at hm
      obtain ⟨v445, S446, v447, S448, f455, f456, f457, f458, hL⟩ := hJ
      refine CW.seq ?_
      refine CW.regionL ?_
      refine OW.cons (OP.val (v := (.agg #[(.int .i64 a0.Boats), v445, v447])) rfl (x_loadN (cs := [(.int .i64 a0.Boats), v445, v447]) Try.underlying56 Try_T56 rfl f457 (hL.cellsB 2 rfl (o := 0) (l := [(.int .i64 a0.Boats), v445, v447]) (by intro j u hj; exact (by simpa using hj)))) ?_)
      refine OW.cons (S_storeN (l := [(.int .i64 a0.Boats), v445, v447]) (cs' := #[(.int .i64 a0.Boats), v445, v447]) hL 3 rfl Try_T56 f456 rfl (List.forall_mem_cons.2 ⟨rfl, (List.forall_mem_cons.2 ⟨rdL_one (hL.rdO 0 rfl), (List.forall_mem_cons.2 ⟨rdL_one (hL.rdO 1 rfl), (fun _ h => by cases h)⟩)⟩)⟩) rfl (Nat.le_of_ble_eq_true rfl) rfl ?_)
      intro wd459 hL
      refine OW.cons (OP.val (v := (.int .i64 0)) rfl (x_assign) ?_)
      refine OW.nil ?_
      refine CW.ret ?_
      obtain rfl := Option.some.inj hm
      exact RRct rfl f456 (run_loadBlk Try.underlying56 Try_T56 (hL.get 3 rfl) rfl) rfl ⟨v445, S446, v447, S448, rfl, hL.fresh 5 rfl [0, 1] (by decide) (by decide) rfl⟩
    · intro s_l1 F460 wd461 t449 hJ hm hr450
      unfold M.spec_TableOf_l1 at hm
      obtain ⟨v445, S446, v447, S448, f462, f463, f464, f465, hL⟩ := hJ
      refine CW.seq ?_
      refine CW.seq ?_
      refine CW.regionL ?_
      refine OW.cons (OP.val (v := (.int .i64 s_l1.2.2)) rfl (x_mv f465) ?_)
      refine OW.cons (OP.val (v := (.pointer (some ⟨b4, 2, none⟩))) rfl (x_fieldAddr (fsz := 1) 0 2 2 Try.underlying31 rfl Try_T29 rfl f462 rfl) ?_)
      refine OW.cons (OP.val (v := v1) rfl (x_load1 Try.underlying29 rfl rfl (hL.cellB 4 rfl rfl)) ?_)
      refine OW.cons (OP.val (v := (.int .i64 (a0.Races.length : Int))) rfl (x_lenR Try.underlying29 rfl (hL.rdS 5 rfl h2)) ?_)
      refine OW.cons (OP.val (v := (.bool (decide (s_l1.2.2 < (a0.Races.length : Int))))) rfl (x_lss rfl rfl) ?_)
      refine OW.nil ?_
      refine CW.condM (t := decide (s_l1.2.2 < (a0.Races.length : Int))) rfl hm (fun hb466 hm => ?_) (fun hb466 hm => ?_)
      · refine CW.skip ?_
        refine CW.seq ?_
        refine CW.block ?_
        refine CW.seq ?_
        refine CW.regionL ?_
        refine OW.cons (S_lit ([] : List Int) hL Try.underlying61 Try_T2 rfl (by decide) (by first | (simp [Instr.fill, madeCells, Value.cells, ev, upd, Flat.enc, Flat.sz]; done) | rfl | kernel_rfl) rfl rfl ?_)
        intro wd467 v468 S469 hL
        refine OW.cons (OP.val (v := v468) rfl (x_assign) ?_)
        refine OW.nil ?_
        refine CW.seq ?_
        refine CW.seq ?_
        refine CW.regionL ?_
        refine OW.cons (OP.val (v := (.int .i64 0)) rfl (x_assign) ?_)
        refine OW.nil ?_
        obtain ⟨o550, ho551, hm⟩ := bndE hm
        refine CW.loopB (fun (s_l2 : (List Int) × Int) (F : Fr) (w : World) => ∃ (v546 : Value) (S547 : Nat → Prop), F 1 = (.pointer (some ⟨b4, 0, none⟩)) ∧ F 2 = (.pointer (some ⟨b6, 0, none⟩)) ∧ F 4 = (.pointer (some ⟨b21, 0, none⟩)) ∧ F 5 = (.int .i64 s_l1.2.2) ∧ F 6 = v546 ∧ F 7 = (.int .i64 s_l2.2) ∧ Hp w0 [Ent.own 2 S547 v546 s_l2.1, Ent.own 61 S446 v445 s_l1.1, Ent.own 61 S448 v447 s_l1.2.1, Ent.blk b21 56 #[(.int .i64 a0.Boats), v445, v447], Ent.blk b6 56 #[(.int .i64 0), (.slice none 0 0), (.slice none 0 0)], Ent.blk b4 31 #[(.int .i64 a0.Boats), (.int .i64 a0.Scheme), v1], Ent.snap w0 w0.heap.size] w) (fun o => outc o (fun x => some (.ret x)) (fun s => M.spec_TableOf_a2 a0 s_l1 s) = some t449) ho551 hm ⟨v468, S469, f462, f463, f464, f465, rfl, rfl, hL⟩ ?_ ?_
        · intro s_l2 F552 wd553 hJ hm
          have hm := outcE hm
          have hm : M.spec_TableOf_a2 a0 s_l1 s_l2 = some t449 := hm
          unfold M.spec_TableOf_a2 at hm
          obtain ⟨v546, S547, f554, f555, f556, f557, f558, f559, hL⟩ := hJ
          obtain ⟨wz560, hL, ho561⟩ := hL.freeze 1 rfl
          simp only [lC, lD] at hL
          obtain ⟨wz562, hL, ho563⟩ := hL.freeze 2 rfl
          simp only [lC, lD] at hL
          refine CW.drawH (fun w' => Hp w0 [Ent.blk b6 56 #[(.int .i64 0), (.slice none 0 0), (.slice none 0 0)], Ent.blk b4 31 #[(.int .i64 a0.Boats), (.int .i64 a0.Scheme), v1], Ent.snap w0 w0.heap.size] w') Try_mixed ?_
          have hL := hL.call (Mod.drew _)
          have hS := (hL.sel [4, 5, 6] (by decide) rfl)
          refine DH.take 0 rfl (by kernel_rfl) (by kernel_rfl) (by kernel_rfl) rfl rfl hS (YH.val (v := (.pointer (some ⟨b4, 0, none⟩))) (fun w' hS' => x_fieldAddr (fsz := 1) 0 0 0 Try.underlying31 rfl Try_T2 rfl f554 rfl)) ?_
          have hS := (hL.sel [4, 5, 6] (by decide) rfl)
          refine DH.take 1 rfl (by kernel_rfl) (by kernel_rfl) (by kernel_rfl) rfl rfl hS (YH.val (v := (.int .i64 a0.Boats)) (fun w' hS' => x_load1 Try.underlying2 rfl rfl (hS'.cellB 1 rfl rfl))) ?_
          have hS := (hL.sel [4, 5, 6] (by decide) rfl)
          refine DH.take 2 rfl (by kernel_rfl) (by kernel_rfl) (by kernel_rfl) rfl rfl hS (YH.val (v := (.pointer (some ⟨b21, 1, none⟩))) (fun w' hS' => x_fieldAddr (fsz := 1) 0 1 1 Try.underlying56 rfl Try_T54 rfl f556 rfl)) ?_
          have hS := (hL.sel [4, 5, 6] (by decide) rfl)
          refine DH.take 4 rfl (by kernel_rfl) (by kernel_rfl) (by kernel_rfl) rfl rfl hS (YH.val (v := (.pointer (some ⟨b4, 2, none⟩))) (fun w' hS' => x_fieldAddr (fsz := 1) 0 2 2 Try.underlying31 rfl Try_T29 rfl f554 rfl)) ?_
          have hS := (hL.sel [4, 5, 6] (by decide) rfl)
          refine DH.take 5 rfl (by kernel_rfl) (by kernel_rfl) (by kernel_rfl) rfl rfl hS (YH.val (v := v1) (fun w' hS' => x_load1 Try.underlying29 rfl rfl (hS'.cellB 1 rfl rfl))) ?_
          have hS := (hL.sel [4, 5, 6] (by decide) rfl)
          refine DH.take 6 rfl (by kernel_rfl) (by kernel_rfl) (by kernel_rfl) rfl rfl hS (YH.val (v := (.int .i64 s_l1.2.2)) (fun w' hS' => x_mv f557)) ?_
          have hS := (hL.sel [4, 5, 6] (by decide) rfl)
          obtain ⟨x597, ha598, hm⟩ := bndE hm
          obtain ⟨hz599, ha607⟩ := idxE ha598
          obtain ⟨b600, q601, v602, hix603, hs604, hc605, hr606⟩ := rdN_at h2 hz599 ha607
          refine DH.take 7 rfl (by kernel_rfl) (by kernel_rfl) (by kernel_rfl) rfl rfl hS (YH.val (v := (.pointer (some ⟨b600, q601, none⟩))) (fun w' hS' => x_ix Try.underlying29 Try_T46 rfl rfl hix603)) ?_
          have hS := (hL.sel [4, 5, 6] (by decide) rfl)
          refine DH.take 8 rfl (by kernel_rfl) (by kernel_rfl) (by kernel_rfl) rfl rfl hS (YH.val (v := (.agg #[v602])) (fun w' hS' => x_loadN (cs := [v602]) Try.underlying46 Try_T46 rfl rfl (by intro j u hj; match j, hj with | 0, hj => (simp at hj; subst hj; exact (hS'.cellS 2 rfl hs604 hc605))))) ?_
          have hS := (hL.sel [4, 5, 6] (by decide) rfl)
          refine DH.take 9 rfl (by kernel_rfl) (by kernel_rfl) (by kernel_rfl) rfl rfl hS (YH.val (v := (.pointer (some ⟨b4, 1, none⟩))) (fun w' hS' => x_fieldAddr (fsz := 1) 0 1 1 Try.underlying31 rfl Try_T2 rfl f554 rfl)) ?_
          have hS := (hL.sel [4, 5, 6] (by decide) rfl)
          refine DH.take 10 rfl (by kernel_rfl) (by kernel_rfl) (by kernel_rfl) rfl rfl hS (YH.val (v := (.int .i64 a0.Scheme)) (fun w' hS' => x_load1 Try.underlying2 rfl rfl (hS'.cellB 1 rfl rfl))) ?_
          have hS := (hL.sel [4, 5, 6] (by decide) rfl)
          refine DH.take 14 rfl (by kernel_rfl) (by kernel_rfl) (by kernel_rfl) rfl rfl hS (YH.val (v := (.pointer (some ⟨b21, 2, none⟩))) (fun w' hS' => x_fieldAddr (fsz := 1) 0 2 2 Try.underlying56 rfl Try_T54 rfl f556 rfl)) ?_
          have hS := (hL.sel [4, 5, 6] (by decide) rfl)
          refine DH.take 16 rfl (by kernel_rfl) (by kernel_rfl) (by kernel_rfl) rfl rfl hS (YH.val (v := v546) (fun w' hS' => x_mv f558)) ?_
          obtain ⟨x608, hx609, hm⟩ := bndE hm
          obtain ⟨hc621, hm⟩ := chkE hm
          obtain ⟨hc628, hm⟩ := chkE hm
          refine DH.node (listed' := #[true, true, true, true, true, true, true, true, true, true, true, true, true, true, true, true, true, true, true, true, true]) (fuel' := 0) (fun (F : Fr) (w : World) => ∃ (v781 : Value) (S782 : Nat → Prop) (v783 : Value) (S784 : Nat → Prop), F 1 = (.pointer (some ⟨b4, 0, none⟩)) ∧ F 2 = (.pointer (some ⟨b6, 0, none⟩)) ∧ F 4 = (.pointer (some ⟨b21, 0, none⟩)) ∧ F 5 = (.int .i64 s_l1.2.2) ∧ Hp w0 [Ent.own 61 S782 v781 (s_l1.2.1 ++ ([s_l2.1] : List (List Int))), Ent.own 61 S784 v783 (s_l1.1 ++ ([x608] : List (List Int))), Ent.blk b21 56 #[(.int .i64 a0.Boats), v783, v781], Ent.blk b6 56 #[(.int .i64 0), (.slice none 0 0), (.slice none 0 0)], Ent.blk b4 31 #[(.int .i64 a0.Boats), (.int .i64 a0.Scheme), v1], Ent.snap w0 w0.heap.size] w) ?_ (fun hN752 => ?_)
          · intro F857 wd858 hJ
            obtain ⟨v781, S782, v783, S784, f859, f860, f861, f862, hL⟩ := hJ
            refine DH.done (by kernel_rfl) ?_
            refine CW.regionL ?_
            refine OW.cons (OP.val (v := (.int .i64 s_l1.2.2)) rfl (x_mv f862) ?_)
            refine OW.cons (OP.val (v := (.int .i64 (w64 (s_l1.2.2 + 1)))) rfl (x_add rfl rfl) ?_)
            refine OW.cons (OP.val (v := (.int .i64 (w64 (s_l1.2.2 + 1)))) rfl (x_assign) ?_)
            refine OW.nil ?_
            have hL := hL.sel [1, 0, 2, 3, 4, 5] (by decide) rfl
            obtain rfl := Option.some.inj hm
            exact ⟨_, rfl, ⟨v783, S784, v781, S782, f859, f860, f861, rfl, hL⟩⟩
          refine DH.node (listed' := #[true, true, true, true, true, true, true, true, true, true, true, true, true, true, true, true, true, true, true, true, false]) (fuel' := 1) (fun (F : Fr) (w : World) => ∃ (v785 : Value) (S786 : Nat → Prop) (v787 : Value) (S788 : Nat → Prop), F 1 = (.pointer (some ⟨b4, 0, none⟩)) ∧ F 2 = (.pointer (some ⟨b6, 0, none⟩)) ∧ F 4 = (.pointer (some ⟨b21, 0, none⟩)) ∧ F 5 = (.int .i64 s_l1.2.2) ∧ F 68 = (.agg #[(.int .i64 a0.Boats), v787, v785]) ∧ Hp w0 [Ent.own 61 S786 v785 (s_l1.2.1 ++ ([s_l2.1] : List (List Int))), Ent.own 61 S788 v787 (s_l1.1 ++ ([x608] : List (List Int))), Ent.blk b21 56 #[(.int .i64 a0.Boats), v445, v447], Ent.blk b6 56 #[(.int .i64 0), (.slice none 0 0), (.slice none 0 0)], Ent.blk b4 31 #[(.int .i64 a0.Boats), (.int .i64 a0.Scheme), v1], Ent.snap w0 w0.heap.size] w) ?_ (fun hN753 => ?_)
          · intro F863 wd864 hJ
            obtain ⟨v785, S786, v787, S788, f865, f866, f867, f868, f869, hL⟩ := hJ
            refine DH.only 20 rfl (by kernel_rfl) (S_storeN (l := [(.int .i64 a0.Boats), v787, v785]) (cs' := #[(.int .i64 a0.Boats), v787, v785]) hL 2 rfl Try_T56 f867 rfl (List.forall_mem_cons.2 ⟨rfl, (List.forall_mem_cons.2 ⟨rdL_one (hL.rdO 1 rfl), (List.forall_mem_cons.2 ⟨rdL_one (hL.rdO 0 rfl), (fun _ h => by cases h)⟩)⟩)⟩) f869 (Nat.le_of_ble_eq_true rfl) rfl ?_)
            intro wd870 hL
            refine ⟨(hL.sel [3, 4, 5] (by decide) rfl), ?_⟩
            exact DH.relist (listed' := #[true, true, true, true, true, true, true, true, true, true, true, true, true, true, true, true, true, true, true, true, true]) (by kernel_rfl) (hN752 _ _ ⟨v785, S786, v787, S788, f865, f866, f867, f868, hL⟩)
          refine DH.node (listed' := #[true, true, true, true, true, true, true, true, true, true, true, true, true, true, true, true, true, true, false, false, false]) (fuel' := 3) (fun (F : Fr) (w : World) => ∃ (v789 : Value) (S790 : Nat → Prop) (v791 : Value) (S792 : Nat → Prop), F 1 = (.pointer (some ⟨b4, 0, none⟩)) ∧ F 2 = (.pointer (some ⟨b6, 0, none⟩)) ∧ F 4 = (.pointer (some ⟨b21, 0, none⟩)) ∧ F 5 = (.int .i64 s_l1.2.2) ∧ F 50 = (.int .i64 a0.Boats) ∧ F 62 = v791 ∧ F 64 = v447 ∧ F 66 = v789 ∧ Hp w0 [Ent.own 61 S790 v789 ([s_l2.1] : List (List Int)), Ent.own 61 S792 v791 (s_l1.1 ++ ([x608] : List (List Int))), Ent.frzS wz562 S448, Ent.blk b21 56 #[(.int .i64 a0.Boats), v445, v447], Ent.blk b6 56 #[(.int .i64 0), (.slice none 0 0), (.slice none 0 0)], Ent.blk b4 31 #[(.int .i64 a0.Boats), (.int .i64 a0.Scheme), v1], Ent.snap w0 w0.heap.size] w) ?_ (fun hN754 => ?_)
          · intro F871 wd872 hJ
            obtain ⟨v789, S790, v791, S792, f873, f874, f875, f876, f877, f878, f879, f880, hL⟩ := hJ
            have hL := hL.thaw 2 rfl ho563
            have hL := hL.sel [2, 0, 1, 3, 4, 5, 6] (by decide) rfl
            refine DH.only 18 rfl (by kernel_rfl) (S_appendN Int hL Try.underlying54 Try_T61 rfl f879 f880 hc628 (by decide) rfl ?_)
            intro wd881 v882 S883 hL
            refine ⟨(hL.sel [3, 4, 5] (by decide) rfl), ?_⟩
            have hS := (hL.sel [3, 4, 5] (by decide) rfl)
            refine DH.take 19 rfl (by kernel_rfl) (by kernel_rfl) (by kernel_rfl) rfl rfl hS (YH.val (v := (.agg #[(.int .i64 a0.Boats), v791, v882])) (fun w' hS' => x_build Try_B56 (ps := [(0, (.int .i64 a0.Boats)), (1, v791), (2, v882)]) ⟨⟨rfl, f877⟩, ⟨rfl, f878⟩, ⟨rfl, rfl⟩, trivial⟩ (by simp [Instr.fill, cells_int, cells_bool, cells_string, cells_agg, cells_slice, cells_pointer, (rdL_cells (hL.rdO 1 rfl)), (rdL_cells (hL.rdO 0 rfl))]))) ?_
            exact DH.relist (listed' := #[true, true, true, true, true, true, true, true, true, true, true, true, true, true, true, true, true, true, true, true, false]) (by kernel_rfl) (hN753 _ _ ⟨v882, S883, v791, S792, f873, f874, f875, f876, rfl, hL⟩)
          refine DH.node (listed' := #[true, true, true, true, true, true, true, true, true, true, true, true, true, true, true, true, true, false, false, false, false]) (fuel' := 4) (fun (F : Fr) (w : World) => ∃ (v793 : Value) (S794 : Nat → Prop), F 1 = (.pointer (some ⟨b4, 0, none⟩)) ∧ F 2 = (.pointer (some ⟨b6, 0, none⟩)) ∧ F 4 = (.pointer (some ⟨b21, 0, none⟩)) ∧ F 5 = (.int .i64 s_l1.2.2) ∧ F 50 = (.int .i64 a0.Boats) ∧ F 62 = v793 ∧ F 64 = v447 ∧ F 65 = v546 ∧ Hp w0 [Ent.own 61 S794 v793 (s_l1.1 ++ ([x608] : List (List Int))), Ent.own 2 S547 v546 s_l2.1, Ent.frzS wz562 S448, Ent.blk b21 56 #[(.int .i64 a0.Boats), v445, v447], Ent.blk b6 56 #[(.int .i64 0), (.slice none 0 0), (.slice none 0 0)], Ent.blk b4 31 #[(.int .i64 a0.Boats), (.int .i64 a0.Scheme), v1], Ent.snap w0 w0.heap.size] w) ?_ (fun hN755 => ?_)
          · intro F884 wd885 hJ
            obtain ⟨v793, S794, f886, f887, f888, f889, f890, f891, f892, f893, hL⟩ := hJ
            have hL := hL.sel [1, 0, 2, 3, 4, 5, 6] (by decide) rfl
            refine DH.only 17 rfl (by kernel_rfl) (S_lit1 s_l2.1 rfl hL Try.underlying54 Try_T61 ((congrArg Value.cells f893).trans (rdL_cells (hL.rdO 0 rfl))) rfl ?_)
            intro wd894 v895 S896 hL
            refine ⟨(hL.sel [4, 5, 6] (by decide) rfl), ?_⟩
            exact DH.relist (listed' := #[true, true, true, true, true, true, true, true, true, true, true, true, true, true, true, true, true, true, false, false, false]) (by kernel_rfl) (hN754 _ _ ⟨v895, S896, v793, S794, f886, f887, f888, f889, f890, f891, f892, rfl, hL⟩)
          refine DH.node (listed' := #[true, true, true, true, true, true, true, true, true, true, true, true, true, true, true, false, true, true, false, false, false]) (fuel' := 4) (fun (F : Fr) (w : World) => ∃ (v795 : Value) (S796 : Nat → Prop) (v797 : Value) (S798 : Nat → Prop), F 1 = (.pointer (some ⟨b4, 0, none⟩)) ∧ F 2 = (.pointer (some ⟨b6, 0, none⟩)) ∧ F 4 = (.pointer (some ⟨b21, 0, none⟩)) ∧ F 5 = (.int .i64 s_l1.2.2) ∧ F 50 = (.int .i64 a0.Boats) ∧ F 62 = v797 ∧ F 63 = (.pointer (some ⟨b21, 2, none⟩)) ∧ F 66 = v795 ∧ Hp w0 [Ent.own 61 S796 v795 ([s_l2.1] : List (List Int)), Ent.own 61 S798 v797 (s_l1.1 ++ ([x608] : List (List Int))), Ent.frzS wz562 S448, Ent.blk b21 56 #[(.int .i64 a0.Boats), v445, v447], Ent.blk b6 56 #[(.int .i64 0), (.slice none 0 0), (.slice none 0 0)], Ent.blk b4 31 #[(.int .i64 a0.Boats), (.int .i64 a0.Scheme), v1], Ent.snap w0 w0.heap.size] w) ?_ (fun hN756 => ?_)
          · intro F897 wd898 hJ
            obtain ⟨v795, S796, v797, S798, f899, f900, f901, f902, f903, f904, f905, f906, hL⟩ := hJ
            refine DH.only 15 rfl (by kernel_rfl) (OP.val (v := v447) rfl (x_load1 Try.underlying54 rfl f905 (hL.cellB 3 rfl rfl)) ?_)
            refine ⟨(hL.sel [4, 5, 6] (by decide) rfl), ?_⟩
            exact DH.relist (listed' := #[true, true, true, true, true, true, true, true, true, true, true, true, true, true, true, true, true, true, false, false, false]) (by kernel_rfl) (hN754 _ _ ⟨v795, S796, v797, S798, f899, f900, f901, f902, f903, f904, rfl, f906, hL⟩)
          refine DH.node (listed' := #[true, true, true, true, true, true, true, true, true, true, true, true, true, false, true, true, true, true, false, false, false]) (fuel' := 4) (fun (F : Fr) (w : World) => ∃ (v799 : Value) (S800 : Nat → Prop) (v801 : Value) (S802 : Nat → Prop), F 1 = (.pointer (some ⟨b4, 0, none⟩)) ∧ F 2 = (.pointer (some ⟨b6, 0, none⟩)) ∧ F 4 = (.pointer (some ⟨b21, 0, none⟩)) ∧ F 5 = (.int .i64 s_l1.2.2) ∧ F 50 = (.int .i64 a0.Boats) ∧ F 52 = v445 ∧ F 61 = v801 ∧ F 64 = v447 ∧ F 66 = v799 ∧ Hp w0 [Ent.own 61 S800 v799 ([s_l2.1] : List (List Int)), Ent.own 61 S802 v801 ([x608] : List (List Int)), Ent.frzS wz560 S446, Ent.frzS wz562 S448, Ent.blk b21 56 #[(.int .i64 a0.Boats), v445, v447], Ent.blk b6 56 #[(.int .i64 0), (.slice none 0 0), (.slice none 0 0)], Ent.blk b4 31 #[(.int .i64 a0.Boats), (.int .i64 a0.Scheme), v1], Ent.snap w0 w0.heap.size] w) ?_ (fun hN757 => ?_)
          · intro F907 wd908 hJ
            obtain ⟨v799, S800, v801, S802, f909, f910, f911, f912, f913, f914, f915, f916, f917, hL⟩ := hJ
            have hL := hL.thaw 2 rfl ho561
            have hL := hL.sel [2, 1, 0, 3, 4, 5, 6, 7] (by decide) rfl
            refine DH.only 13 rfl (by kernel_rfl) (S_appendN Int hL Try.underlying54 Try_T61 rfl f914 f915 hc621 (by decide) rfl ?_)
            intro wd918 v919 S920 hL
            refine ⟨(hL.sel [4, 5, 6] (by decide) rfl), ?_⟩
            have hL := hL.sel [1, 0, 2, 3, 4, 5, 6] (by decide) rfl
            exact DH.relist (listed' := #[true, true, true, true, true, true, true, true, true, true, true, true, true, true, true, true, true, true, false, false, false]) (by kernel_rfl) (hN754 _ _ ⟨v799, S800, v919, S920, f909, f910, f911, f912, f913, rfl, f916, f917, hL⟩)
          refine DH.node (listed' := #[true, true, true, true, true, true, true, true, true, true, true, true, true, true, true, false, true, false, false, false, false]) (fuel' := 5) (fun (F : Fr) (w : World) => ∃ (v803 : Value) (S804 : Nat → Prop), F 1 = (.pointer (some ⟨b4, 0, none⟩)) ∧ F 2 = (.pointer (some ⟨b6, 0, none⟩)) ∧ F 4 = (.pointer (some ⟨b21, 0, none⟩)) ∧ F 5 = (.int .i64 s_l1.2.2) ∧ F 50 = (.int .i64 a0.Boats) ∧ F 62 = v803 ∧ F 63 = (.pointer (some ⟨b21, 2, none⟩)) ∧ F 65 = v546 ∧ Hp w0 [Ent.own 61 S804 v803 (s_l1.1 ++ ([x608] : List (List Int))), Ent.own 2 S547 v546 s_l2.1, Ent.frzS wz562 S448, Ent.blk b21 56 #[(.int .i64 a0.Boats), v445, v447], Ent.blk b6 56 #[(.int .i64 0), (.slice none 0 0), (.slice none 0 0)], Ent.blk b4 31 #[(.int .i64 a0.Boats), (.int .i64 a0.Scheme), v1], Ent.snap w0 w0.heap.size] w) ?_ (fun hN758 => ?_)
          · intro F921 wd922 hJ
            obtain ⟨v803, S804, f923, f924, f925, f926, f927, f928, f929, f930, hL⟩ := hJ
            refine DH.all (rs := [15, 17]) (by kernel_rfl) (by simp) ?_
            intro i931 hi932
            simp only [List.mem_cons, List.not_mem_nil, or_false] at hi932
            rcases hi932 with rfl | rfl
            · refine ⟨_, rfl, ?_⟩
              refine OP.val (v := v447) rfl (x_load1 Try.underlying54 rfl f929 (hL.cellB 3 rfl rfl)) ?_
              refine ⟨(hL.sel [4, 5, 6] (by decide) rfl), ?_⟩
              exact DH.relist (listed' := #[true, true, true, true, true, true, true, true, true, true, true, true, true, true, true, true, true, false, false, false, false]) (by kernel_rfl) (hN755 _ _ ⟨v803, S804, f923, f924, f925, f926, f927, f928, rfl, f930, hL⟩)
            · refine ⟨_, rfl, ?_⟩
              have hL := hL.sel [1, 0, 2, 3, 4, 5, 6] (by decide) rfl
              refine S_lit1 s_l2.1 rfl hL Try.underlying54 Try_T61 ((congrArg Value.cells f930).trans (rdL_cells (hL.rdO 0 rfl))) rfl ?_
              intro wd933 v934 S935 hL
              refine ⟨(hL.sel [4, 5, 6] (by decide) rfl), ?_⟩
              exact DH.relist (listed' := #[true, true, true, true, true, true, true, true, true, true, true, true, true, true, true, false, true, true, false, false, false]) (by kernel_rfl) (hN756 _ _ ⟨v934, S935, v803, S804, f923, f924, f925, f926, f927, f928, f929, rfl, hL⟩)
          refine DH.node (listed' := #[true, true, true, true, true, true, true, true, true, true, true, true, true, false, true, true, true, false, false, false, false]) (fuel' := 5) (fun (F : Fr) (w : World) => ∃ (v805 : Value) (S806 : Nat → Prop), F 1 = (.pointer (some ⟨b4, 0, none⟩)) ∧ F 2 = (.pointer (some ⟨b6, 0, none⟩)) ∧ F 4 = (.pointer (some ⟨b21, 0, none⟩)) ∧ F 5 = (.int .i64 s_l1.2.2) ∧ F 50 = (.int .i64 a0.Boats) ∧ F 52 = v445 ∧ F 61 = v805 ∧ F 64 = v447 ∧ F 65 = v546 ∧ Hp w0 [Ent.own 61 S806 v805 ([x608] : List (List Int)), Ent.own 2 S547 v546 s_l2.1, Ent.frzS wz560 S446, Ent.frzS wz562 S448, Ent.blk b21 56 #[(.int .i64 a0.Boats), v445, v447], Ent.blk b6 56 #[(.int .i64 0), (.slice none 0 0), (.slice none 0 0)], Ent.blk b4 31 #[(.int .i64 a0.Boats), (.int .i64 a0.Scheme), v1], Ent.snap w0 w0.heap.size] w) ?_ (fun hN759 => ?_)
          · intro F936 wd937 hJ
            obtain ⟨v805, S806, f938, f939, f940, f941, f942, f943, f944, f945, f946, hL⟩ := hJ
            refine DH.all (rs := [13, 17]) (by kernel_rfl) (by simp) ?_
            intro i947 hi948
            simp only [List.mem_cons, List.not_mem_nil, or_false] at hi948
            rcases hi948 with rfl | rfl
            · refine ⟨_, rfl, ?_⟩
              have hL := hL.thaw 2 rfl ho561
              have hL := hL.sel [2, 0, 1, 3, 4, 5, 6, 7] (by decide) rfl
              refine S_appendN Int hL Try.underlying54 Try_T61 rfl f943 f944 hc621 (by decide) rfl ?_
              intro wd949 v950 S951 hL
              refine ⟨(hL.sel [4, 5, 6] (by decide) rfl), ?_⟩
              exact DH.relist (listed' := #[true, true, true, true, true, true, true, true, true, true, true, true, true, true, true, true, true, false, false, false, false]) (by kernel_rfl) (hN755 _ _ ⟨v950, S951, f938, f939, f940, f941, f942, rfl, f945, f946, hL⟩)
            · refine ⟨_, rfl, ?_⟩
              have hL := hL.sel [1, 0, 2, 3, 4, 5, 6, 7] (by decide) rfl
              refine S_lit1 s_l2.1 rfl hL Try.underlying54 Try_T61 ((congrArg Value.cells f946).trans (rdL_cells (hL.rdO 0 rfl))) rfl ?_
              intro wd952 v953 S954 hL
              refine ⟨(hL.sel [5, 6, 7] (by decide) rfl), ?_⟩
              exact DH.relist (listed' := #[true, true, true, true, true, true, true, true, true, true, true, true, true, false, true, true, true, true, false, false, false]) (by kernel_rfl) (hN757 _ _ ⟨v953, S954, v805, S806, f938, f939, f940, f941, f942, f943, f944, f945, rfl, hL⟩)
          refine DH.node (listed' := #[true, true, true, true, true, true, true, true, true, true, true, true, true, false, true, false, true, true, false, false, false]) (fuel' := 5) (fun (F : Fr) (w : World) => ∃ (v807 : Value) (S808 : Nat → Prop) (v809 : Value) (S810 : Nat → Prop), F 1 = (.pointer (some ⟨b4, 0, none⟩)) ∧ F 2 = (.pointer (some ⟨b6, 0, none⟩)) ∧ F 4 = (.pointer (some ⟨b21, 0, none⟩)) ∧ F 5 = (.int .i64 s_l1.2.2) ∧ F 50 = (.int .i64 a0.Boats) ∧ F 52 = v445 ∧ F 61 = v809 ∧ F 63 = (.pointer (some ⟨b21, 2, none⟩)) ∧ F 66 = v807 ∧ Hp w0 [Ent.own 61 S808 v807 ([s_l2.1] : List (List Int)), Ent.own 61 S810 v809 ([x608] : List (List Int)), Ent.frzS wz560 S446, Ent.frzS wz562 S448, Ent.blk b21 56 #[(.int .i64 a0.Boats), v445, v447], Ent.blk b6 56 #[(.int .i64 0), (.slice none 0 0), (.slice none 0 0)], Ent.blk b4 31 #[(.int .i64 a0.Boats), (.int .i64 a0.Scheme), v1], Ent.snap w0 w0.heap.size] w) ?_ (fun hN760 => ?_)
          · intro F955 wd956 hJ
            obtain ⟨v807, S808, v809, S810, f957, f958, f959, f960, f961, f962, f963, f964, f965, hL⟩ := hJ
            refine DH.all (rs := [13, 15]) (by kernel_rfl) (by simp) ?_
            intro i966 hi967
            simp only [List.mem_cons, List.not_mem_nil, or_false] at hi967
            rcases hi967 with rfl | rfl
            · refine ⟨_, rfl, ?_⟩
              have hL := hL.thaw 2 rfl ho561
              have hL := hL.sel [2, 1, 0, 3, 4, 5, 6, 7] (by decide) rfl
              refine S_appendN Int hL Try.underlying54 Try_T61 rfl f962 f963 hc621 (by decide) rfl ?_
              intro wd968 v969 S970 hL
              refine ⟨(hL.sel [4, 5, 6] (by decide) rfl), ?_⟩
              have hL := hL.sel [1, 0, 2, 3, 4, 5, 6] (by decide) rfl
              exact DH.relist (listed' := #[true, true, true, true, true, true, true, true, true, true, true, true, true, true, true, false, true, true, false, false, false]) (by kernel_rfl) (hN756 _ _ ⟨v807, S808, v969, S970, f957, f958, f959, f960, f961, rfl, f964, f965, hL⟩)
            · refine ⟨_, rfl, ?_⟩
              refine OP.val (v := v447) rfl (x_load1 Try.underlying54 rfl f964 (hL.cellB 4 rfl rfl)) ?_
              refine ⟨(hL.sel [5, 6, 7] (by decide) rfl), ?_⟩
              exact DH.relist (listed' := #[true, true, true, true, true, true, true, true, true, true, true, true, true, false, true, true, true, true, false, false, false]) (by kernel_rfl) (hN757 _ _ ⟨v807, S808, v809, S810, f957, f958, f959, f960, f961, f962, f963, rfl, f965, hL⟩)
          refine DH.node (listed' := #[true, true, true, true, true, true, true, true, true, true, true, true, false, false, true, true, true, true, false, false, false]) (fuel' := 5) (fun (F : Fr) (w : World) => ∃ (v811 : Value) (S812 : Nat → Prop) (v813 : Value) (S814 : Nat → Prop), F 1 = (.pointer (some ⟨b4, 0, none⟩)) ∧ F 2 = (.pointer (some ⟨b6, 0, none⟩)) ∧ F 4 = (.pointer (some ⟨b21, 0, none⟩)) ∧ F 5 = (.int .i64 s_l1.2.2) ∧ F 50 = (.int .i64 a0.Boats) ∧ F 52 = v445 ∧ F 60 = v813 ∧ F 64 = v447 ∧ F 66 = v811 ∧ Hp w0 [Ent.own 61 S812 v811 ([s_l2.1] : List (List Int)), Ent.own 2 S814 v813 x608, Ent.frzS wz560 S446, Ent.frzS wz562 S448, Ent.blk b21 56 #[(.int .i64 a0.Boats), v445, v447], Ent.blk b6 56 #[(.int .i64 0), (.slice none 0 0), (.slice none 0 0)], Ent.blk b4 31 #[(.int .i64 a0.Boats), (.int .i64 a0.Scheme), v1], Ent.snap w0 w0.heap.size] w) ?_ (fun hN761 => ?_)
          · intro F971 wd972 hJ
            obtain ⟨v811, S812, v813, S814, f973, f974, f975, f976, f977, f978, f979, f980, f981, hL⟩ := hJ
            have hL := hL.sel [1, 0, 2, 3, 4, 5, 6, 7] (by decide) rfl
            refine DH.only 12 rfl (by kernel_rfl) (S_lit1 x608 rfl hL Try.underlying54 Try_T61 ((congrArg Value.cells f979).trans (rdL_cells (hL.rdO 0 rfl))) rfl ?_)
            intro wd982 v983 S984 hL
            refine ⟨(hL.sel [5, 6, 7] (by decide) rfl), ?_⟩
            have hL := hL.sel [1, 0, 2, 3, 4, 5, 6, 7] (by decide) rfl
            exact DH.relist (listed' := #[true, true, true, true, true, true, true, true, true, true, true, true, true, false, true, true, true, true, false, false, false]) (by kernel_rfl) (hN757 _ _ ⟨v811, S812, v983, S984, f973, f974, f975, f976, f977, f978, rfl, f980, f981, hL⟩)
          refine DH.node (listed' := #[true, true, true, false, true, true, true, true, true, true, true, true, true, false, true, true, true, true, false, false, false]) (fuel' := 5) (fun (F : Fr) (w : World) => ∃ (v815 : Value) (S816 : Nat → Prop) (v817 : Value) (S818 : Nat → Prop), F 1 = (.pointer (some ⟨b4, 0, none⟩)) ∧ F 2 = (.pointer (some ⟨b6, 0, none⟩)) ∧ F 4 = (.pointer (some ⟨b21, 0, none⟩)) ∧ F 5 = (.int .i64 s_l1.2.2) ∧ F 50 = (.int .i64 a0.Boats) ∧ F 51 = (.pointer (some ⟨b21, 1, none⟩)) ∧ F 61 = v817 ∧ F 64 = v447 ∧ F 66 = v815 ∧ Hp w0 [Ent.own 61 S816 v815 ([s_l2.1] : List (List Int)), Ent.own 61 S818 v817 ([x608] : List (List Int)), Ent.frzS wz560 S446, Ent.frzS wz562 S448, Ent.blk b21 56 #[(.int .i64 a0.Boats), v445, v447], Ent.blk b6 56 #[(.int .i64 0), (.slice none 0 0), (.slice none 0 0)], Ent.blk b4 31 #[(.int .i64 a0.Boats), (.int .i64 a0.Scheme), v1], Ent.snap w0 w0.heap.size] w) ?_ (fun hN762 => ?_)
          · intro F985 wd986 hJ
            obtain ⟨v815, S816, v817, S818, f987, f988, f989, f990, f991, f992, f993, f994, f995, hL⟩ := hJ
            refine DH.only 3 rfl (by kernel_rfl) (OP.val (v := v445) rfl (x_load1 Try.underlying54 rfl f992 (hL.cellB 4 rfl rfl)) ?_)
            refine ⟨(hL.sel [5, 6, 7] (by decide) rfl), ?_⟩
            exact DH.relist (listed' := #[true, true, true, true, true, true, true, true, true, true, true, true, true, false, true, true, true, true, false, false, false]) (by kernel_rfl) (hN757 _ _ ⟨v815, S816, v817, S818, f987, f988, f989, f990, f991, rfl, f993, f994, f995, hL⟩)
          refine DH.node (listed' := #[true, true, true, true, true, true, true, true, true, true, true, true, true, false, true, false, true, false, false, false, false]) (fuel' := 6) (fun (F : Fr) (w : World) => ∃ (v819 : Value) (S820 : Nat → Prop), F 1 = (.pointer (some ⟨b4, 0, none⟩)) ∧ F 2 = (.pointer (some ⟨b6, 0, none⟩)) ∧ F 4 = (.pointer (some ⟨b21, 0, none⟩)) ∧ F 5 = (.int .i64 s_l1.2.2) ∧ F 50 = (.int .i64 a0.Boats) ∧ F 52 = v445 ∧ F 61 = v819 ∧ F 63 = (.pointer (some ⟨b21, 2, none⟩)) ∧ F 65 = v546 ∧ Hp w0 [Ent.own 61 S820 v819 ([x608] : List (List Int)), Ent.own 2 S547 v546 s_l2.1, Ent.frzS wz560 S446, Ent.frzS wz562 S448, Ent.blk b21 56 #[(.int .i64 a0.Boats), v445, v447], Ent.blk b6 56 #[(.int .i64 0), (.slice none 0 0), (.slice none 0 0)], Ent.blk b4 31 #[(.int .i64 a0.Boats), (.int .i64 a0.Scheme), v1], Ent.snap w0 w0.heap.size] w) ?_ (fun hN763 => ?_)
          · intro F996 wd997 hJ
            obtain ⟨v819, S820, f998, f999, f1000, f1001, f1002, f1003, f1004, f1005, f1006, hL⟩ := hJ
            refine DH.all (rs := [13, 15, 17]) (by kernel_rfl) (by simp) ?_
            intro i1007 hi1008
            simp only [List.mem_cons, List.not_mem_nil, or_false] at hi1008
            rcases hi1008 with rfl | rfl | rfl
            · refine ⟨_, rfl, ?_⟩
              have hL := hL.thaw 2 rfl ho561
              have hL := hL.sel [2, 0, 1, 3, 4, 5, 6, 7] (by decide) rfl
              refine S_appendN Int hL Try.underlying54 Try_T61 rfl f1003 f1004 hc621 (by decide) rfl ?_
              intro wd1009 v1010 S1011 hL
              refine ⟨(hL.sel [4, 5, 6] (by decide) rfl), ?_⟩
              exact DH.relist (listed' := #[true, true, true, true, true, true, true, true, true, true, true, true, true, true, true, false, true, false, false, false, false]) (by kernel_rfl) (hN758 _ _ ⟨v1010, S1011, f998, f999, f1000, f1001, f1002, rfl, f1005, f1006, hL⟩)
            · refine ⟨_, rfl, ?_⟩
              refine OP.val (v := v447) rfl (x_load1 Try.underlying54 rfl f1005 (hL.cellB 4 rfl rfl)) ?_
              refine ⟨(hL.sel [5, 6, 7] (by decide) rfl), ?_⟩
              exact DH.relist (listed' := #[true, true, true, true, true, true, true, true, true, true, true, true, true, false, true, true, true, false, false, false, false]) (by kernel_rfl) (hN759 _ _ ⟨v819, S820, f998, f999, f1000, f1001, f1002, f1003, f1004, rfl, f1006, hL⟩)
            · refine ⟨_, rfl, ?_⟩
              have hL := hL.sel [1, 0, 2, 3, 4, 5, 6, 7] (by decide) rfl
              refine S_lit1 s_l2.1 rfl hL Try.underlying54 Try_T61 ((congrArg Value.cells f1006).trans (rdL_cells (hL.rdO 0 rfl))) rfl ?_
              intro wd1012 v1013 S1014 hL
              refine ⟨(hL.sel [5, 6, 7] (by decide) rfl), ?_⟩
              exact DH.relist (listed' := #[true, true, true, true, true, true, true, true, true, true, true, true, true, false, true, false, true, true, false, false, false]) (by kernel_rfl) (hN760 _ _ ⟨v1013, S1014, v819, S820, f998, f999, f1000, f1001, f1002, f1003, f1004, f1005, rfl, hL⟩)
          refine DH.node (listed' := #[true, true, true, true, true, true, true, true, true, true, true, true, false, false, true, true, true, false, false, false, false]) (fuel' := 6) (fun (F : Fr) (w : World) => ∃ (v821 : Value) (S822 : Nat → Prop), F 1 = (.pointer (some ⟨b4, 0, none⟩)) ∧ F 2 = (.pointer (some ⟨b6, 0, none⟩)) ∧ F 4 = (.pointer (some ⟨b21, 0, none⟩)) ∧ F 5 = (.int .i64 s_l1.2.2) ∧ F 50 = (.int .i64 a0.Boats) ∧ F 52 = v445 ∧ F 60 = v821 ∧ F 64 = v447 ∧ F 65 = v546 ∧ Hp w0 [Ent.own 2 S822 v821 x608, Ent.own 2 S547 v546 s_l2.1, Ent.frzS wz560 S446, Ent.frzS wz562 S448, Ent.blk b21 56 #[(.int .i64 a0.Boats), v445, v447], Ent.blk b6 56 #[(.int .i64 0), (.slice none 0 0), (.slice none 0 0)], Ent.blk b4 31 #[(.int .i64 a0.Boats), (.int .i64 a0.Scheme), v1], Ent.snap w0 w0.heap.size] w) ?_ (fun hN764 => ?_)
          · intro F1015 wd1016 hJ
            obtain ⟨v821, S822, f1017, f1018, f1019, f1020, f1021, f1022, f1023, f1024, f1025, hL⟩ := hJ
            refine DH.all (rs := [12, 17]) (by kernel_rfl) (by simp) ?_
            intro i1026 hi1027
            simp only [List.mem_cons, List.not_mem_nil, or_false] at hi1027
            rcases hi1027 with rfl | rfl
            · refine ⟨_, rfl, ?_⟩
              refine S_lit1 x608 rfl hL Try.underlying54 Try_T61 ((congrArg Value.cells f1023).trans (rdL_cells (hL.rdO 0 rfl))) rfl ?_
              intro wd1028 v1029 S1030 hL
              refine ⟨(hL.sel [5, 6, 7] (by decide) rfl), ?_⟩
              exact DH.relist (listed' := #[true, true, true, true, true, true, true, true, true, true, true, true, true, false, true, true, true, false, false, false, false]) (by kernel_rfl) (hN759 _ _ ⟨v1029, S1030, f1017, f1018, f1019, f1020, f1021, f1022, rfl, f1024, f1025, hL⟩)
            · refine ⟨_, rfl, ?_⟩
              have hL := hL.sel [1, 0, 2, 3, 4, 5, 6, 7] (by decide) rfl
              refine S_lit1 s_l2.1 rfl hL Try.underlying54 Try_T61 ((congrArg Value.cells f1025).trans (rdL_cells (hL.rdO 0 rfl))) rfl ?_
              intro wd1031 v1032 S1033 hL
              refine ⟨(hL.sel [5, 6, 7] (by decide) rfl), ?_⟩
              exact DH.relist (listed' := #[true, true, true, true, true, true, true, true, true, true, true, true, false, false, true, true, true, true, false, false, false]) (by kernel_rfl) (hN761 _ _ ⟨v1032, S1033, v821, S822, f1017, f1018, f1019, f1020, f1021, f1022, f1023, f1024, rfl, hL⟩)
          refine DH.node (listed' := #[true, true, true, true, true, true, true, true, true, true, true, true, false, false, true, false, true, true, false, false, false]) (fuel' := 6) (fun (F : Fr) (w : World) => ∃ (v823 : Value) (S824 : Nat → Prop) (v825 : Value) (S826 : Nat → Prop), F 1 = (.pointer (some ⟨b4, 0, none⟩)) ∧ F 2 = (.pointer (some ⟨b6, 0, none⟩)) ∧ F 4 = (.pointer (some ⟨b21, 0, none⟩)) ∧ F 5 = (.int .i64 s_l1.2.2) ∧ F 50 = (.int .i64 a0.Boats) ∧ F 52 = v445 ∧ F 60 = v825 ∧ F 63 = (.pointer (some ⟨b21, 2, none⟩)) ∧ F 66 = v823 ∧ Hp w0 [Ent.own 61 S824 v823 ([s_l2.1] : List (List Int)), Ent.own 2 S826 v825 x608, Ent.frzS wz560 S446, Ent.frzS wz562 S448, Ent.blk b21 56 #[(.int .i64 a0.Boats), v445, v447], Ent.blk b6 56 #[(.int .i64 0), (.slice none 0 0), (.slice none 0 0)], Ent.blk b4 31 #[(.int .i64 a0.Boats), (.int .i64 a0.Scheme), v1], Ent.snap w0 w0.heap.size] w) ?_ (fun hN765 => ?_)
          · intro F1034 wd1035 hJ
            obtain ⟨v823, S824, v825, S826, f1036, f1037, f1038, f1039, f1040, f1041, f1042, f1043, f1044, hL⟩ := hJ
            refine DH.all (rs := [12, 15]) (by kernel_rfl) (by simp) ?_
            intro i1045 hi1046
            simp only [List.mem_cons, List.not_mem_nil, or_false] at hi1046
            rcases hi1046 with rfl | rfl
            · refine ⟨_, rfl, ?_⟩
              have hL := hL.sel [1, 0, 2, 3, 4, 5, 6, 7] (by decide) rfl
              refine S_lit1 x608 rfl hL Try.underlying54 Try_T61 ((congrArg Value.cells f1042).trans (rdL_cells (hL.rdO 0 rfl))) rfl ?_
              intro wd1047 v1048 S1049 hL
              refine ⟨(hL.sel [5, 6, 7] (by decide) rfl), ?_⟩
              have hL := hL.sel [1, 0, 2, 3, 4, 5, 6, 7] (by decide) rfl
              exact DH.relist (listed' := #[true, true, true, true, true, true, true, true, true, true, true, true, true, false, true, false, true, true, false, false, false]) (by kernel_rfl) (hN760 _ _ ⟨v823, S824, v1048, S1049, f1036, f1037, f1038, f1039, f1040, f1041, rfl, f1043, f1044, hL⟩)
            · refine ⟨_, rfl, ?_⟩
              refine OP.val (v := v447) rfl (x_load1 Try.underlying54 rfl f1043 (hL.cellB 4 rfl rfl)) ?_
              refine ⟨(hL.sel [5, 6, 7] (by decide) rfl), ?_⟩
              exact DH.relist (listed' := #[true, true, true, true, true, true, true, true, true, true, true, true, false, false, true, true, true, true, false, false, false]) (by kernel_rfl) (hN761 _ _ ⟨v823, S824, v825, S826, f1036, f1037, f1038, f1039, f1040, f1041, f1042, rfl, f1044, hL⟩)
          refine DH.node (listed' := #[true, true, true, true, true, true, true, true, true, true, true, false, false, false, true, true, true, true, false, false, false]) (fuel' := 6) (fun (F : Fr) (w : World) => ∃ (v827 : Value) (S828 : Nat → Prop), F 1 = (.pointer (some ⟨b4, 0, none⟩)) ∧ F 2 = (.pointer (some ⟨b6, 0, none⟩)) ∧ F 4 = (.pointer (some ⟨b21, 0, none⟩)) ∧ F 5 = (.int .i64 s_l1.2.2) ∧ F 50 = (.int .i64 a0.Boats) ∧ F 52 = v445 ∧ F 57 = (.agg #[v602]) ∧ F 59 = (.int .i64 a0.Scheme) ∧ F 64 = v447 ∧ F 66 = v827 ∧ Hp w0 [Ent.own 61 S828 v827 ([s_l2.1] : List (List Int)), Ent.frzS wz560 S446, Ent.frzS wz562 S448, Ent.blk b21 56 #[(.int .i64 a0.Boats), v445, v447], Ent.blk b6 56 #[(.int .i64 0), (.slice none 0 0), (.slice none 0 0)], Ent.blk b4 31 #[(.int .i64 a0.Boats), (.int .i64 a0.Scheme), v1], Ent.snap w0 w0.heap.size] w) ?_ (fun hN766 => ?_)
          · intro F1050 wd1051 hJ
            obtain ⟨v827, S828, f1052, f1053, f1054, f1055, f1056, f1057, f1058, f1059, f1060, f1061, hL⟩ := hJ
            refine DH.only 11 rfl (by kernel_rfl) (OP.call rfl (x_call (vs := [(.agg #[v602]), (.int .i64 a0.Scheme)]) Try_C94 ⟨f1058, f1059, trivial⟩) (M.spec_l26Points_ok _ x597 (hL.rdS 6 rfl hr606) a0.Scheme hx609) ?_)
            rintro e1064 wd1065 ⟨v1063, S1062, rfl, hF1066⟩
            refine ⟨_, rfl, ?_⟩
            have hL := hL.pushAll hF1066
            simp only [lA, lB, lC, lD] at hL
            refine ⟨(hL.sel [5, 6, 7] (by decide) rfl), ?_⟩
            have hL := hL.sel [1, 0, 2, 3, 4, 5, 6, 7] (by decide) rfl
            exact DH.relist (listed' := #[true, true, true, true, true, true, true, true, true, true, true, true, false, false, true, true, true, true, false, false, false]) (by kernel_rfl) (hN761 _ _ ⟨v827, S828, v1063, S1062, f1052, f1053, f1054, f1055, f1056, f1057, rfl, f1060, f1061, hL⟩)
          refine DH.node (listed' := #[true, true, true, false, true, true, true, true, true, true, true, true, true, false, true, true, true, false, false, false, false]) (fuel' := 6) (fun (F : Fr) (w : World) => ∃ (v829 : Value) (S830 : Nat → Prop), F 1 = (.pointer (some ⟨b4, 0, none⟩)) ∧ F 2 = (.pointer (some ⟨b6, 0, none⟩)) ∧ F 4 = (.pointer (some ⟨b21, 0, none⟩)) ∧ F 5 = (.int .i64 s_l1.2.2) ∧ F 50 = (.int .i64 a0.Boats) ∧ F 51 = (.pointer (some ⟨b21, 1, none⟩)) ∧ F 61 = v829 ∧ F 64 = v447 ∧ F 65 = v546 ∧ Hp w0 [Ent.own 61 S830 v829 ([x608] : List (List Int)), Ent.own 2 S547 v546 s_l2.1, Ent.frzS wz560 S446, Ent.frzS wz562 S448, Ent.blk b21 56 #[(.int .i64 a0.Boats), v445, v447], Ent.blk b6 56 #[(.int .i64 0), (.slice none 0 0), (.slice none 0 0)], Ent.blk b4 31 #[(.int .i64 a0.Boats), (.int .i64 a0.Scheme), v1], Ent.snap w0 w0.heap.size] w) ?_ (fun hN767 => ?_)
          · intro F1067 wd1068 hJ
            obtain ⟨v829, S830, f1069, f1070, f1071, f1072, f1073, f1074, f1075, f1076, f1077, hL⟩ := hJ
            refine DH.all (rs := [3, 17]) (by kernel_rfl) (by simp) ?_
            intro i1078 hi1079
            simp only [List.mem_cons, List.not_mem_nil, or_false] at hi1079
            rcases hi1079 with rfl | rfl
            · refine ⟨_, rfl, ?_⟩
              refine OP.val (v := v445) rfl (x_load1 Try.underlying54 rfl f1074 (hL.cellB 4 rfl rfl)) ?_
              refine ⟨(hL.sel [5, 6, 7] (by decide) rfl), ?_⟩
              exact DH.relist (listed' := #[true, true, true, true, true, true, true, true, true, true, true, true, true, false, true, true, true, false, false, false, false]) (by kernel_rfl) (hN759 _ _ ⟨v829, S830, f1069, f1070, f1071, f1072, f1073, rfl, f1075, f1076, f1077, hL⟩)
            · refine ⟨_, rfl, ?_⟩
              have hL := hL.sel [1, 0, 2, 3, 4, 5, 6, 7] (by decide) rfl
              refine S_lit1 s_l2.1 rfl hL Try.underlying54 Try_T61 ((congrArg Value.cells f1077).trans (rdL_cells (hL.rdO 0 rfl))) rfl ?_
              intro wd1080 v1081 S1082 hL
              refine ⟨(hL.sel [5, 6, 7] (by decide) rfl), ?_⟩
              exact DH.relist (listed' := #[true, true, true, false, true, true, true, true, true, true, true, true, true, false, true, true, true, true, false, false, false]) (by kernel_rfl) (hN762 _ _ ⟨v1081, S1082, v829, S830, f1069, f1070, f1071, f1072, f1073, f1074, f1075, f1076, rfl, hL⟩)
          refine DH.node (listed' := #[true, true, true, false, true, true, true, true, true, true, true, true, true, false, true, false, true, true, false, false, false]) (fuel' := 6) (fun (F : Fr) (w : World) => ∃ (v831 : Value) (S832 : Nat → Prop) (v833 : Value) (S834 : Nat → Prop), F 1 = (.pointer (some ⟨b4, 0, none⟩)) ∧ F 2 = (.pointer (some ⟨b6, 0, none⟩)) ∧ F 4 = (.pointer (some ⟨b21, 0, none⟩)) ∧ F 5 = (.int .i64 s_l1.2.2) ∧ F 50 = (.int .i64 a0.Boats) ∧ F 51 = (.pointer (some ⟨b21, 1, none⟩)) ∧ F 61 = v833 ∧ F 63 = (.pointer (some ⟨b21, 2, none⟩)) ∧ F 66 = v831 ∧ Hp w0 [Ent.own 61 S832 v831 ([s_l2.1] : List (List Int)), Ent.own 61 S834 v833 ([x608] : List (List Int)), Ent.frzS wz560 S446, Ent.frzS wz562 S448, Ent.blk b21 56 #[(.int .i64 a0.Boats), v445, v447], Ent.blk b6 56 #[(.int .i64 0), (.slice none 0 0), (.slice none 0 0)], Ent.blk b4 31 #[(.int .i64 a0.Boats), (.int .i64 a0.Scheme), v1], Ent.snap w0 w0.heap.size] w) ?_ (fun hN768 => ?_)
          · intro F1083 wd1084 hJ
            obtain ⟨v831, S832, v833, S834, f1085, f1086, f1087, f1088, f1089, f1090, f1091, f1092, f1093, hL⟩ := hJ
            refine DH.all (rs := [3, 15]) (by kernel_rfl) (by simp) ?_
            intro i1094 hi1095
            simp only [List.mem_cons, List.not_mem_nil, or_false] at hi1095
            rcases hi1095 with rfl | rfl
            · refine ⟨_, rfl, ?_⟩
              refine OP.val (v := v445) rfl (x_load1 Try.underlying54 rfl f1090 (hL.cellB 4 rfl rfl)) ?_
              refine ⟨(hL.sel [5, 6, 7] (by decide) rfl), ?_⟩
              exact DH.relist (listed' := #[true, true, true, true, true, true, true, true, true, true, true, true, true, false, true, false, true, true, false, false, false]) (by kernel_rfl) (hN760 _ _ ⟨v831, S832, v833, S834, f1085, f1086, f1087, f1088, f1089, rfl, f1091, f1092, f1093, hL⟩)
            · refine ⟨_, rfl, ?_⟩
              refine OP.val (v := v447) rfl (x_load1 Try.underlying54 rfl f1092 (hL.cellB 4 rfl rfl)) ?_
              refine ⟨(hL.sel [5, 6, 7] (by decide) rfl), ?_⟩
              exact DH.relist (listed' := #[true, true, true, false, true, true, true, true, true, true, true, true, true, false, true, true, true, true, false, false, false]) (by kernel_rfl) (hN762 _ _ ⟨v831, S832, v833, S834, f1085, f1086, f1087, f1088, f1089, f1090, f1091, rfl, f1093, hL⟩)
          refine DH.node (listed' := #[true, true, true, false, true, true, true, true, true, true, true, true, false, false, true, true, true, true, false, false, false]) (fuel' := 6) (fun (F : Fr) (w : World) => ∃ (v835 : Value) (S836 : Nat → Prop) (v837 : Value) (S838 : Nat → Prop), F 1 = (.pointer (some ⟨b4, 0, none⟩)) ∧ F 2 = (.pointer (some ⟨b6, 0, none⟩)) ∧ F 4 = (.pointer (some ⟨b21, 0, none⟩)) ∧ F 5 = (.int .i64 s_l1.2.2) ∧ F 50 = (.int .i64 a0.Boats) ∧ F 51 = (.pointer (some ⟨b21, 1, none⟩)) ∧ F 60 = v837 ∧ F 64 = v447 ∧ F 66 = v835 ∧ Hp w0 [Ent.own 61 S836 v835 ([s_l2.1] : List (List Int)), Ent.own 2 S838 v837 x608, Ent.frzS wz560 S446, Ent.frzS wz562 S448, Ent.blk b21 56 #[(.int .i64 a0.Boats), v445, v447], Ent.blk b6 56 #[(.int .i64 0), (.slice none 0 0), (.slice none 0 0)], Ent.blk b4 31 #[(.int .i64 a0.Boats), (.int .i64 a0.Scheme), v1], Ent.snap w0 w0.heap.size] w) ?_ (fun hN769 => ?_)
          · intro F1096 wd1097 hJ
            obtain ⟨v835, S836, v837, S838, f1098, f1099, f1100, f1101, f1102, f1103, f1104, f1105, f1106, hL⟩ := hJ
            refine DH.all (rs := [3, 12]) (by kernel_rfl) (by simp) ?_
            intro i1107 hi1108
            simp only [List.mem_cons, List.not_mem_nil, or_false] at hi1108
            rcases hi1108 with rfl | rfl
            · refine ⟨_, rfl, ?_⟩
              refine OP.val (v := v445) rfl (x_load1 Try.underlying54 rfl f1103 (hL.cellB 4 rfl rfl)) ?_
              refine ⟨(hL.sel [5, 6, 7] (by decide) rfl), ?_⟩
              exact DH.relist (listed' := #[true, true, true, true, true, true, true, true, true, true, true, true, false, false, true, true, true, true, false, false, false]) (by kernel_rfl) (hN761 _ _ ⟨v835, S836, v837, S838, f1098, f1099, f1100, f1101, f1102, rfl, f1104, f1105, f1106, hL⟩)
            · refine ⟨_, rfl, ?_⟩
              have hL := hL.sel [1, 0, 2, 3, 4, 5, 6, 7] (by decide) rfl
              refine S_lit1 x608 rfl hL Try.underlying54 Try_T61 ((congrArg Value.cells f1104).trans (rdL_cells (hL.rdO 0 rfl))) rfl ?_
              intro wd1109 v1110 S1111 hL
              refine ⟨(hL.sel [5, 6, 7] (by decide) rfl), ?_⟩
              have hL := hL.sel [1, 0, 2, 3, 4, 5, 6, 7] (by decide) rfl
              exact DH.relist (listed' := #[true, true, true, false, true, true, true, true, true, true, true, true, true, false, true, true, true, true, false, false, false]) (by kernel_rfl) (hN762 _ _ ⟨v835, S836, v1110, S1111, f1098, f1099, f1100, f1101, f1102, f1103, rfl, f1105, f1106, hL⟩)
          refine DH.node (listed' := #[true, true, true, true, true, true, true, true, true, true, true, true, false, false, true, false, true, false, false, false, false]) (fuel' := 7) (fun (F : Fr) (w : World) => ∃ (v839 : Value) (S840 : Nat → Prop), F 1 = (.pointer (some ⟨b4, 0, none⟩)) ∧ F 2 = (.pointer (some ⟨b6, 0, none⟩)) ∧ F 4 = (.pointer (some ⟨b21, 0, none⟩)) ∧ F 5 = (.int .i64 s_l1.2.2) ∧ F 50 = (.int .i64 a0.Boats) ∧ F 52 = v445 ∧ F 60 = v839 ∧ F 63 = (.pointer (some ⟨b21, 2, none⟩)) ∧ F 65 = v546 ∧ Hp w0 [Ent.own 2 S840 v839 x608, Ent.own 2 S547 v546 s_l2.1, Ent.frzS wz560 S446, Ent.frzS wz562 S448, Ent.blk b21 56 #[(.int .i64 a0.Boats), v445, v447], Ent.blk b6 56 #[(.int .i64 0), (.slice none 0 0), (.slice none 0 0)], Ent.blk b4 31 #[(.int .i64 a0.Boats), (.int .i64 a0.Scheme), v1], Ent.snap w0 w0.heap.size] w) ?_ (fun hN770 => ?_)
          · intro F1112 wd1113 hJ
            obtain ⟨v839, S840, f1114, f1115, f1116, f1117, f1118, f1119, f1120, f1121, f1122, hL⟩ := hJ
            refine DH.all (rs := [12, 15, 17]) (by kernel_rfl) (by simp) ?_
            intro i1123 hi1124
            simp only [List.mem_cons, List.not_mem_nil, or_false] at hi1124
            rcases hi1124 with rfl | rfl | rfl
            · refine ⟨_, rfl, ?_⟩
              refine S_lit1 x608 rfl hL Try.underlying54 Try_T61 ((congrArg Value.cells f1120).trans (rdL_cells (hL.rdO 0 rfl))) rfl ?_
              intro wd1125 v1126 S1127 hL
              refine ⟨(hL.sel [5, 6, 7] (by decide) rfl), ?_⟩
              exact DH.relist (listed' := #[true, true, true, true, true, true, true, true, true, true, true, true, true, false, true, false, true, false, false, false, false]) (by kernel_rfl) (hN763 _ _ ⟨v1126, S1127, f1114, f1115, f1116, f1117, f1118, f1119, rfl, f1121, f1122, hL⟩)
            · refine ⟨_, rfl, ?_⟩
              refine OP.val (v := v447) rfl (x_load1 Try.underlying54 rfl f1121 (hL.cellB 4 rfl rfl)) ?_
              refine ⟨(hL.sel [5, 6, 7] (by decide) rfl), ?_⟩
              exact DH.relist (listed' := #[true, true, true, true, true, true, true, true, true, true, true, true, false, false, true, true, true, false, false, false, false]) (by kernel_rfl) (hN764 _ _ ⟨v839, S840, f1114, f1115, f1116, f1117, f1118, f1119, f1120, rfl, f1122, hL⟩)
            · refine ⟨_, rfl, ?_⟩
              have hL := hL.sel [1, 0, 2, 3, 4, 5, 6, 7] (by decide) rfl
              refine S_lit1 s_l2.1 rfl hL Try.underlying54 Try_T61 ((congrArg Value.cells f1122).trans (rdL_cells (hL.rdO 0 rfl))) rfl ?_
              intro wd1128 v1129 S1130 hL
              refine ⟨(hL.sel [5, 6, 7] (by decide) rfl), ?_⟩
              exact DH.relist (listed' := #[true, true, true, true, true, true, true, true, true, true, true, true, false, false, true, false, true, true, false, false, false]) (by kernel_rfl) (hN765 _ _ ⟨v1129, S1130, v839, S840, f1114, f1115, f1116, f1117, f1118, f1119, f1120, f1121, rfl, hL⟩)
          refine DH.node (listed' := #[true, true, true, true, true, true, true, true, true, true, true, false, false, false, true, true, true, false, false, false, false]) (fuel' := 7) (fun (F : Fr) (w : World) => F 1 = (.pointer (some ⟨b4, 0, none⟩)) ∧ F 2 = (.pointer (some ⟨b6, 0, none⟩)) ∧ F 4 = (.pointer (some ⟨b21, 0, none⟩)) ∧ F 5 = (.int .i64 s_l1.2.2) ∧ F 50 = (.int .i64 a0.Boats) ∧ F 52 = v445 ∧ F 57 = (.agg #[v602]) ∧ F 59 = (.int .i64 a0.Scheme) ∧ F 64 = v447 ∧ F 65 = v546 ∧ Hp w0 [Ent.own 2 S547 v546 s_l2.1, Ent.frzS wz560 S446, Ent.frzS wz562 S448, Ent.blk b21 56 #[(.int .i64 a0.Boats), v445, v447], Ent.blk b6 56 #[(.int .i64 0), (.slice none 0 0), (.slice none 0 0)], Ent.blk b4 31 #[(.int .i64 a0.Boats), (.int .i64 a0.Scheme), v1], Ent.snap w0 w0.heap.size] w) ?_ (fun hN771 => ?_)
          · intro F1131 wd1132 hJ
            obtain ⟨f1133, f1134, f1135, f1136, f1137, f1138, f1139, f1140, f1141, f1142, hL⟩ := hJ
            refine DH.all (rs := [11, 17]) (by kernel_rfl) (by simp) ?_
            intro i1143 hi1144
            simp only [List.mem_cons, List.not_mem_nil, or_false] at hi1144
            rcases hi1144 with rfl | rfl
            · refine ⟨_, rfl, ?_⟩
              refine OP.call rfl (x_call (vs := [(.agg #[v602]), (.int .i64 a0.Scheme)]) Try_C94 ⟨f1139, f1140, trivial⟩) (M.spec_l26Points_ok _ x597 (hL.rdS 6 rfl hr606) a0.Scheme hx609) ?_
              rintro e1147 wd1148 ⟨v1146, S1145, rfl, hF1149⟩
              refine ⟨_, rfl, ?_⟩
              have hL := hL.pushAll hF1149
              simp only [lA, lB, lC, lD] at hL
              refine ⟨(hL.sel [5, 6, 7] (by decide) rfl), ?_⟩
              exact DH.relist (listed' := #[true, true, true, true, true, true, true, true, true, true, true, true, false, false, true, true, true, false, false, false, false]) (by kernel_rfl) (hN764 _ _ ⟨v1146, S1145, f1133, f1134, f1135, f1136, f1137, f1138, rfl, f1141, f1142, hL⟩)
            · refine ⟨_, rfl, ?_⟩
              refine S_lit1 s_l2.1 rfl hL Try.underlying54 Try_T61 ((congrArg Value.cells f1142).trans (rdL_cells (hL.rdO 0 rfl))) rfl ?_
              intro wd1150 v1151 S1152 hL
              refine ⟨(hL.sel [4, 5, 6] (by decide) rfl), ?_⟩
              exact DH.relist (listed' := #[true, true, true, true, true, true, true, true, true, true, true, false, false, false, true, true, true, true, false, false, false]) (by kernel_rfl) (hN766 _ _ ⟨v1151, S1152, f1133, f1134, f1135, f1136, f1137, f1138, f1139, f1140, f1141, rfl, hL⟩)
          refine DH.node (listed' := #[true, true, true, true, true, true, true, true, true, true, true, false, false, false, true, false, true, true, false, false, false]) (fuel' := 7) (fun (F : Fr) (w : World) => ∃ (v841 : Value) (S842 : Nat → Prop), F 1 = (.pointer (some ⟨b4, 0, none⟩)) ∧ F 2 = (.pointer (some ⟨b6, 0, none⟩)) ∧ F 4 = (.pointer (some ⟨b21, 0, none⟩)) ∧ F 5 = (.int .i64 s_l1.2.2) ∧ F 50 = (.int .i64 a0.Boats) ∧ F 52 = v445 ∧ F 57 = (.agg #[v602]) ∧ F 59 = (.int .i64 a0.Scheme) ∧ F 63 = (.pointer (some ⟨b21, 2, none⟩)) ∧ F 66 = v841 ∧ Hp w0 [Ent.own 61 S842 v841 ([s_l2.1] : List (List Int)), Ent.frzS wz560 S446, Ent.frzS wz562 S448, Ent.blk b21 56 #[(.int .i64 a0.Boats), v445, v447], Ent.blk b6 56 #[(.int .i64 0), (.slice none 0 0), (.slice none 0 0)], Ent.blk b4 31 #[(.int .i64 a0.Boats), (.int .i64 a0.Scheme), v1], Ent.snap w0 w0.heap.size] w) ?_ (fun hN772 => ?_)
          · intro F1153 wd1154 hJ
            obtain ⟨v841, S842, f1155, f1156, f1157, f1158, f1159, f1160, f1161, f1162, f1163, f1164, hL⟩ := hJ
            refine DH.all (rs := [11, 15]) (by kernel_rfl) (by simp) ?_
            intro i1165 hi1166
            simp only [List.mem_cons, List.not_mem_nil, or_false] at hi1166
            rcases hi1166 with rfl | rfl
            · refine ⟨_, rfl, ?_⟩
              refine OP.call rfl (x_call (vs := [(.agg #[v602]), (.int .i64 a0.Scheme)]) Try_C94 ⟨f1161, f1162, trivial⟩) (M.spec_l26Points_ok _ x597 (hL.rdS 6 rfl hr606) a0.Scheme hx609) ?_
              rintro e1169 wd1170 ⟨v1168, S1167, rfl, hF1171⟩
              refine ⟨_, rfl, ?_⟩
              have hL := hL.pushAll hF1171
              simp only [lA, lB, lC, lD] at hL
              refine ⟨(hL.sel [5, 6, 7] (by decide) rfl), ?_⟩
              have hL := hL.sel [1, 0, 2, 3, 4, 5, 6, 7] (by decide) rfl
              exact DH.relist (listed' := #[true, true, true, true, true, true, true, true, true, true, true, true, false, false, true, false, true, true, false, false, false]) (by kernel_rfl) (hN765 _ _ ⟨v841, S842, v1168, S1167, f1155, f1156, f1157, f1158, f1159, f1160, rfl, f1163, f1164, hL⟩)
            · refine ⟨_, rfl, ?_⟩
              refine OP.val (v := v447) rfl (x_load1 Try.underlying54 rfl f1163 (hL.cellB 3 rfl rfl)) ?_
              refine ⟨(hL.sel [4, 5, 6] (by decide) rfl), ?_⟩
              exact DH.relist (listed' := #[true, true, true, true, true, true, true, true, true, true, true, false, false, false, true, true, true, true, false, false, false]) (by kernel_rfl) (hN766 _ _ ⟨v841, S842, f1155, f1156, f1157, f1158, f1159, f1160, f1161, f1162, rfl, f1164, hL⟩)
          refine DH.node (listed' := #[true, true, true, false, true, true, true, true, true, true, true, true, true, false, true, false, true, false, false, false, false]) (fuel' := 7) (fun (F : Fr) (w : World) => ∃ (v843 : Value) (S844 : Nat → Prop), F 1 = (.pointer (some ⟨b4, 0, none⟩)) ∧ F 2 = (.pointer (some ⟨b6, 0, none⟩)) ∧ F 4 = (.pointer (some ⟨b21, 0, none⟩)) ∧ F 5 = (.int .i64 s_l1.2.2) ∧ F 50 = (.int .i64 a0.Boats) ∧ F 51 = (.pointer (some ⟨b21, 1, none⟩)) ∧ F 61 = v843 ∧ F 63 = (.pointer (some ⟨b21, 2, none⟩)) ∧ F 65 = v546 ∧ Hp w0 [Ent.own 61 S844 v843 ([x608] : List (List Int)), Ent.own 2 S547 v546 s_l2.1, Ent.frzS wz560 S446, Ent.frzS wz562 S448, Ent.blk b21 56 #[(.int .i64 a0.Boats), v445, v447], Ent.blk b6 56 #[(.int .i64 0), (.slice none 0 0), (.slice none 0 0)], Ent.blk b4 31 #[(.int .i64 a0.Boats), (.int .i64 a0.Scheme), v1], Ent.snap w0 w0.heap.size] w) ?_ (fun hN773 => ?_)
          · intro F1172 wd1173 hJ
            obtain ⟨v843, S844, f1174, f1175, f1176, f1177, f1178, f1179, f1180, f1181, f1182, hL⟩ := hJ
            refine DH.all (rs := [3, 15, 17]) (by kernel_rfl) (by simp) ?_
            intro i1183 hi1184
            simp only [List.mem_cons, List.not_mem_nil, or_false] at hi1184
            rcases hi1184 with rfl | rfl | rfl
            · refine ⟨_, rfl, ?_⟩
              refine OP.val (v := v445) rfl (x_load1 Try.underlying54 rfl f1179 (hL.cellB 4 rfl rfl)) ?_
              refine ⟨(hL.sel [5, 6, 7] (by decide) rfl), ?_⟩
              exact DH.relist (listed' := #[true, true, true, true, true, true, true, true, true, true, true, true, true, false, true, false, true, false, false, false, false]) (by kernel_rfl) (hN763 _ _ ⟨v843, S844, f1174, f1175, f1176, f1177, f1178, rfl, f1180, f1181, f1182, hL⟩)
            · refine ⟨_, rfl, ?_⟩
              refine OP.val (v := v447) rfl (x_load1 Try.underlying54 rfl f1181 (hL.cellB 4 rfl rfl)) ?_
              refine ⟨(hL.sel [5, 6, 7] (by decide) rfl), ?_⟩
              exact DH.relist (listed' := #[true, true, true, false, true, true, true, true, true, true, true, true, true, false, true, true, true, false, false, false, false]) (by kernel_rfl) (hN767 _ _ ⟨v843, S844, f1174, f1175, f1176, f1177, f1178, f1179, f1180, rfl, f1182, hL⟩)
            · refine ⟨_, rfl, ?_⟩
              have hL := hL.sel [1, 0, 2, 3, 4, 5, 6, 7] (by decide) rfl
              refine S_lit1 s_l2.1 rfl hL Try.underlying54 Try_T61 ((congrArg Value.cells f1182).trans (rdL_cells (hL.rdO 0 rfl))) rfl ?_
              intro wd1185 v1186 S1187 hL
              refine ⟨(hL.sel [5, 6, 7] (by decide) rfl), ?_⟩
              exact DH.relist (listed' := #[true, true, true, false, true, true, true, true, true, true, true, true, true, false, true, false, true, true, false, false, false]) (by kernel_rfl) (hN768 _ _ ⟨v1186, S1187, v843, S844, f1174, f1175, f1176, f1177, f1178, f1179, f1180, f1181, rfl, hL⟩)
          refine DH.node (listed' := #[true, true, true, false, true, true, true, true, true, true, true, true, false, false, true, true, true, false, false, false, false]) (fuel' := 7) (fun (F : Fr) (w : World) => ∃ (v845 : Value) (S846 : Nat → Prop), F 1 = (.pointer (some ⟨b4, 0, none⟩)) ∧ F 2 = (.pointer (some ⟨b6, 0, none⟩)) ∧ F 4 = (.pointer (some ⟨b21, 0, none⟩)) ∧ F 5 = (.int .i64 s_l1.2.2) ∧ F 50 = (.int .i64 a0.Boats) ∧ F 51 = (.pointer (some ⟨b21, 1, none⟩)) ∧ F 60 = v845 ∧ F 64 = v447 ∧ F 65 = v546 ∧ Hp w0 [Ent.own 2 S846 v845 x608, Ent.own 2 S547 v546 s_l2.1, Ent.frzS wz560 S446, Ent.frzS wz562 S448, Ent.blk b21 56 #[(.int .i64 a0.Boats), v445, v447], Ent.blk b6 56 #[(.int .i64 0), (.slice none 0 0), (.slice none 0 0)], Ent.blk b4 31 #[(.int .i64 a0.Boats), (.int .i64 a0.Scheme), v1], Ent.snap w0 w0.heap.size] w) ?_ (fun hN774 => ?_)
          · intro F1188 wd1189 hJ
            obtain ⟨v845, S846, f1190, f1191, f1192, f1193, f1194, f1195, f1196, f1197, f1198, hL⟩ := hJ
            refine DH.all (rs := [3, 12, 17]) (by kernel_rfl) (by simp) ?_
            intro i1199 hi1200
            simp only [List.mem_cons, List.not_mem_nil, or_false] at hi1200
            rcases hi1200 with rfl | rfl | rfl
            · refine ⟨_, rfl, ?_⟩
              refine OP.val (v := v445) rfl (x_load1 Try.underlying54 rfl f1195 (hL.cellB 4 rfl rfl)) ?_
              refine ⟨(hL.sel [5, 6, 7] (by decide) rfl), ?_⟩
              exact DH.relist (listed' := #[true, true, true, true, true, true, true, true, true, true, true, true, false, false, true, true, true, false, false, false, false]) (by kernel_rfl) (hN764 _ _ ⟨v845, S846, f1190, f1191, f1192, f1193, f1194, rfl, f1196, f1197, f1198, hL⟩)
            · refine ⟨_, rfl, ?_⟩
              refine S_lit1 x608 rfl hL Try.underlying54 Try_T61 ((congrArg Value.cells f1196).trans (rdL_cells (hL.rdO 0 rfl))) rfl ?_
              intro wd1201 v1202 S1203 hL
              refine ⟨(hL.sel [5, 6, 7] (by decide) rfl), ?_⟩
              exact DH.relist (listed' := #[true, true, true, false, true, true, true, true, true, true, true, true, true, false, true, true, true, false, false, false, false]) (by kernel_rfl) (hN767 _ _ ⟨v1202, S1203, f1190, f1191, f1192, f1193, f1194, f1195, rfl, f1197, f1198, hL⟩)
            · refine ⟨_, rfl, ?_⟩
              have hL := hL.sel [1, 0, 2, 3, 4, 5, 6, 7] (by decide) rfl
              refine S_lit1 s_l2.1 rfl hL Try.underlying54 Try_T61 ((congrArg Value.cells f1198).trans (rdL_cells (hL.rdO 0 rfl))) rfl ?_
              intro wd1204 v1205 S1206 hL
              refine ⟨(hL.sel [5, 6, 7] (by decide) rfl), ?_⟩
              exact DH.relist (listed' := #[true, true, true, false, true, true, true, true, true, true, true, true, false, false, true, true, true, true, false, false, false]) (by kernel_rfl) (hN769 _ _ ⟨v1205, S1206, v845, S846, f1190, f1191, f1192, f1193, f1194, f1195, f1196, f1197, rfl, hL⟩)
          refine DH.node (listed' := #[true, true, true, false, true, true, true, true, true, true, true, true, false, false, true, false, true, true, false, false, false]) (fuel' := 7) (fun (F : Fr) (w : World) => ∃ (v847 : Value) (S848 : Nat → Prop) (v849 : Value) (S850 : Nat → Prop), F 1 = (.pointer (some ⟨b4, 0, none⟩)) ∧ F 2 = (.pointer (some ⟨b6, 0, none⟩)) ∧ F 4 = (.pointer (some ⟨b21, 0, none⟩)) ∧ F 5 = (.int .i64 s_l1.2.2) ∧ F 50 = (.int .i64 a0.Boats) ∧ F 51 = (.pointer (some ⟨b21, 1, none⟩)) ∧ F 60 = v849 ∧ F 63 = (.pointer (some ⟨b21, 2, none⟩)) ∧ F 66 = v847 ∧ Hp w0 [Ent.own 61 S848 v847 ([s_l2.1] : List (List Int)), Ent.own 2 S850 v849 x608, Ent.frzS wz560 S446, Ent.frzS wz562 S448, Ent.blk b21 56 #[(.int .i64 a0.Boats), v445, v447], Ent.blk b6 56 #[(.int .i64 0), (.slice none 0 0), (.slice none 0 0)], Ent.blk b4 31 #[(.int .i64 a0.Boats), (.int .i64 a0.Scheme), v1], Ent.snap w0 w0.heap.size] w) ?_ (fun hN775 => ?_)
          · intro F1207 wd1208 hJ
            obtain ⟨v847, S848, v849, S850, f1209, f1210, f1211, f1212, f1213, f1214, f1215, f1216, f1217, hL⟩ := hJ
            refine DH.all (rs := [3, 12, 15]) (by kernel_rfl) (by simp) ?_
            intro i1218 hi1219
            simp only [List.mem_cons, List.not_mem_nil, or_false] at hi1219
            rcases hi1219 with rfl | rfl | rfl
            · refine ⟨_, rfl, ?_⟩
              refine OP.val (v := v445) rfl (x_load1 Try.underlying54 rfl f1214 (hL.cellB 4 rfl rfl)) ?_
              refine ⟨(hL.sel [5, 6, 7] (by decide) rfl), ?_⟩
              exact DH.relist (listed' := #[true, true, true, true, true, true, true, true, true, true, true, true, false, false, true, false, true, true, false, false, false]) (by kernel_rfl) (hN765 _ _ ⟨v847, S848, v849, S850, f1209, f1210, f1211, f1212, f1213, rfl, f1215, f1216, f1217, hL⟩)
            · refine ⟨_, rfl, ?_⟩
              have hL := hL.sel [1, 0, 2, 3, 4, 5, 6, 7] (by decide) rfl
              refine S_lit1 x608 rfl hL Try.underlying54 Try_T61 ((congrArg Value.cells f1215).trans (rdL_cells (hL.rdO 0 rfl))) rfl ?_
              intro wd1220 v1221 S1222 hL
              refine ⟨(hL.sel [5, 6, 7] (by decide) rfl), ?_⟩
              have hL := hL.sel [1, 0, 2, 3, 4, 5, 6, 7] (by decide) rfl
              exact DH.relist (listed' := #[true, true, true, false, true, true, true, true, true, true, true, true, true, false, true, false, true, true, false, false, false]) (by kernel_rfl) (hN768 _ _ ⟨v847, S848, v1221, S1222, f1209, f1210, f1211, f1212, f1213, f1214, rfl, f1216, f1217, hL⟩)
            · refine ⟨_, rfl, ?_⟩
              refine OP.val (v := v447) rfl (x_load1 Try.underlying54 rfl f1216 (hL.cellB 4 rfl rfl)) ?_
              refine ⟨(hL.sel [5, 6, 7] (by decide) rfl), ?_⟩
              exact DH.relist (listed' := #[true, true, true, false, true, true, true, true, true, true, true, true, false, false, true, true, true, true, false, false, false]) (by kernel_rfl) (hN769 _ _ ⟨v847, S848, v849, S850, f1209, f1210, f1211, f1212, f1213, f1214, f1215, rfl, f1217, hL⟩)
          refine DH.node (listed' := #[true, true, true, false, true, true, true, true, true, true, true, false, false, false, true, true, true, true, false, false, false]) (fuel' := 7) (fun (F : Fr) (w : World) => ∃ (v851 : Value) (S852 : Nat → Prop), F 1 = (.pointer (some ⟨b4, 0, none⟩)) ∧ F 2 = (.pointer (some ⟨b6, 0, none⟩)) ∧ F 4 = (.pointer (some ⟨b21, 0, none⟩)) ∧ F 5 = (.int .i64 s_l1.2.2) ∧ F 50 = (.int .i64 a0.Boats) ∧ F 51 = (.pointer (some ⟨b21, 1, none⟩)) ∧ F 57 = (.agg #[v602]) ∧ F 59 = (.int .i64 a0.Scheme) ∧ F 64 = v447 ∧ F 66 = v851 ∧ Hp w0 [Ent.own 61 S852 v851 ([s_l2.1] : List (List Int)), Ent.frzS wz560 S446, Ent.frzS wz562 S448, Ent.blk b21 56 #[(.int .i64 a0.Boats), v445, v447], Ent.blk b6 56 #[(.int .i64 0), (.slice none 0 0), (.slice none 0 0)], Ent.blk b4 31 #[(.int .i64 a0.Boats), (.int .i64 a0.Scheme), v1], Ent.snap w0 w0.heap.size] w) ?_ (fun hN776 => ?_)
          · intro F1223 wd1224 hJ
            obtain ⟨v851, S852, f1225, f1226, f1227, f1228, f1229, f1230, f1231, f1232, f1233, f1234, hL⟩ := hJ
            refine DH.all (rs := [3, 11]) (by kernel_rfl) (by simp) ?_
            intro i1235 hi1236
            simp only [List.mem_cons, List.not_mem_nil, or_false] at hi1236
            rcases hi1236 with rfl | rfl
            · refine ⟨_, rfl, ?_⟩
              refine OP.val (v := v445) rfl (x_load1 Try.underlying54 rfl f1230 (hL.cellB 3 rfl rfl)) ?_
              refine ⟨(hL.sel [4, 5, 6] (by decide) rfl), ?_⟩
              exact DH.relist (listed' := #[true, true, true, true, true, true, true, true, true, true, true, false, false, false, true, true, true, true, false, false, false]) (by kernel_rfl) (hN766 _ _ ⟨v851, S852, f1225, f1226, f1227, f1228, f1229, rfl, f1231, f1232, f1233, f1234, hL⟩)
            · refine ⟨_, rfl, ?_⟩
              refine OP.call rfl (x_call (vs := [(.agg #[v602]), (.int .i64 a0.Scheme)]) Try_C94 ⟨f1231, f1232, trivial⟩) (M.spec_l26Points_ok _ x597 (hL.rdS 6 rfl hr606) a0.Scheme hx609) ?_
              rintro e1239 wd1240 ⟨v1238, S1237, rfl, hF1241⟩
              refine ⟨_, rfl, ?_⟩
              have hL := hL.pushAll hF1241
              simp only [lA, lB, lC, lD] at hL
              refine ⟨(hL.sel [5, 6, 7] (by decide) rfl), ?_⟩
              have hL := hL.sel [1, 0, 2, 3, 4, 5, 6, 7] (by decide) rfl
              exact DH.relist (listed' := #[true, true, true, false, true, true, true, true, true, true, true, true, false, false, true, true, true, true, false, false, false]) (by kernel_rfl) (hN769 _ _ ⟨v851, S852, v1238, S1237, f1225, f1226, f1227, f1228, f1229, f1230, rfl, f1233, f1234, hL⟩)
          refine DH.node (listed' := #[true, true, true, true, true, true, true, true, true, true, true, false, false, false, true, false, true, false, false, false, false]) (fuel' := 8) (fun (F : Fr) (w : World) => F 1 = (.pointer (some ⟨b4, 0, none⟩)) ∧ F 2 = (.pointer (some ⟨b6, 0, none⟩)) ∧ F 4 = (.pointer (some ⟨b21, 0, none⟩)) ∧ F 5 = (.int .i64 s_l1.2.2) ∧ F 50 = (.int .i64 a0.Boats) ∧ F 52 = v445 ∧ F 57 = (.agg #[v602]) ∧ F 59 = (.int .i64 a0.Scheme) ∧ F 63 = (.pointer (some ⟨b21, 2, none⟩)) ∧ F 65 = v546 ∧ Hp w0 [Ent.own 2 S547 v546 s_l2.1, Ent.frzS wz560 S446, Ent.frzS wz562 S448, Ent.blk b21 56 #[(.int .i64 a0.Boats), v445, v447], Ent.blk b6 56 #[(.int .i64 0), (.slice none 0 0), (.slice none 0 0)], Ent.blk b4 31 #[(.int .i64 a0.Boats), (.int .i64 a0.Scheme), v1], Ent.snap w0 w0.heap.size] w) ?_ (fun hN777 => ?_)
          · intro F1242 wd1243 hJ
            obtain ⟨f1244, f1245, f1246, f1247, f1248, f1249, f1250, f1251, f1252, f1253, hL⟩ := hJ
            refine DH.all (rs := [11, 15, 17]) (by kernel_rfl) (by simp) ?_
            intro i1254 hi1255
            simp only [List.mem_cons, List.not_mem_nil, or_false] at hi1255
            rcases hi1255 with rfl | rfl | rfl
            · refine ⟨_, rfl, ?_⟩
              refine OP.call rfl (x_call (vs := [(.agg #[v602]), (.int .i64 a0.Scheme)]) Try_C94 ⟨f1250, f1251, trivial⟩) (M.spec_l26Points_ok _ x597 (hL.rdS 6 rfl hr606) a0.Scheme hx609) ?_
              rintro e1258 wd1259 ⟨v1257, S1256, rfl, hF1260⟩
              refine ⟨_, rfl, ?_⟩
              have hL := hL.pushAll hF1260
              simp only [lA, lB, lC, lD] at hL
              refine ⟨(hL.sel [5, 6, 7] (by decide) rfl), ?_⟩
              exact DH.relist (listed' := #[true, true, true, true, true, true, true, true, true, true, true, true, false, false, true, false, true, false, false, false, false]) (by kernel_rfl) (hN770 _ _ ⟨v1257, S1256, f1244, f1245, f1246, f1247, f1248, f1249, rfl, f1252, f1253, hL⟩)
            · refine ⟨_, rfl, ?_⟩
              refine OP.val (v := v447) rfl (x_load1 Try.underlying54 rfl f1252 (hL.cellB 3 rfl rfl)) ?_
              refine ⟨(hL.sel [4, 5, 6] (by decide) rfl), ?_⟩
              exact DH.relist (listed' := #[true, true, true, true, true, true, true, true, true, true, true, false, false, false, true, true, true, false, false, false, false]) (by kernel_rfl) (hN771 _ _ ⟨f1244, f1245, f1246, f1247, f1248, f1249, f1250, f1251, rfl, f1253, hL⟩)
            · refine ⟨_, rfl, ?_⟩
              refine S_lit1 s_l2.1 rfl hL Try.underlying54 Try_T61 ((congrArg Value.cells f1253).trans (rdL_cells (hL.rdO 0 rfl))) rfl ?_
              intro wd1261 v1262 S1263 hL
              refine ⟨(hL.sel [4, 5, 6] (by decide) rfl), ?_⟩
              exact DH.relist (listed' := #[true, true, true, true, true, true, true, true, true, true, true, false, false, false, true, false, true, true, false, false, false]) (by kernel_rfl) (hN772 _ _ ⟨v1262, S1263, f1244, f1245, f1246, f1247, f1248, f1249, f1250, f1251, f1252, rfl, hL⟩)
          refine DH.node (listed' := #[true, true, true, false, true, true, true, true, true, true, true, true, false, false, true, false, true, false, false, false, false]) (fuel' := 8) (fun (F : Fr) (w : World) => ∃ (v853 : Value) (S854 : Nat → Prop), F 1 = (.pointer (some ⟨b4, 0, none⟩)) ∧ F 2 = (.pointer (some ⟨b6, 0, none⟩)) ∧ F 4 = (.pointer (some ⟨b21, 0, none⟩)) ∧ F 5 = (.int .i64 s_l1.2.2) ∧ F 50 = (.int .i64 a0.Boats) ∧ F 51 = (.pointer (some ⟨b21, 1, none⟩)) ∧ F 60 = v853 ∧ F 63 = (.pointer (some ⟨b21, 2, none⟩)) ∧ F 65 = v546 ∧ Hp w0 [Ent.own 2 S854 v853 x608, Ent.own 2 S547 v546 s_l2.1, Ent.frzS wz560 S446, Ent.frzS wz562 S448, Ent.blk b21 56 #[(.int .i64 a0.Boats), v445, v447], Ent.blk b6 56 #[(.int .i64 0), (.slice none 0 0), (.slice none 0 0)], Ent.blk b4 31 #[(.int .i64 a0.Boats), (.int .i64 a0.Scheme), v1], Ent.snap w0 w0.heap.size] w) ?_ (fun hN778 => ?_)
          · intro F1264 wd1265 hJ
            obtain ⟨v853, S854, f1266, f1267, f1268, f1269, f1270, f1271, f1272, f1273, f1274, hL⟩ := hJ
            refine DH.all (rs := [3, 12, 15, 17]) (by kernel_rfl) (by simp) ?_
            intro i1275 hi1276
            simp only [List.mem_cons, List.not_mem_nil, or_false] at hi1276
            rcases hi1276 with rfl | rfl | rfl | rfl
            · refine ⟨_, rfl, ?_⟩
              refine OP.val (v := v445) rfl (x_load1 Try.underlying54 rfl f1271 (hL.cellB 4 rfl rfl)) ?_
              refine ⟨(hL.sel [5, 6, 7] (by decide) rfl), ?_⟩
              exact DH.relist (listed' := #[true, true, true, true, true, true, true, true, true, true, true, true, false, false, true, false, true, false, false, false, false]) (by kernel_rfl) (hN770 _ _ ⟨v853, S854, f1266, f1267, f1268, f1269, f1270, rfl, f1272, f1273, f1274, hL⟩)
            · refine ⟨_, rfl, ?_⟩
              refine S_lit1 x608 rfl hL Try.underlying54 Try_T61 ((congrArg Value.cells f1272).trans (rdL_cells (hL.rdO 0 rfl))) rfl ?_
              intro wd1277 v1278 S1279 hL
              refine ⟨(hL.sel [5, 6, 7] (by decide) rfl), ?_⟩
              exact DH.relist (listed' := #[true, true, true, false, true, true, true, true, true, true, true, true, true, false, true, false, true, false, false, false, false]) (by kernel_rfl) (hN773 _ _ ⟨v1278, S1279, f1266, f1267, f1268, f1269, f1270, f1271, rfl, f1273, f1274, hL⟩)
            · refine ⟨_, rfl, ?_⟩
              refine OP.val (v := v447) rfl (x_load1 Try.underlying54 rfl f1273 (hL.cellB 4 rfl rfl)) ?_
              refine ⟨(hL.sel [5, 6, 7] (by decide) rfl), ?_⟩
              exact DH.relist (listed' := #[true, true, true, false, true, true, true, true, true, true, true, true, false, false, true, true, true, false, false, false, false]) (by kernel_rfl) (hN774 _ _ ⟨v853, S854, f1266, f1267, f1268, f1269, f1270, f1271, f1272, rfl, f1274, hL⟩)
            · refine ⟨_, rfl, ?_⟩
              have hL := hL.sel [1, 0, 2, 3, 4, 5, 6, 7] (by decide) rfl
              refine S_lit1 s_l2.1 rfl hL Try.underlying54 Try_T61 ((congrArg Value.cells f1274).trans (rdL_cells (hL.rdO 0 rfl))) rfl ?_
              intro wd1280 v1281 S1282 hL
              refine ⟨(hL.sel [5, 6, 7] (by decide) rfl), ?_⟩
              exact DH.relist (listed' := #[true, true, true, false, true, true, true, true, true, true, true, true, false, false, true, false, true, true, false, false, false]) (by kernel_rfl) (hN775 _ _ ⟨v1281, S1282, v853, S854, f1266, f1267, f1268, f1269, f1270, f1271, f1272, f1273, rfl, hL⟩)
          refine DH.node (listed' := #[true, true, true, false, true, true, true, true, true, true, true, false, false, false, true, true, true, false, false, false, false]) (fuel' := 8) (fun (F : Fr) (w : World) => F 1 = (.pointer (some ⟨b4, 0, none⟩)) ∧ F 2 = (.pointer (some ⟨b6, 0, none⟩)) ∧ F 4 = (.pointer (some ⟨b21, 0, none⟩)) ∧ F 5 = (.int .i64 s_l1.2.2) ∧ F 50 = (.int .i64 a0.Boats) ∧ F 51 = (.pointer (some ⟨b21, 1, none⟩)) ∧ F 57 = (.agg #[v602]) ∧ F 59 = (.int .i64 a0.Scheme) ∧ F 64 = v447 ∧ F 65 = v546 ∧ Hp w0 [Ent.own 2 S547 v546 s_l2.1, Ent.frzS wz560 S446, Ent.frzS wz562 S448, Ent.blk b21 56 #[(.int .i64 a0.Boats), v445, v447], Ent.blk b6 56 #[(.int .i64 0), (.slice none 0 0), (.slice none 0 0)], Ent.blk b4 31 #[(.int .i64 a0.Boats), (.int .i64 a0.Scheme), v1], Ent.snap w0 w0.heap.size] w) ?_ (fun hN779 => ?_)
          · intro F1283 wd1284 hJ
            obtain ⟨f1285, f1286, f1287, f1288, f1289, f1290, f1291, f1292, f1293, f1294, hL⟩ := hJ
            refine DH.all (rs := [3, 11, 17]) (by kernel_rfl) (by simp) ?_
            intro i1295 hi1296
            simp only [List.mem_cons, List.not_mem_nil, or_false] at hi1296
            rcases hi1296 with rfl | rfl | rfl
            · refine ⟨_, rfl, ?_⟩
              refine OP.val (v := v445) rfl (x_load1 Try.underlying54 rfl f1290 (hL.cellB 3 rfl rfl)) ?_
              refine ⟨(hL.sel [4, 5, 6] (by decide) rfl), ?_⟩
              exact DH.relist (listed' := #[true, true, true, true, true, true, true, true, true, true, true, false, false, false, true, true, true, false, false, false, false]) (by kernel_rfl) (hN771 _ _ ⟨f1285, f1286, f1287, f1288, f1289, rfl, f1291, f1292, f1293, f1294, hL⟩)
            · refine ⟨_, rfl, ?_⟩
              refine OP.call rfl (x_call (vs := [(.agg #[v602]), (.int .i64 a0.Scheme)]) Try_C94 ⟨f1291, f1292, trivial⟩) (M.spec_l26Points_ok _ x597 (hL.rdS 6 rfl hr606) a0.Scheme hx609) ?_
              rintro e1299 wd1300 ⟨v1298, S1297, rfl, hF1301⟩
              refine ⟨_, rfl, ?_⟩
              have hL := hL.pushAll hF1301
              simp only [lA, lB, lC, lD] at hL
              refine ⟨(hL.sel [5, 6, 7] (by decide) rfl), ?_⟩
              exact DH.relist (listed' := #[true, true, true, false, true, true, true, true, true, true, true, true, false, false, true, true, true, false, false, false, false]) (by kernel_rfl) (hN774 _ _ ⟨v1298, S1297, f1285, f1286, f1287, f1288, f1289, f1290, rfl, f1293, f1294, hL⟩)
            · refine ⟨_, rfl, ?_⟩
              refine S_lit1 s_l2.1 rfl hL Try.underlying54 Try_T61 ((congrArg Value.cells f1294).trans (rdL_cells (hL.rdO 0 rfl))) rfl ?_
              intro wd1302 v1303 S1304 hL
              refine ⟨(hL.sel [4, 5, 6] (by decide) rfl), ?_⟩
              exact DH.relist (listed' := #[true, true, true, false, true, true, true, true, true, true, true, false, false, false, true, true, true, true, false, false, false]) (by kernel_rfl) (hN776 _ _ ⟨v1303, S1304, f1285, f1286, f1287, f1288, f1289, f1290, f1291, f1292, f1293, rfl, hL⟩)
          refine DH.node (listed' := #[true, true, true, false, true, true, true, true, true, true, true, false, false, false, true, false, true, true, false, false, false]) (fuel' := 8) (fun (F : Fr) (w : World) => ∃ (v855 : Value) (S856 : Nat → Prop), F 1 = (.pointer (some ⟨b4, 0, none⟩)) ∧ F 2 = (.pointer (some ⟨b6, 0, none⟩)) ∧ F 4 = (.pointer (some ⟨b21, 0, none⟩)) ∧ F 5 = (.int .i64 s_l1.2.2) ∧ F 50 = (.int .i64 a0.Boats) ∧ F 51 = (.pointer (some ⟨b21, 1, none⟩)) ∧ F 57 = (.agg #[v602]) ∧ F 59 = (.int .i64 a0.Scheme) ∧ F 63 = (.pointer (some ⟨b21, 2, none⟩)) ∧ F 66 = v855 ∧ Hp w0 [Ent.own 61 S856 v855 ([s_l2.1] : List (List Int)), Ent.frzS wz560 S446, Ent.frzS wz562 S448, Ent.blk b21 56 #[(.int .i64 a0.Boats), v445, v447], Ent.blk b6 56 #[(.int .i64 0), (.slice none 0 0), (.slice none 0 0)], Ent.blk b4 31 #[(.int .i64 a0.Boats), (.int .i64 a0.Scheme), v1], Ent.snap w0 w0.heap.size] w) ?_ (fun hN780 => ?_)
          · intro F1305 wd1306 hJ
            obtain ⟨v855, S856, f1307, f1308, f1309, f1310, f1311, f1312, f1313, f1314, f1315, f1316, hL⟩ := hJ
            refine DH.all (rs := [3, 11, 15]) (by kernel_rfl) (by simp) ?_
            intro i1317 hi1318
            simp only [List.mem_cons, List.not_mem_nil, or_false] at hi1318
            rcases hi1318 with rfl | rfl | rfl
            · refine ⟨_, rfl, ?_⟩
              refine OP.val (v := v445) rfl (x_load1 Try.underlying54 rfl f1312 (hL.cellB 3 rfl rfl)) ?_
              refine ⟨(hL.sel [4, 5, 6] (by decide) rfl), ?_⟩
              exact DH.relist (listed' := #[true, true, true, true, true, true, true, true, true, true, true, false, false, false, true, false, true, true, false, false, false]) (by kernel_rfl) (hN772 _ _ ⟨v855, S856, f1307, f1308, f1309, f1310, f1311, rfl, f1313, f1314, f1315, f1316, hL⟩)
            · refine ⟨_, rfl, ?_⟩
              refine OP.call rfl (x_call (vs := [(.agg #[v602]), (.int .i64 a0.Scheme)]) Try_C94 ⟨f1313, f1314, trivial⟩) (M.spec_l26Points_ok _ x597 (hL.rdS 6 rfl hr606) a0.Scheme hx609) ?_
              rintro e1321 wd1322 ⟨v1320, S1319, rfl, hF1323⟩
              refine ⟨_, rfl, ?_⟩
              have hL := hL.pushAll hF1323
              simp only [lA, lB, lC, lD] at hL
              refine ⟨(hL.sel [5, 6, 7] (by decide) rfl), ?_⟩
              have hL := hL.sel [1, 0, 2, 3, 4, 5, 6, 7] (by decide) rfl
              exact DH.relist (listed' := #[true, true, true, false, true, true, true, true, true, true, true, true, false, false, true, false, true, true, false, false, false]) (by kernel_rfl) (hN775 _ _ ⟨v855, S856, v1320, S1319, f1307, f1308, f1309, f1310, f1311, f1312, rfl, f1315, f1316, hL⟩)
            · refine ⟨_, rfl, ?_⟩
              refine OP.val (v := v447) rfl (x_load1 Try.underlying54 rfl f1315 (hL.cellB 3 rfl rfl)) ?_
              refine ⟨(hL.sel [4, 5, 6] (by decide) rfl), ?_⟩
              exact DH.relist (listed' := #[true, true, true, false, true, true, true, true, true, true, true, false, false, false, true, true, true, true, false, false, false]) (by kernel_rfl) (hN776 _ _ ⟨v855, S856, f1307, f1308, f1309, f1310, f1311, f1312, f1313, f1314, rfl, f1316, hL⟩)
          refine DH.all (rs := [3, 11, 15, 17]) (by kernel_rfl) (by simp) ?_
          intro i1324 hi1325
          simp only [List.mem_cons, List.not_mem_nil, or_false] at hi1325
          rcases hi1325 with rfl | rfl | rfl | rfl
          · refine ⟨_, rfl, ?_⟩
            refine OP.val (v := v445) rfl (x_load1 Try.underlying54 rfl rfl (hL.cellB 3 rfl rfl)) ?_
            refine ⟨(hL.sel [4, 5, 6] (by decide) rfl), ?_⟩
            exact DH.relist (listed' := #[true, true, true, true, true, true, true, true, true, true, true, false, false, false, true, false, true, false, false, false, false]) (by kernel_rfl) (hN777 _ _ ⟨f554, f555, f556, f557, rfl, rfl, rfl, rfl, rfl, rfl, hL⟩)
          · refine ⟨_, rfl, ?_⟩
            refine OP.call rfl (x_call (vs := [(.agg #[v602]), (.int .i64 a0.Scheme)]) Try_C94 ⟨rfl, rfl, trivial⟩) (M.spec_l26Points_ok _ x597 (hL.rdS 6 rfl hr606) a0.Scheme hx609) ?_
            rintro e1328 wd1329 ⟨v1327, S1326, rfl, hF1330⟩
            refine ⟨_, rfl, ?_⟩
            have hL := hL.pushAll hF1330
            simp only [lA, lB, lC, lD] at hL
            refine ⟨(hL.sel [5, 6, 7] (by decide) rfl), ?_⟩
            exact DH.relist (listed' := #[true, true, true, false, true, true, true, true, true, true, true, true, false, false, true, false, true, false, false, false, false]) (by kernel_rfl) (hN778 _ _ ⟨v1327, S1326, f554, f555, f556, f557, rfl, rfl, rfl, rfl, rfl, hL⟩)
          · refine ⟨_, rfl, ?_⟩
            refine OP.val (v := v447) rfl (x_load1 Try.underlying54 rfl rfl (hL.cellB 3 rfl rfl)) ?_
            refine ⟨(hL.sel [4, 5, 6] (by decide) rfl), ?_⟩
            exact DH.relist (listed' := #[true, true, true, false, true, true, true, true, true, true, true, false, false, false, true, true, true, false, false, false, false]) (by kernel_rfl) (hN779 _ _ ⟨f554, f555, f556, f557, rfl, rfl, rfl, rfl, rfl, rfl, hL⟩)
          · refine ⟨_, rfl, ?_⟩
            refine S_lit1 s_l2.1 rfl hL Try.underlying54 Try_T61 ((congrArg Value.cells (show _ = v546 from rfl)).trans (rdL_cells (hL.rdO 0 rfl))) rfl ?_
            intro wd1331 v1332 S1333 hL
            refine ⟨(hL.sel [4, 5, 6] (by decide) rfl), ?_⟩
            exact DH.relist (listed' := #[true, true, true, false, true, true, true, true, true, true, true, false, false, false, true, false, true, true, false, false, false]) (by kernel_rfl) (hN780 _ _ ⟨v1332, S1333, f554, f555, f556, f557, rfl, rfl, rfl, rfl, rfl, rfl, hL⟩)
        · intro s_l2 F1334 wd1335 t548 hJ hm hr549
          unfold M.spec_TableOf_l2 at hm
          obtain ⟨v546, S547, f1336, f1337, f1338, f1339, f1340, f1341, hL⟩ := hJ
          refine CW.seq ?_
          refine CW.seq ?_
          refine CW.regionL ?_
          refine OW.cons (OP.val (v := (.int .i64 s_l2.2)) rfl (x_mv f1341) ?_)
          refine OW.cons (OP.val (v := (.pointer (some ⟨b4, 2, none⟩))) rfl (x_fieldAddr (fsz := 1) 0 2 2 Try.underlying31 rfl Try_T29 rfl f1336 rfl) ?_)
          refine OW.cons (OP.val (v := v1) rfl (x_load1 Try.underlying29 rfl rfl (hL.cellB 5 rfl rfl)) ?_)
          refine OW.cons (OP.val (v := (.int .i64 s_l1.2.2)) rfl (x_mv f1339) ?_)
          obtain ⟨x1342, ha1343, hm⟩ := bndE hm
          obtain ⟨hz1344, ha1352⟩ := idxE ha1343
          obtain ⟨b1345, q1346, v1347, hix1348, hs1349, hc1350, hr1351⟩ := rdN_at h2 hz1344 ha1352
          refine OW.cons (OP.val (v := (.pointer (some ⟨b1345, q1346, none⟩))) rfl (x_ix Try.underlying29 Try_T46 rfl rfl hix1348) ?_)
          refine OW.cons (OP.val (v := (.pointer (some ⟨b1345, q1346, none⟩))) rfl (x_fieldAddr (fsz := 1) q1346 0 q1346 Try.underlying46 rfl Try_T44 rfl rfl rfl) ?_)
          refine OW.cons (OP.val (v := v1347) rfl (x_load1 Try.underlying44 rfl rfl (hL.cellS 6 rfl hs1349 hc1350)) ?_)
          refine OW.cons (OP.val (v := (.int .i64 (x1342.Finishes.length : Int))) rfl (x_lenR Try.underlying44 rfl (hL.rdS 6 rfl hr1351)) ?_)
          refine OW.cons (OP.val (v := (.bool (decide (s_l2.2 < (x1342.Finishes.length : Int))))) rfl (x_lss rfl rfl) ?_)
          refine OW.nil ?_
          refine CW.condM (t := decide (s_l2.2 < (x1342.Finishes.length : Int))) rfl hm (fun hb1353 hm => ?_) (fun hb1353 hm => ?_)
          · refine CW.skip ?_
            refine CW.seq ?_
            refine CW.block ?_
            refine CW.regionL ?_
            refine OW.cons (OP.val (v := v546) rfl (x_mv f1340) ?_)
            refine OW.cons (OP.val (v := (.pointer (some ⟨b4, 2, none⟩))) rfl (x_fieldAddr (fsz := 1) 0 2 2 Try.underlying31 rfl Try_T29 rfl f1336 rfl) ?_)
            refine OW.cons (OP.val (v := v1) rfl (x_load1 Try.underlying29 rfl rfl (hL.cellB 5 rfl rfl)) ?_)
            refine OW.cons (OP.val (v := (.int .i64 s_l1.2.2)) rfl (x_mv f1339) ?_)
            obtain ⟨x1354, ha1355, hm⟩ := bndE hm
            obtain ⟨hz1356, ha1364⟩ := idxE ha1355
            obtain ⟨b1357, q1358, v1359, hix1360, hs1361, hc1362, hr1363⟩ := rdN_at h2 hz1356 ha1364
            refine OW.cons (OP.val (v := (.pointer (some ⟨b1357, q1358, none⟩))) rfl (x_ix Try.underlying29 Try_T46 rfl rfl hix1360) ?_)
            refine OW.cons (OP.val (v := (.pointer (some ⟨b1357, q1358, none⟩))) rfl (x_fieldAddr (fsz := 1) q1358 0 q1358 Try.underlying46 rfl Try_T44 rfl rfl rfl) ?_)
            refine OW.cons (OP.val (v := v1359) rfl (x_load1 Try.underlying44 rfl rfl (hL.cellS 6 rfl hs1361 hc1362)) ?_)
            refine OW.cons (OP.val (v := (.int .i64 s_l2.2)) rfl (x_mv f1341) ?_)
            obtain ⟨x1365, ha1366, hm⟩ := bndE hm
            obtain ⟨hz1367, ha1371⟩ := idxE ha1366
            obtain ⟨b1368, q1369, hix1370⟩ := rdL_ix (hL.rdS 6 rfl hr1363) hz1367 ha1371
            refine OW.cons (OP.val (v := (.pointer (some ⟨b1368, q1369, none⟩))) rfl (x_ix Try.underlying44 Try_T50 rfl rfl hix1370) ?_)
            refine OW.cons (OP.val (v := (.pointer (some ⟨b1368, q1369 + 1, none⟩))) rfl (x_fieldAddr (fsz := 1) q1369 1 (q1369 + 1) Try.underlying50 rfl Try_T2 rfl rfl rfl) ?_)
            refine OW.cons (OP.val (v := (.int .i64 x1365.Code)) rfl (x_load1 Try.underlying2 rfl rfl (rdF_cells (hL.rdS 6 rfl hr1363) hix1370 ha1371 1 _ rfl)) ?_)
            refine OW.cons (S_lit ([x1365.Code] : List Int) hL Try.underlying61 Try_T2 rfl (by decide) (by first | (simp [Instr.fill, madeCells, Value.cells, ev, upd, Flat.enc, Flat.sz]; done) | rfl | kernel_rfl) rfl rfl ?_)
            intro wd1372 v1373 S1374 hL
            obtain ⟨hc1378, hm⟩ := chkE hm
            refine OW.cons (S_append (ys := ([x1365.Code] : List Int)) hL 1 rfl Try.underlying61 Try_T2 rfl rfl rfl (hL.rdO 0 rfl) hc1378 (by decide) rfl ?_)
            intro wd1375 v1376 S1377 hL
            refine OW.cons (OP.val (v := v1376) rfl (x_assign) ?_)
            refine OW.nil ?_
            refine CW.regionL ?_
            refine OW.cons (OP.val (v := (.int .i64 s_l2.2)) rfl (x_mv f1341) ?_)
            refine OW.cons (OP.val (v := (.int .i64 (w64 (s_l2.2 + 1)))) rfl (x_add rfl rfl) ?_)
            refine OW.cons (OP.val (v := (.int .i64 (w64 (s_l2.2 + 1)))) rfl (x_assign) ?_)
            refine OW.nil ?_
            have hL := hL.sel [1, 2, 3, 4, 5, 6, 7] (by decide) rfl
            obtain rfl := Option.some.inj hm
            exact ⟨_, rfl, ⟨v1376, S1377, f1336, f1337, f1338, f1339, rfl, rfl, hL⟩⟩
          · refine CW.exit ?_
            refine XJ.hit ?_
            obtain rfl := Option.some.inj hm
            exact ⟨_, rfl, ⟨v546, S547, f1336, f1337, f1338, f1339, f1340, f1341, hL⟩⟩
      · refine CW.exit ?_
        refine XJ.hit ?_
        obtain rfl := Option.some.inj hm
        exact ⟨_, rfl, ⟨v445, S446, v447, S448, f462, f463, f464, f465, hL⟩⟩

theorem M.spec_l21Percent_ok (w0 : World) (a0 : Int) (a1 : Int) {r : Int} (hm : M.spec_l21Percent a0 a1 = some r) :
    Calls Try.prog 77 #[(.int .i64 a0), (.int .i64 a1)] w0 fun e w' => e = .returned (.int .i64 r) ∧ Fresh w0 w' [] := by
  unfold M.spec_l21Percent at hm
  refine calls_CW (args := [(.int .i64 a0), (.int .i64 a1)]) Try.func77 rfl rfl rfl ?_
  have hL := Hp.start w0
  refine CW.seq ?_
  refine CW.regionL ?_
  refine OW.cons (OP.val (v := (.int .i64 0)) rfl (x_assign) ?_)
  refine OW.nil ?_
  refine CW.seq ?_
  refine CW.regionL ?_
  refine OW.cons (OP.val (v := (.int .i64 a0)) rfl (x_move) ?_)
  refine OW.cons (OP.val (v := (.int .i64 (w64 (20 * a0)))) rfl (x_mul rfl rfl) ?_)
  refine OW.cons (OP.val (v := (.int .i64 a1)) rfl (x_move) ?_)
  refine OW.cons (OP.val (v := (.int .i64 (w64 ((w64 (20 * a0)) * a1)))) rfl (x_mul rfl rfl) ?_)
  refine OW.cons (OP.val (v := (.int .i64 (w64 ((w64 ((w64 (20 * a0)) * a1)) + 100)))) rfl (x_add rfl rfl) ?_)
  refine OW.cons (OP.val (v := (.int .i64 (w64 ((w64 ((w64 ((w64 (20 * a0)) * a1)) + 100)).tdiv 200)))) rfl (x_quo rfl rfl (by decide)) ?_)
  refine OW.cons (OP.val (v := (.int .i64 (w64 ((w64 ((w64 ((w64 (20 * a0)) * a1)) + 100)).tdiv 200)))) rfl (x_assign) ?_)
  refine OW.nil ?_
  refine CW.ret ?_
  obtain rfl := Option.some.inj hm
  exact RR1 rfl rfl ⟨rfl, hL.fresh 0 rfl [] (by decide) (by decide) rfl⟩

theorem M.spec_l21Worst_ok (w0 : World) (a0 : Series) {v1 : Value} (h2 : rdL (· < w0.heap.size) w0 v1 a0.Races) (a1 : Int) (a2 : Int) {r : Int} (hm : M.spec_l21Worst a0 a1 a2 = some r) :
    Calls Try.prog 78 #[(.agg #[(.int .i64 a0.Boats), (.int .i64 a0.Scheme), v1]), (.int .i64 a1), (.int .i64 a2)] w0 fun e w' => e = .returned (.int .i64 r) ∧ Fresh w0 w' [] := by
  unfold M.spec_l21Worst at hm
  refine calls_CW (args := [(.agg #[(.int .i64 a0.Boats), (.int .i64 a0.Scheme), v1]), (.int .i64 a1), (.int .i64 a2)]) Try.func78 rfl rfl rfl ?_
  have hL := Hp.start w0
  refine CW.seq ?_
  refine CW.regionL ?_
  refine OW.cons (S_box (cs := #[(.int .i64 a0.Boats), (.int .i64 a0.Scheme), v1]) hL rfl rfl rfl ?_)
  intro wd3 b4 hL
  refine OW.cons (OP.val (v := (.int .i64 0)) rfl (x_assign) ?_)
  refine OW.nil ?_
  refine CW.seq ?_
  refine CW.regionL ?_
  refine OW.cons (S_lit ([] : List Finish) hL Try.underlying44 Try_T50 rfl (by decide) (by first | (simp [Instr.fill, madeCells, Value.cells, ev, upd, Flat.enc, Flat.sz]; done) | rfl | kernel_rfl) rfl rfl ?_)
  intro wd5 v6 S7 hL
  refine OW.cons (OP.val (v := (.pointer (some ⟨b4, 2, none⟩))) rfl (x_fieldAddr (fsz := 1) 0 2 2 Try.underlying31 rfl Try_T29 rfl rfl rfl) ?_)
  refine OW.cons (OP.val (v := v1) rfl (x_load1 Try.underlying29 rfl rfl (hL.cellB 1 rfl rfl)) ?_)
  refine OW.cons (OP.val (v := (.int .i64 a1)) rfl (x_move) ?_)
  obtain ⟨x8, ha9, hm⟩ := bndE hm
  obtain ⟨hz10, ha18⟩ := idxE ha9
  obtain ⟨b11, q12, v13, hix14, hs15, hc16, hr17⟩ := rdN_at h2 hz10 ha18
  refine OW.cons (OP.val (v := (.pointer (some ⟨b11, q12, none⟩))) rfl (x_ix Try.underlying29 Try_T46 rfl rfl hix14) ?_)
  refine OW.cons (OP.val (v := (.pointer (some ⟨b11, q12, none⟩))) rfl (x_fieldAddr (fsz := 1) q12 0 q12 Try.underlying46 rfl Try_T44 rfl rfl rfl) ?_)
  refine OW.cons (OP.val (v := v13) rfl (x_load1 Try.underlying44 rfl rfl (hL.cellS 2 rfl hs15 hc16)) ?_)
  obtain ⟨hc22, hm⟩ := chkE hm
  refine OW.cons (S_append (ys := x8.Finishes) hL 0 rfl Try.underlying44 Try_T50 rfl rfl rfl (hL.rdS 2 rfl hr17) hc22 (by decide) rfl ?_)
  intro wd19 v20 S21 hL
  refine OW.cons (OP.val (v := v20) rfl (x_assign) ?_)
  refine OW.nil ?_
  refine CW.seq ?_
  refine CW.regionL ?_
  refine OW.cons (OP.val (v := v20) rfl (x_move) ?_)
  refine OW.cons (OP.val (v := (.int .i64 a2)) rfl (x_move) ?_)
  refine OW.cons (OP.val (v := (.int .i64 a2)) rfl (x_move) ?_)
  refine OW.cons (OP.val (v := (.agg #[(.int .i64 a2), (.int .i64 4), (.int .i64 0)])) rfl (x_build Try_B50 (ps := [(0, (.int .i64 a2)), (1, (.int .i64 4))]) ⟨⟨rfl, rfl⟩, ⟨rfl, rfl⟩, trivial⟩ (by simp [Instr.fill, cells_int, cells_bool, cells_string, cells_agg, cells_slice, cells_pointer])) ?_)
  obtain ⟨x23, ha24, hm⟩ := bndE hm
  obtain ⟨hz25, ha29⟩ := idxE ha24
  obtain ⟨b26, q27, hix28⟩ := rdL_ix (hL.rdO 0 rfl) hz25 ha29
  refine OW.cons (OP.val (v := (.pointer (some ⟨b26, q27, none⟩))) rfl (x_ix Try.underlying44 Try_T50 rfl rfl hix28) ?_)
  refine OW.cons (S_storeXN (l := [(.int .i64 a2), (.int .i64 4), (.int .i64 0)]) (Finish.mk a2 4 0) hL 0 rfl Try_T50 hix28 ha29 rfl rfl rfl ?_)
  intro wd30 hL
  refine OW.nil ?_
  refine CW.seq ?_
  refine CW.regionL ?_
  refine OW.cons (OP.val (v := v20) rfl (x_move) ?_)
  refine OW.cons (OP.val (v := (.agg #[v20])) rfl (x_build Try_B46 (ps := [(0, v20)]) ⟨⟨rfl, rfl⟩, trivial⟩ (by simp [Instr.fill, cells_int, cells_bool, cells_string, cells_agg, cells_slice, cells_pointer, (rdL_cells (hL.rdO 0 rfl))])) ?_)
  refine OW.cons (OP.val (v := (.pointer (some ⟨b4, 1, none⟩))) rfl (x_fieldAddr (fsz := 1) 0 1 1 Try.underlying31 rfl Try_T2 rfl rfl rfl) ?_)
  refine OW.cons (OP.val (v := (.int .i64 a0.Scheme)) rfl (x_load1 Try.underlying2 rfl rfl (hL.cellB 1 rfl rfl)) ?_)
  obtain ⟨x31, hx32, hm⟩ := bndE hm
  refine OW.cons (OP.call rfl (x_call (vs := [(.agg #[v20]), (.int .i64 a0.Scheme)]) Try_C94 ⟨rfl, rfl, trivial⟩) (M.spec_l26Points_ok _ (Race.mk ((([] : List Finish) ++ x8.Finishes).set (a2 : Int).toNat (Finish.mk a2 4 0))) (hL.rdO 0 rfl) a0.Scheme hx32) ?_)
  rintro e35 wd36 ⟨v34, S33, rfl, hF37⟩
  refine ⟨_, rfl, ?_⟩
  have hL := hL.pushAll hF37
  simp only [lA, lB, lC, lD] at hL
  refine OW.cons (OP.val (v := (.int .i64 a2)) rfl (x_move) ?_)
  obtain ⟨x38, ha39, hm⟩ := bndE hm
  obtain ⟨hz40, ha44⟩ := idxE ha39
  obtain ⟨b41, q42, hix43⟩ := rdL_ix (hL.rdO 0 rfl) hz40 ha44
  refine OW.cons (OP.val (v := (.pointer (some ⟨b41, q42, none⟩))) rfl (x_ix Try.underlying61 Try_T2 rfl rfl hix43) ?_)
  refine OW.cons (OP.val (v := (.int .i64 x38)) rfl (x_load1 Try.underlying2 rfl rfl (rdF_cells (hL.rdO 0 rfl) hix43 ha44 0 _ rfl)) ?_)
  refine OW.cons (OP.val (v := (.int .i64 x38)) rfl (x_assign) ?_)
  refine OW.nil ?_
  refine CW.ret ?_
  obtain rfl := Option.some.inj hm
  exact RR1 rfl rfl ⟨rfl, hL.fresh 3 rfl [] (by decide) (by decide) rfl⟩

theorem M.spec_l21Table_ok (w0 : World) (a0 : Series) {v1 : Value} (h2 : rdL (· < w0.heap.size) w0 v1 a0.Races) (a1 : List Penalty) {v3 : Value} (h4 : rdL (· < w0.heap.size) w0 v3 a1) {r : Table} (hm : M.spec_l21Table a0 a1 = some r) :
    Calls Try.prog 54 #[(.agg #[(.int .i64 a0.Boats), (.int .i64 a0.Scheme), v1]), v3] w0 fun e w' => ∃ (rv0 : Value) (rS0 : Nat → Prop), ∃ (rv1 : Value) (rS1 : Nat → Prop), e = .returned (.agg #[(.int .i64 r.Boats), rv0, rv1]) ∧ Fresh w0 w' [Ent.own 61 rS0 rv0 r.Points, Ent.own 61 rS1 rv1 r.Codes] := by
  unfold M.spec_l21Table at hm
  refine calls_CW (args := [(.agg #[(.int .i64 a0.Boats), (.int .i64 a0.Scheme), v1]), v3]) Try.func54 rfl rfl rfl ?_
  have hL := Hp.start w0
  refine CW.seq ?_
  refine CW.regionL ?_
  refine OW.cons (S_box (cs := #[(.int .i64 a0.Boats), (.int .i64 a0.Scheme), v1]) hL rfl rfl rfl ?_)
  intro wd5 b6 hL
  refine OW.cons (S_alloc (cs := #[(.int .i64 0), (.slice none 0 0), (.slice none 0 0)]) hL Try_T56 rfl rfl ?_)
  intro wd7 b8 hL
  refine OW.nil ?_
  refine CW.seq ?_
  refine CW.regionL ?_
  refine OW.cons (OP.val (v := (.agg #[(.int .i64 a0.Boats), (.int .i64 a0.Scheme), v1])) rfl (x_loadN (cs := [(.int .i64 a0.Boats), (.int .i64 a0.Scheme), v1]) Try.underlying31 Try_T31 rfl rfl (hL.cellsB 1 rfl (o := 0) (l := [(.int .i64 a0.Boats), (.int .i64 a0.Scheme), v1]) (by intro j u hj; exact (by simpa using hj)))) ?_)
  refine OW.cons (OP.val (v := v3) rfl (x_move) ?_)
  obtain ⟨x9, hx10, hm⟩ := bndE hm
  refine OW.cons (OP.call rfl (x_call (vs := [(.agg #[(.int .i64 a0.Boats), (.int .i64 a0.Scheme), v1]), v3]) Try_C46 ⟨rfl, rfl, trivial⟩) (M.spec_l21Series_ok _ a0 (hL.rdS 2 rfl h2) a1 (hL.rdS 2 rfl h4) hx10) ?_)
  rintro e13 wd14 ⟨v12, S11, rfl, hF15⟩
  refine ⟨_, rfl, ?_⟩
  have hL := hL.pushAll hF15
  simp only [lA, lB, lC, lD] at hL
  refine OW.cons (S_alloc (cs := #[(.int .i64 0), (.int .i64 0), (.slice none 0 0)]) hL Try_T31 rfl rfl ?_)
  intro wd16 b17 hL
  refine OW.cons (S_storeN (l := [(.int .i64 x9.Boats), (.int .i64 x9.Scheme), v12]) (cs' := #[(.int .i64 x9.Boats), (.int .i64 x9.Scheme), v12]) hL 0 rfl Try_T31 rfl rfl (List.forall_mem_cons.2 ⟨rfl, (List.forall_mem_cons.2 ⟨rfl, (List.forall_mem_cons.2 ⟨rdL_one (hL.rdO 1 rfl), (fun _ h => by cases h)⟩)⟩)⟩) rfl (Nat.le_of_ble_eq_true rfl) rfl ?_)
  intro wd18 hL
  refine OW.nil ?_
  refine CW.seq ?_
  refine CW.regionL ?_
  refine OW.cons (OP.val (v := (.agg #[(.int .i64 x9.Boats), (.int .i64 x9.Scheme), v12])) rfl (x_loadN (cs := [(.int .i64 x9.Boats), (.int .i64 x9.Scheme), v12]) Try.underlying31 Try_T31 rfl rfl (hL.cellsB 0 rfl (o := 0) (l := [(.int .i64 x9.Boats), (.int .i64 x9.Scheme), v12]) (by intro j u hj; exact (by simpa using hj)))) ?_)
  obtain ⟨x19, hx20, hm⟩ := bndE hm
  refine OW.cons (OP.call rfl (x_call (vs := [(.agg #[(.int .i64 x9.Boats), (.int .i64 x9.Scheme), v12])]) Try_C76 ⟨rfl, trivial⟩) (M.spec_TableOf_ok _ x9 (hL.rdO 1 rfl) hx20) ?_)
  rintro e25 wd26 ⟨v22, S21, v24, S23, rfl, hF27⟩
  refine ⟨_, rfl, ?_⟩
  have hL := hL.pushAll hF27
  simp only [lA, lB, lC, lD] at hL
  refine OW.cons (OP.val (v := (.tuple #[(.agg #[(.int .i64 x19.1.Boats), v22, v24]), (.int .i64 x19.2)])) rfl (x_move) ?_)
  refine OW.cons (OP.val (v := (.agg #[(.int .i64 x19.1.Boats), v22, v24])) rfl (x_extract rfl rfl) ?_)
  refine OW.cons (OP.val (v := (.int .i64 x19.2)) rfl (x_extract rfl rfl) ?_)
  refine OW.cons (S_alloc (cs := #[(.int .i64 0), (.slice none 0 0), (.slice none 0 0)]) hL Try_T56 rfl rfl ?_)
  intro wd28 b29 hL
  refine OW.cons (S_storeN (l := [(.int .i64 x19.1.Boats), v22, v24]) (cs' := #[(.int .i64 x19.1.Boats), v22, v24]) hL 0 rfl Try_T56 rfl rfl (List.forall_mem_cons.2 ⟨rfl, (List.forall_mem_cons.2 ⟨rdL_one (hL.rdO 1 rfl), (List.forall_mem_cons.2 ⟨rdL_one (hL.rdO 2 rfl), (fun _ h => by cases h)⟩)⟩)⟩) rfl (Nat.le_of_ble_eq_true rfl) rfl ?_)
  intro wd30 hL
  refine OW.cons (OP.val (v := (.int .i64 x19.2)) rfl (x_assign) ?_)
  refine OW.nil ?_
  refine CW.seq ?_
  refine CW.seq ?_
  refine CW.regionL ?_
  refine OW.cons (OP.val (v := (.int .i64 0)) rfl (x_assign) ?_)
  refine OW.nil ?_
  obtain ⟨o26263, ho26264, hm⟩ := bndE hm
  refine CW.loopB (fun (s_l1 : (List (List Int)) × Int) (F : Fr) (w : World) => ∃ (S26260 : Nat → Prop), F 1 = v3 ∧ F 2 = (.pointer (some ⟨b6, 0, none⟩)) ∧ F 4 = (.pointer (some ⟨b8, 0, none⟩)) ∧ F 5 = (.pointer (some ⟨b17, 0, none⟩)) ∧ F 6 = (.pointer (some ⟨b29, 0, none⟩)) ∧ F 8 = (.int .i64 s_l1.2) ∧ Hp w0 [Ent.blk b29 56 #[(.int .i64 x19.1.Boats), v22, v24], Ent.own 61 S26260 v22 s_l1.1, Ent.own 61 S23 v24 x19.1.Codes, Ent.blk b17 31 #[(.int .i64 x9.Boats), (.int .i64 x9.Scheme), v12], Ent.own 46 S11 v12 x9.Races, Ent.blk b8 56 #[(.int .i64 0), (.slice none 0 0), (.slice none 0 0)], Ent.blk b6 31 #[(.int .i64 a0.Boats), (.int .i64 a0.Scheme), v1], Ent.snap w0 w0.heap.size] w) (fun o => outc o (fun x => some x) (fun s => M.spec_l21Table_a1 x19 s) = some r) ho26264 hm ⟨S21, rfl, rfl, rfl, rfl, rfl, rfl, hL⟩ ?_ ?_
  · intro s_l1 F26265 wd26266 hJ hm
    have hm := outcE hm
    have hm : M.spec_l21Table_a1 x19 s_l1 = some r := hm
    unfold M.spec_l21Table_a1 at hm
    obtain ⟨S26260, f26267, f26268, f26269, f26270, f26271, f26272, hL⟩ := hJ
    refine CW.seq ?_
    refine CW.regionL ?_
    refine OW.cons (OP.val (v := (.agg #[(.int .i64 x19.1.Boats), v22, v24])) rfl (x_loadN (cs := [(.int .i64 x19.1.Boats), v22, v24]) Try.underlying56 Try_T56 rfl f26271 (hL.cellsB 0 rfl (o := 0) (l := [(.int .i64 x19.1.Boats), v22, v24]) (by intro j u hj; exact (by simpa using hj)))) ?_)
    refine OW.cons (S_storeN (l := [(.int .i64 x19.1.Boats), v22, v24]) (cs' := #[(.int .i64 x19.1.Boats), v22, v24]) hL 5 rfl Try_T56 f26269 rfl (List.forall_mem_cons.2 ⟨rfl, (List.forall_mem_cons.2 ⟨rdL_one (hL.rdO 1 rfl), (List.forall_mem_cons.2 ⟨rdL_one (hL.rdO 2 rfl), (fun _ h => by cases h)⟩)⟩)⟩) rfl (Nat.le_of_ble_eq_true rfl) rfl ?_)
    intro wd26273 hL
    refine OW.nil ?_
    refine CW.ret ?_
    obtain rfl := Option.some.inj hm
    exact RRc rfl f26269 (run_loadBlk Try.underlying56 Try_T56 (hL.get 5 rfl) rfl) ⟨v22, S26260, v24, S23, rfl, hL.fresh 7 rfl [1, 2] (by decide) (by decide) rfl⟩
  · intro s_l1 F26274 wd26275 t26261 hJ hm hr26262
    unfold M.spec_l21Table_l1 at hm
    obtain ⟨S26260, f26276, f26277, f26278, f26279, f26280, f26281, hL⟩ := hJ
    refine CW.seq ?_
    refine CW.seq ?_
    refine CW.regionL ?_
    refine OW.cons (OP.val (v := (.int .i64 s_l1.2)) rfl (x_mv f26281) ?_)
    refine OW.cons (OP.val (v := (.pointer (some ⟨b29, 1, none⟩))) rfl (x_fieldAddr (fsz := 1) 0 1 1 Try.underlying56 rfl Try_T54 rfl f26280 rfl) ?_)
    refine OW.cons (OP.val (v := v22) rfl (x_load1 Try.underlying54 rfl rfl (hL.cellB 0 rfl rfl)) ?_)
    refine OW.cons (OP.val (v := (.int .i64 (s_l1.1.length : Int))) rfl (x_lenR Try.underlying54 rfl (hL.rdO 1 rfl)) ?_)
    refine OW.cons (OP.val (v := (.bool (decide (s_l1.2 < (s_l1.1.length : Int))))) rfl (x_lss rfl rfl) ?_)
    refine OW.nil ?_
    refine CW.condM (t := decide (s_l1.2 < (s_l1.1.length : Int))) rfl hm (fun hb26282 hm => ?_) (fun hb26282 hm => ?_)
    · refine CW.skip ?_
      refine CW.seq ?_
      refine CW.block ?_
      refine CW.seq ?_
      refine CW.regionL ?_
      refine OW.cons (OP.val (v := (.int .i64 0)) rfl (x_assign) ?_)
      refine OW.nil ?_
      obtain ⟨o35013, ho35014, hm⟩ := bndE hm
      refine CW.loopB (fun (s_l2 : (List (List Int)) × Int) (F : Fr) (w : World) => ∃ (S35010 : Nat → Prop), F 1 = v3 ∧ F 2 = (.pointer (some ⟨b6, 0, none⟩)) ∧ F 4 = (.pointer (some ⟨b8, 0, none⟩)) ∧ F 5 = (.pointer (some ⟨b17, 0, none⟩)) ∧ F 6 = (.pointer (some ⟨b29, 0, none⟩)) ∧ F 8 = (.int .i64 s_l1.2) ∧ F 9 = (.int .i64 s_l2.2) ∧ Hp w0 [Ent.blk b29 56 #[(.int .i64 x19.1.Boats), v22, v24], Ent.own 61 S35010 v22 s_l2.1, Ent.own 61 S23 v24 x19.1.Codes, Ent.blk b17 31 #[(.int .i64 x9.Boats), (.int .i64 x9.Scheme), v12], Ent.own 46 S11 v12 x9.Races, Ent.blk b8 56 #[(.int .i64 0), (.slice none 0 0), (.slice none 0 0)], Ent.blk b6 31 #[(.int .i64 a0.Boats), (.int .i64 a0.Scheme), v1], Ent.snap w0 w0.heap.size] w) (fun o => outc o (fun x => some (.ret x)) (fun s => M.spec_l21Table_a2 s_l1 s) = some t26261) ho35014 hm ⟨S26260, f26276, f26277, f26278, f26279, f26280, f26281, rfl, hL⟩ ?_ ?_
      · intro s_l2 F35015 wd35016 hJ hm
        have hm := outcE hm
        have hm : M.spec_l21Table_a2 s_l1 s_l2 = some t26261 := hm
        unfold M.spec_l21Table_a2 at hm
        obtain ⟨S35010, f35017, f35018, f35019, f35020, f35021, f35022, f35023, hL⟩ := hJ
        refine CW.regionL ?_
        refine OW.cons (OP.val (v := (.int .i64 s_l1.2)) rfl (x_mv f35022) ?_)
        refine OW.cons (OP.val (v := (.int .i64 (w64 (s_l1.2 + 1)))) rfl (x_add rfl rfl) ?_)
        refine OW.cons (OP.val (v := (.int .i64 (w64 (s_l1.2 + 1)))) rfl (x_assign) ?_)
        refine OW.nil ?_
        obtain rfl := Option.some.inj hm
        exact ⟨_, rfl, ⟨S35010, f35017, f35018, f35019, f35020, f35021, rfl, hL⟩⟩
      · intro s_l2 F35024 wd35025 t35011 hJ hm hr35012
        unfold M.spec_l21Table_l2 at hm
        obtain ⟨S35010, f35026, f35027, f35028, f35029, f35030, f35031, f35032, hL⟩ := hJ
        refine CW.seq ?_
        refine CW.seq ?_
        refine CW.regionL ?_
        refine OW.cons (OP.val (v := (.int .i64 s_l2.2)) rfl (x_mv f35032) ?_)
        refine OW.cons (OP.val (v := (.pointer (some ⟨b29, 0, none⟩))) rfl (x_fieldAddr (fsz := 1) 0 0 0 Try.underlying56 rfl Try_T2 rfl f35030 rfl) ?_)
        refine OW.cons (OP.val (v := (.int .i64 x19.1.Boats)) rfl (x_load1 Try.underlying2 rfl rfl (hL.cellB 0 rfl rfl)) ?_)
        refine OW.cons (OP.val (v := (.bool (decide (s_l2.2 < x19.1.Boats)))) rfl (x_lss rfl rfl) ?_)
        refine OW.nil ?_
        refine CW.condM (t := decide (s_l2.2 < x19.1.Boats)) rfl hm (fun hb35033 hm => ?_) (fun hb35033 hm => ?_)
        · refine CW.skip ?_
          refine CW.seqJ (fun (s_j1 : (List (List Int))) (F : Fr) (w : World) => ∃ (S37210 : Nat → Prop), F 1 = v3 ∧ F 2 = (.pointer (some ⟨b6, 0, none⟩)) ∧ F 4 = (.pointer (some ⟨b8, 0, none⟩)) ∧ F 5 = (.pointer (some ⟨b17, 0, none⟩)) ∧ F 6 = (.pointer (some ⟨b29, 0, none⟩)) ∧ F 8 = (.int .i64 s_l1.2) ∧ F 9 = (.int .i64 s_l2.2) ∧ Hp w0 [Ent.blk b29 56 #[(.int .i64 x19.1.Boats), v22, v24], Ent.own 61 S37210 v22 s_j1, Ent.own 61 S23 v24 x19.1.Codes, Ent.blk b17 31 #[(.int .i64 x9.Boats), (.int .i64 x9.Scheme), v12], Ent.own 46 S11 v12 x9.Races, Ent.blk b8 56 #[(.int .i64 0), (.slice none 0 0), (.slice none 0 0)], Ent.blk b6 31 #[(.int .i64 a0.Boats), (.int .i64 a0.Scheme), v1], Ent.snap w0 w0.heap.size] w) (fun s_j1 => M.spec_l21Table_j1 s_l2 s_j1 = some t35011) ?_ ?_
          · refine CW.blockJ (fun (s_j2 : (List (List Int))) (F : Fr) (w : World) => ∃ (S38303 : Nat → Prop), F 1 = v3 ∧ F 2 = (.pointer (some ⟨b6, 0, none⟩)) ∧ F 4 = (.pointer (some ⟨b8, 0, none⟩)) ∧ F 5 = (.pointer (some ⟨b17, 0, none⟩)) ∧ F 6 = (.pointer (some ⟨b29, 0, none⟩)) ∧ F 8 = (.int .i64 s_l1.2) ∧ F 9 = (.int .i64 s_l2.2) ∧ Hp w0 [Ent.blk b29 56 #[(.int .i64 x19.1.Boats), v22, v24], Ent.own 61 S38303 v22 s_j2, Ent.own 61 S23 v24 x19.1.Codes, Ent.blk b17 31 #[(.int .i64 x9.Boats), (.int .i64 x9.Scheme), v12], Ent.own 46 S11 v12 x9.Races, Ent.blk b8 56 #[(.int .i64 0), (.slice none 0 0), (.slice none 0 0)], Ent.blk b6 31 #[(.int .i64 a0.Boats), (.int .i64 a0.Scheme), v1], Ent.snap w0 w0.heap.size] w) (fun s_j2 => M.spec_l21Table_j2 s_l2 s_j2 = some t35011) ?_ ?_
            · refine CW.seq ?_
              refine CW.regionL ?_
              refine OW.cons (OP.val (v := (.int .i64 0)) rfl (x_assign) ?_)
              refine OW.nil ?_
              refine CW.seq ?_
              refine CW.seq ?_
              refine CW.regionL ?_
              refine OW.cons (OP.val (v := (.int .i64 0)) rfl (x_assign) ?_)
              refine OW.nil ?_
              obtain ⟨o38935, ho38936, hm⟩ := bndE hm
              refine CW.loopB (fun (s_l3 : Int × Int) (F : Fr) (w : World) => F 1 = v3 ∧ F 2 = (.pointer (some ⟨b6, 0, none⟩)) ∧ F 4 = (.pointer (some ⟨b8, 0, none⟩)) ∧ F 5 = (.pointer (some ⟨b17, 0, none⟩)) ∧ F 6 = (.pointer (some ⟨b29, 0, none⟩)) ∧ F 8 = (.int .i64 s_l1.2) ∧ F 9 = (.int .i64 s_l2.2) ∧ F 10 = (.int .i64 s_l3.1) ∧ F 11 = (.int .i64 s_l3.2) ∧ Hp w0 [Ent.blk b29 56 #[(.int .i64 x19.1.Boats), v22, v24], Ent.own 61 S35010 v22 s_l2.1, Ent.own 61 S23 v24 x19.1.Codes, Ent.blk b17 31 #[(.int .i64 x9.Boats), (.int .i64 x9.Scheme), v12], Ent.own 46 S11 v12 x9.Races, Ent.blk b8 56 #[(.int .i64 0), (.slice none 0 0), (.slice none 0 0)], Ent.blk b6 31 #[(.int .i64 a0.Boats), (.int .i64 a0.Scheme), v1], Ent.snap w0 w0.heap.size] w) (fun o => outc o (fun x => some (.ret x)) (fun s => M.spec_l21Table_a3 x9 x19 s_l1 s_l2 s) = some t35011) ho38936 hm ⟨f35026, f35027, f35028, f35029, f35030, f35031, f35032, rfl, rfl, hL⟩ ?_ ?_
              · intro s_l3 F38937 wd38938 hJ hm
                have hm := outcE hm
                have hm : M.spec_l21Table_a3 x9 x19 s_l1 s_l2 s_l3 = some t35011 := hm
                unfold M.spec_l21Table_a3 at hm
                obtain ⟨f38939, f38940, f38941, f38942, f38943, f38944, f38945, f38946, f38947, hL⟩ := hJ
                refine CW.seqJ (fun (s_j3 : Bool) (F : Fr) (w : World) => F 1 = v3 ∧ F 2 = (.pointer (some ⟨b6, 0, none⟩)) ∧ F 4 = (.pointer (some ⟨b8, 0, none⟩)) ∧ F 5 = (.pointer (some ⟨b17, 0, none⟩)) ∧ F 6 = (.pointer (some ⟨b29, 0, none⟩)) ∧ F 8 = (.int .i64 s_l1.2) ∧ F 9 = (.int .i64 s_l2.2) ∧ F 10 = (.int .i64 s_l3.1) ∧ F 85 = (.bool s_j3) ∧ Hp w0 [Ent.blk b29 56 #[(.int .i64 x19.1.Boats), v22, v24], Ent.own 61 S35010 v22 s_l2.1, Ent.own 61 S23 v24 x19.1.Codes, Ent.blk b17 31 #[(.int .i64 x9.Boats), (.int .i64 x9.Scheme), v12], Ent.own 46 S11 v12 x9.Races, Ent.blk b8 56 #[(.int .i64 0), (.slice none 0 0), (.slice none 0 0)], Ent.blk b6 31 #[(.int .i64 a0.Boats), (.int .i64 a0.Scheme), v1], Ent.snap w0 w0.heap.size] w) (fun s_j3 => M.spec_l21Table_j3 x9 s_l1 s_l2 s_l3 s_j3 = some t35011) ?_ ?_
                · refine CW.regionL ?_
                  refine OW.cons (OP.val (v := (.int .i64 s_l3.1)) rfl (x_mv f38946) ?_)
                  refine OW.cons (OP.val (v := (.bool (decide (0 < s_l3.1)))) rfl (x_gtr rfl rfl) ?_)
                  refine OW.cons (OP.val (v := (.bool (decide (0 < s_l3.1)))) rfl (x_move) ?_)
                  refine ifB_elim hm (fun hb39054 hm => ?_) (fun hb39054 hm => ?_)
                  · refine OW.cons (OP.yes' rfl rfl hb39054 (OP.val (v := (.pointer (some ⟨b29, 2, none⟩))) rfl (x_fieldAddr (fsz := 1) 0 2 2 Try.underlying56 rfl Try_T54 rfl f38943 rfl) ?_))
                    refine OW.cons (OP.yes' rfl rfl hb39054 (OP.val (v := v24) rfl (x_load1 Try.underlying54 rfl rfl (hL.cellB 0 rfl rfl)) ?_))
                    refine OW.cons (OP.yes' rfl rfl hb39054 (OP.val (v := (.int .i64 s_l1.2)) rfl (x_mv f38944) ?_))
                    obtain ⟨wz39055, hL, ho39056⟩ := hL.freeze 2 rfl
                    simp only [lC, lD] at hL
                    obtain ⟨x39057, ha39058, hm⟩ := bndE hm
                    obtain ⟨hz39059, ha39067⟩ := idxE ha39058
                    obtain ⟨b39060, q39061, v39062, hix39063, hs39064, hc39065, hr39066⟩ := rdN_at ho39056.1.rdL hz39059 ha39067
                    refine OW.cons (OP.yes' rfl rfl hb39054 (OP.val (v := (.pointer (some ⟨b39060, q39061, none⟩))) rfl (x_ix Try.underlying54 Try_T61 rfl rfl hix39063) ?_))
                    refine OW.cons (OP.yes' rfl rfl hb39054 (OP.val (v := v39062) rfl (x_load1 Try.underlying61 rfl rfl (hL.cellF 2 rfl hs39064 hc39065)) ?_))
                    refine OW.cons (OP.yes' rfl rfl hb39054 (OP.val (v := (.int .i64 s_l2.2)) rfl (x_mv f38945) ?_))
                    obtain ⟨x39068, ha39069, hm⟩ := bndE hm
                    obtain ⟨hz39070, ha39074⟩ := idxE ha39069
                    obtain ⟨b39071, q39072, hix39073⟩ := rdL_ix (hL.rdF 2 rfl hr39066) hz39070 ha39074
                    refine OW.cons (OP.yes' rfl rfl hb39054 (OP.val (v := (.pointer (some ⟨b39071, q39072, none⟩))) rfl (x_ix Try.underlying61 Try_T2 rfl rfl hix39073) ?_))
                    refine OW.cons (OP.yes' rfl rfl hb39054 (OP.val (v := (.int .i64 x39068)) rfl (x_load1 Try.underlying2 rfl rfl (rdF_cells (hL.rdF 2 rfl hr39066) hix39073 ha39074 0 _ rfl)) ?_))
                    refine OW.cons (OP.yes' rfl rfl hb39054 (OP.val (v := (.bool (x39068 == 0))) rfl (x_eql rfl rfl) ?_))
                    refine OW.cons (OP.val (v := (.bool (x39068 == 0))) rfl (x_pickT' rfl hb39054 rfl) ?_)
                    refine OW.nil ?_
                    have hL := hL.thaw 2 rfl ho39056
                    exact ⟨x39068 == 0, hm, ⟨f38939, f38940, f38941, f38942, f38943, f38944, f38945, f38946, rfl, hL⟩⟩
                  · refine OW.cons (OP.no' rfl rfl hb39054 rfl ?_)
                    refine OW.cons (OP.no' rfl rfl hb39054 rfl ?_)
                    refine OW.cons (OP.no' rfl rfl hb39054 rfl ?_)
                    refine OW.cons (OP.no' rfl rfl hb39054 rfl ?_)
                    refine OW.cons (OP.no' rfl rfl hb39054 rfl ?_)
                    refine OW.cons (OP.no' rfl rfl hb39054 rfl ?_)
                    refine OW.cons (OP.no' rfl rfl hb39054 rfl ?_)
                    refine OW.cons (OP.no' rfl rfl hb39054 rfl ?_)
                    refine OW.cons (OP.no' rfl rfl hb39054 rfl ?_)
                    refine OW.cons (OP.val (v := (.bool false)) rfl (x_pickF' rfl hb39054 rfl) ?_)
                    refine OW.nil ?_
                    exact ⟨false, hm, ⟨f38939, f38940, f38941, f38942, f38943, f38944, f38945, f38946, rfl, hL⟩⟩
                · intro s_j3 F38969 wd38970 hJ hm
                  unfold M.spec_l21Table_j3 at hm
                  obtain ⟨f38971, f38972, f38973, f38974, f38975, f38976, f38977, f38978, f38979, hL⟩ := hJ
                  refine CW.condM (t := s_j3) f38979 hm (fun hb38980 hm => ?_) (fun hb38980 hm => ?_)
                  · obtain ⟨wz38981, hL, ho38982⟩ := hL.freeze 1 rfl
                    simp only [lC, lD] at hL
                    obtain ⟨wz38983, hL, ho38984⟩ := hL.freeze 2 rfl
                    simp only [lC, lD] at hL
                    obtain ⟨wz38985, hL, ho38986⟩ := hL.freeze 4 rfl
                    simp only [lC, lD] at hL
                    refine CW.draw Try_mixed ?_
                    have hL := hL.call (Mod.drew _)
                    refine DW.pre (fuel := 1) (fin := ((((((((((((((((((((((((((((((((Array.replicate 32 false).setIfInBounds 0 true).setIfInBounds 1 true).setIfInBounds 2 true).setIfInBounds 3 true).setIfInBounds 4 true).setIfInBounds 5 true).setIfInBounds 6 true).setIfInBounds 7 true).setIfInBounds 8 true).setIfInBounds 9 true).setIfInBounds 10 true).setIfInBounds 11 true).setIfInBounds 12 true).setIfInBounds 13 true).setIfInBounds 14 true).setIfInBounds 15 true).setIfInBounds 16 true).setIfInBounds 17 true).setIfInBounds 18 true).setIfInBounds 19 true).setIfInBounds 20 true).setIfInBounds 21 true).setIfInBounds 22 true).setIfInBounds 23 true).setIfInBounds 24 true).setIfInBounds 25 true).setIfInBounds 26 true).setIfInBounds 27 true).setIfInBounds 28 true).setIfInBounds 29 true).setIfInBounds 30 true)) (C := fun w' => Mod None_ _ w') [0, 1, 2, 3, 4, 5, 6, 7, 8, 9, 10, 11, 12, 13, 14, 15, 16, 17, 18, 19, 20, 21, 22, 23, 24, 25, 26, 27, 28, 29, 30] (Mod.refl _ _) (by kernel_rfl) (by kernel_rfl) ?_
                    refine QW.cons rfl (QP.val (v := (.pointer (some ⟨b29, 1, none⟩))) rfl (fun w' hm' => x_fieldAddr (fsz := 1) 0 1 1 Try.underlying56 rfl Try_T54 rfl f38975 rfl) ?_)
                    refine QW.cons rfl (QP.val (v := v22) rfl (fun w' hm' => x_load1 Try.underlying54 rfl rfl ((hL.call hm').cellB 0 rfl rfl)) ?_)
                    refine QW.cons rfl (QP.val (v := (.int .i64 s_l1.2)) rfl (fun w' hm' => x_mv f38976) ?_)
                    obtain ⟨x38987, ha38988, hm⟩ := bndE hm
                    obtain ⟨hz38989, ha38997⟩ := idxE ha38988
                    obtain ⟨b38990, q38991, v38992, hix38993, hs38994, hc38995, hr38996⟩ := rdN_at ho38982.1.rdL hz38989 ha38997
                    refine QW.cons rfl (QP.val (v := (.pointer (some ⟨b38990, q38991, none⟩))) rfl (fun w' hm' => x_ix Try.underlying54 Try_T61 rfl rfl hix38993) ?_)
                    refine QW.cons rfl (QP.val (v := v38992) rfl (fun w' hm' => x_load1 Try.underlying61 rfl rfl ((hL.call hm').cellF 1 rfl hs38994 hc38995)) ?_)
                    refine QW.cons rfl (QP.val (v := (.int .i64 s_l2.2)) rfl (fun w' hm' => x_mv f38977) ?_)
                    refine QW.cons rfl (QP.val (v := (.pointer (some ⟨b29, 1, none⟩))) rfl (fun w' hm' => x_fieldAddr (fsz := 1) 0 1 1 Try.underlying56 rfl Try_T54 rfl f38975 rfl) ?_)
                    refine QW.cons rfl (QP.val (v := v22) rfl (fun w' hm' => x_load1 Try.underlying54 rfl rfl ((hL.call hm').cellB 0 rfl rfl)) ?_)
                    refine QW.cons rfl (QP.val (v := (.int .i64 s_l1.2)) rfl (fun w' hm' => x_mv f38976) ?_)
                    obtain ⟨x38998, ha38999, hm⟩ := bndE hm
                    obtain ⟨hz39000, ha39008⟩ := idxE ha38999
                    obtain ⟨b39001, q39002, v39003, hix39004, hs39005, hc39006, hr39007⟩ := rdN_at ho38982.1.rdL hz39000 ha39008
                    refine QW.cons rfl (QP.val (v := (.pointer (some ⟨b39001, q39002, none⟩))) rfl (fun w' hm' => x_ix Try.underlying54 Try_T61 rfl rfl hix39004) ?_)
                    refine QW.cons rfl (QP.val (v := v39003) rfl (fun w' hm' => x_load1 Try.underlying61 rfl rfl ((hL.call hm').cellF 1 rfl hs39005 hc39006)) ?_)
                    refine QW.cons rfl (QP.val (v := (.int .i64 s_l2.2)) rfl (fun w' hm' => x_mv f38977) ?_)
                    obtain ⟨x39009, ha39010, hm⟩ := bndE hm
                    obtain ⟨hz39011, ha39015⟩ := idxE ha39010
                    obtain ⟨b39012, q39013, hix39014⟩ := rdL_ix (hL.rdF 1 rfl hr39007) hz39011 ha39015
                    refine QW.cons rfl (QP.val (v := (.pointer (some ⟨b39012, q39013, none⟩))) rfl (fun w' hm' => x_ix Try.underlying61 Try_T2 rfl rfl hix39014) ?_)
                    refine QW.cons rfl (QP.val (v := (.int .i64 x39009)) rfl (fun w' hm' => x_load1 Try.underlying2 rfl rfl (rdF_cells ((hL.call hm').rdF 1 rfl hr39007) hix39014 ha39015 0 _ rfl)) ?_)
                    refine QW.cons rfl (QP.val (v := (.pointer (some ⟨b29, 1, none⟩))) rfl (fun w' hm' => x_fieldAddr (fsz := 1) 0 1 1 Try.underlying56 rfl Try_T54 rfl f38975 rfl) ?_)
                    refine QW.cons rfl (QP.val (v := v22) rfl (fun w' hm' => x_load1 Try.underlying54 rfl rfl ((hL.call hm').cellB 0 rfl rfl)) ?_)
                    refine QW.cons rfl (QP.val (v := (.int .i64 s_l1.2)) rfl (fun w' hm' => x_mv f38976) ?_)
                    obtain ⟨x39016, ha39017, hm⟩ := bndE hm
                    obtain ⟨hz39018, ha39026⟩ := idxE ha39017
                    obtain ⟨b39019, q39020, v39021, hix39022, hs39023, hc39024, hr39025⟩ := rdN_at ho38982.1.rdL hz39018 ha39026
                    refine QW.cons rfl (QP.val (v := (.pointer (some ⟨b39019, q39020, none⟩))) rfl (fun w' hm' => x_ix Try.underlying54 Try_T61 rfl rfl hix39022) ?_)
                    refine QW.cons rfl (QP.val (v := v39021) rfl (fun w' hm' => x_load1 Try.underlying61 rfl rfl ((hL.call hm').cellF 1 rfl hs39023 hc39024)) ?_)
                    refine QW.cons rfl (QP.val (v := (.int .i64 s_l2.2)) rfl (fun w' hm' => x_mv f38977) ?_)
                    obtain ⟨x39027, ha39028, hm⟩ := bndE hm
                    obtain ⟨hz39029, ha39033⟩ := idxE ha39028
                    obtain ⟨b39030, q39031, hix39032⟩ := rdL_ix (hL.rdF 1 rfl hr39025) hz39029 ha39033
                    refine QW.cons rfl (QP.val (v := (.pointer (some ⟨b39030, q39031, none⟩))) rfl (fun w' hm' => x_ix Try.underlying61 Try_T2 rfl rfl hix39032) ?_)
                    refine QW.cons rfl (QP.val (v := (.int .i64 x39027)) rfl (fun w' hm' => x_load1 Try.underlying2 rfl rfl (rdF_cells ((hL.call hm').rdF 1 rfl hr39025) hix39032 ha39033 0 _ rfl)) ?_)
                    refine QW.cons rfl (QP.val (v := (.int .i64 s_l3.1)) rfl (fun w' hm' => x_mv f38978) ?_)
                    refine QW.cons rfl (QP.val (v := (.int .i64 (w64 (x39027 + s_l3.1)))) rfl (fun w' hm' => x_add rfl rfl) ?_)
                    refine QW.cons rfl (QP.val (v := (.agg #[(.int .i64 x9.Boats), (.int .i64 x9.Scheme), v12])) rfl (fun w' hm' => x_loadN (cs := [(.int .i64 x9.Boats), (.int .i64 x9.Scheme), v12]) Try.underlying31 Try_T31 rfl f38974 ((hL.call hm').cellsB 3 rfl (o := 0) (l := [(.int .i64 x9.Boats), (.int .i64 x9.Scheme), v12]) (by intro j u hj; exact (by simpa using hj)))) ?_)
                    refine QW.cons rfl (QP.val (v := (.int .i64 s_l1.2)) rfl (fun w' hm' => x_mv f38976) ?_)
                    refine QW.cons rfl (QP.val (v := (.int .i64 s_l2.2)) rfl (fun w' hm' => x_mv f38977) ?_)
                    obtain ⟨x39034, hx39035, hm⟩ := bndE hm
                    refine QW.cons rfl (QP.call (v := (.int .i64 x39034)) rfl (fun w' hm' => x_call (vs := [(.agg #[(.int .i64 x9.Boats), (.int .i64 x9.Scheme), v12]), (.int .i64 s_l1.2), (.int .i64 s_l2.2)]) Try_C78 ⟨rfl, rfl, rfl, trivial⟩) (fun w' hm' => (M.spec_l21Worst_ok w' x9 ((hL.call hm').rdF 4 rfl ho38986.1.rdL) s_l1.2 s_l2.2 hx39035).mono (fun e w'' h => ⟨h.1, hm'.trans h.2.mod⟩)) ?_)
                    refine QW.cons rfl (QP.val (v := (.int .i64 (min (w64 (x39027 + s_l3.1)) x39034))) rfl (fun w' hm' => x_min2 rfl rfl) ?_)
                    refine QW.cons rfl (QP.val (v := (.int .i64 (max x39009 (min (w64 (x39027 + s_l3.1)) x39034)))) rfl (fun w' hm' => x_max2 rfl rfl) ?_)
                    obtain ⟨x39036, ha39037, hm⟩ := bndE hm
                    obtain ⟨hz39038, ha39042⟩ := idxE ha39037
                    obtain ⟨b39039, q39040, hix39041⟩ := rdL_ix (hL.rdF 1 rfl hr38996) hz39038 ha39042
                    refine QW.cons rfl (QP.val (v := (.pointer (some ⟨b39039, q39040, none⟩))) rfl (fun w' hm' => x_ix Try.underlying61 Try_T2 rfl rfl hix39041) ?_)
                    refine QW.nil ?_
                    intro wd39043 hmod
                    have hL := hL.call hmod
                    have hc39045 := hL.cellF 1 rfl hs38994 hc38995
                    have hL := hL.thaw 1 rfl ho38982
                    simp only [lC, lD] at hL
                    refine DW.only 31 rfl (by kernel_rfl) (S_inRowC (α := Int) (x38987.set (s_l2.2 : Int).toNat (max x39009 (min (w64 (x39027 + s_l3.1)) x39034))) (x38987.set (s_l2.2 : Int).toNat (max x39009 (min (w64 (x39027 + s_l3.1)) x39034))) rfl hL 1 rfl hix38993 ha38997 hc39045 (fun E2 S1 hL hK => S_storeX (j := 0) (max x39009 (min (w64 (x39027 + s_l3.1)) x39034)) hL 0 rfl Try_T2 hix39041 ha39042 rfl rfl rfl rfl rfl rfl hK) ?_)
                    intro wd39044 S39046 hL hc39047 ha39048
                    simp only [lC, lD] at hL
                    obtain ⟨wz39049, hL, ho39050, hs39051, hc39052, hr39053⟩ := hL.freezeAt (α := Int) 1 rfl hix38993 ha39048 hc39047
                    simp only [lC, lD] at hL
                    refine DW.done (by kernel_rfl) ?_
                    have hL := hL.thaw 1 rfl ho39050
                    have hL := hL.thaw 2 rfl ho38984
                    have hL := hL.thaw 4 rfl ho38986
                    exact ⟨s_l2.1.set (s_l1.2 : Int).toNat (x38987.set (s_l2.2 : Int).toNat (max x39009 (min (w64 (x39027 + s_l3.1)) x39034))), hm, ⟨S39046, f38971, f38972, f38973, f38974, f38975, f38976, f38977, hL⟩⟩
                  · refine CW.skip ?_
                    exact ⟨s_l2.1, hm, ⟨S35010, f38971, f38972, f38973, f38974, f38975, f38976, f38977, hL⟩⟩
              · intro s_l3 F39075 wd39076 t38933 hJ hm hr38934
                unfold M.spec_l21Table_l3 at hm
                obtain ⟨f39077, f39078, f39079, f39080, f39081, f39082, f39083, f39084, f39085, hL⟩ := hJ
                refine CW.seq ?_
                refine CW.seq ?_
                refine CW.regionL ?_
                refine OW.cons (OP.val (v := (.int .i64 s_l3.2)) rfl (x_mv f39085) ?_)
                refine OW.cons (OP.val (v := v3) rfl (x_mv f39077) ?_)
                refine OW.cons (OP.val (v := (.int .i64 (a1.length : Int))) rfl (x_lenR Try.underlying33 rfl (hL.rdS 7 rfl h4)) ?_)
                refine OW.cons (OP.val (v := (.bool (decide (s_l3.2 < (a1.length : Int))))) rfl (x_lss rfl rfl) ?_)
                refine OW.nil ?_
                refine CW.condM (t := decide (s_l3.2 < (a1.length : Int))) rfl hm (fun hb39086 hm => ?_) (fun hb39086 hm => ?_)
                · refine CW.skip ?_
                  refine CW.seqJ (fun (s_j4 : Int) (F : Fr) (w : World) => F 1 = v3 ∧ F 2 = (.pointer (some ⟨b6, 0, none⟩)) ∧ F 4 = (.pointer (some ⟨b8, 0, none⟩)) ∧ F 5 = (.pointer (some ⟨b17, 0, none⟩)) ∧ F 6 = (.pointer (some ⟨b29, 0, none⟩)) ∧ F 8 = (.int .i64 s_l1.2) ∧ F 9 = (.int .i64 s_l2.2) ∧ F 10 = (.int .i64 s_j4) ∧ F 11 = (.int .i64 s_l3.2) ∧ Hp w0 [Ent.blk b29 56 #[(.int .i64 x19.1.Boats), v22, v24], Ent.own 61 S35010 v22 s_l2.1, Ent.own 61 S23 v24 x19.1.Codes, Ent.blk b17 31 #[(.int .i64 x9.Boats), (.int .i64 x9.Scheme), v12], Ent.own 46 S11 v12 x9.Races, Ent.blk b8 56 #[(.int .i64 0), (.slice none 0 0), (.slice none 0 0)], Ent.blk b6 31 #[(.int .i64 a0.Boats), (.int .i64 a0.Scheme), v1], Ent.snap w0 w0.heap.size] w) (fun s_j4 => M.spec_l21Table_j4 s_l3 s_j4 = some t38933) ?_ ?_
                  · refine CW.blockJ (fun (s_j5 : Int) (F : Fr) (w : World) => F 1 = v3 ∧ F 2 = (.pointer (some ⟨b6, 0, none⟩)) ∧ F 4 = (.pointer (some ⟨b8, 0, none⟩)) ∧ F 5 = (.pointer (some ⟨b17, 0, none⟩)) ∧ F 6 = (.pointer (some ⟨b29, 0, none⟩)) ∧ F 8 = (.int .i64 s_l1.2) ∧ F 9 = (.int .i64 s_l2.2) ∧ F 10 = (.int .i64 s_j5) ∧ F 11 = (.int .i64 s_l3.2) ∧ Hp w0 [Ent.blk b29 56 #[(.int .i64 x19.1.Boats), v22, v24], Ent.own 61 S35010 v22 s_l2.1, Ent.own 61 S23 v24 x19.1.Codes, Ent.blk b17 31 #[(.int .i64 x9.Boats), (.int .i64 x9.Scheme), v12], Ent.own 46 S11 v12 x9.Races, Ent.blk b8 56 #[(.int .i64 0), (.slice none 0 0), (.slice none 0 0)], Ent.blk b6 31 #[(.int .i64 a0.Boats), (.int .i64 a0.Scheme), v1], Ent.snap w0 w0.heap.size] w) (fun s_j5 => M.spec_l21Table_j5 s_l3 s_j5 = some t38933) ?_ ?_
                    · refine CW.seqJ (fun (s_j6 : Bool) (F : Fr) (w : World) => F 1 = v3 ∧ F 2 = (.pointer (some ⟨b6, 0, none⟩)) ∧ F 4 = (.pointer (some ⟨b8, 0, none⟩)) ∧ F 5 = (.pointer (some ⟨b17, 0, none⟩)) ∧ F 6 = (.pointer (some ⟨b29, 0, none⟩)) ∧ F 8 = (.int .i64 s_l1.2) ∧ F 9 = (.int .i64 s_l2.2) ∧ F 10 = (.int .i64 s_l3.1) ∧ F 11 = (.int .i64 s_l3.2) ∧ F 62 = (.bool s_j6) ∧ Hp w0 [Ent.blk b29 56 #[(.int .i64 x19.1.Boats), v22, v24], Ent.own 61 S35010 v22 s_l2.1, Ent.own 61 S23 v24 x19.1.Codes, Ent.blk b17 31 #[(.int .i64 x9.Boats), (.int .i64 x9.Scheme), v12], Ent.own 46 S11 v12 x9.Races, Ent.blk b8 56 #[(.int .i64 0), (.slice none 0 0), (.slice none 0 0)], Ent.blk b6 31 #[(.int .i64 a0.Boats), (.int .i64 a0.Scheme), v1], Ent.snap w0 w0.heap.size] w) (fun s_j6 => M.spec_l21Table_j6 a0 a1 s_l3 s_j6 = some t38933) ?_ ?_
                      · refine CW.regionL ?_
                        refine OW.cons (OP.val (v := v3) rfl (x_mv f39077) ?_)
                        refine OW.cons (OP.val (v := (.int .i64 s_l3.2)) rfl (x_mv f39085) ?_)
                        obtain ⟨x39373, ha39374, hm⟩ := bndE hm
                        obtain ⟨hz39375, ha39379⟩ := idxE ha39374
                        obtain ⟨b39376, q39377, hix39378⟩ := rdL_ix (hL.rdS 7 rfl h4) hz39375 ha39379
                        refine OW.cons (OP.val (v := (.pointer (some ⟨b39376, q39377, none⟩))) rfl (x_ix Try.underlying33 Try_T48 rfl rfl hix39378) ?_)
                        refine OW.cons (OP.val (v := (.pointer (some ⟨b39376, q39377 + 2, none⟩))) rfl (x_fieldAddr (fsz := 1) q39377 2 (q39377 + 2) Try.underlying48 rfl Try_T2 rfl rfl rfl) ?_)
                        refine OW.cons (OP.val (v := (.int .i64 x39373.Kind)) rfl (x_load1 Try.underlying2 rfl rfl (rdF_cells (hL.rdS 7 rfl h4) hix39378 ha39379 2 _ rfl)) ?_)
                        refine OW.cons (OP.val (v := (.bool (x39373.Kind == 3))) rfl (x_eql rfl rfl) ?_)
                        refine OW.cons (OP.val (v := (.bool (x39373.Kind == 3))) rfl (x_move) ?_)
                        refine ifB_elim hm (fun hb39380 hm => ?_) (fun hb39380 hm => ?_)
                        · refine OW.cons (OP.yes' rfl rfl hb39380 (OP.val (v := v3) rfl (x_mv f39077) ?_))
                          refine OW.cons (OP.yes' rfl rfl hb39380 (OP.val (v := (.int .i64 s_l3.2)) rfl (x_mv f39085) ?_))
                          obtain ⟨x39381, ha39382, hm⟩ := bndE hm
                          obtain ⟨hz39383, ha39387⟩ := idxE ha39382
                          obtain ⟨b39384, q39385, hix39386⟩ := rdL_ix (hL.rdS 7 rfl h4) hz39383 ha39387
                          refine OW.cons (OP.yes' rfl rfl hb39380 (OP.val (v := (.pointer (some ⟨b39384, q39385, none⟩))) rfl (x_ix Try.underlying33 Try_T48 rfl rfl hix39386) ?_))
                          refine OW.cons (OP.yes' rfl rfl hb39380 (OP.val (v := (.pointer (some ⟨b39384, q39385, none⟩))) rfl (x_fieldAddr (fsz := 1) q39385 0 q39385 Try.underlying48 rfl Try_T2 rfl rfl rfl) ?_))
                          refine OW.cons (OP.yes' rfl rfl hb39380 (OP.val (v := (.int .i64 x39381.Race)) rfl (x_load1 Try.underlying2 rfl rfl (rdF_cells (hL.rdS 7 rfl h4) hix39386 ha39387 0 _ rfl)) ?_))
                          refine OW.cons (OP.yes' rfl rfl hb39380 (OP.val (v := (.int .i64 s_l1.2)) rfl (x_mv f39082) ?_))
                          refine OW.cons (OP.yes' rfl rfl hb39380 (OP.val (v := (.bool (x39381.Race == s_l1.2))) rfl (x_eql rfl rfl) ?_))
                          refine OW.cons (OP.val (v := (.bool (x39381.Race == s_l1.2))) rfl (x_pickT' rfl hb39380 rfl) ?_)
                          refine OW.cons (OP.val (v := (.bool (x39381.Race == s_l1.2))) rfl (x_move) ?_)
                          refine ifB_elim hm (fun hb39388 hm => ?_) (fun hb39388 hm => ?_)
                          · refine OW.cons (OP.yes' rfl rfl hb39388 (OP.val (v := v3) rfl (x_mv f39077) ?_))
                            refine OW.cons (OP.yes' rfl rfl hb39388 (OP.val (v := (.int .i64 s_l3.2)) rfl (x_mv f39085) ?_))
                            obtain ⟨x39389, ha39390, hm⟩ := bndE hm
                            obtain ⟨hz39391, ha39395⟩ := idxE ha39390
                            obtain ⟨b39392, q39393, hix39394⟩ := rdL_ix (hL.rdS 7 rfl h4) hz39391 ha39395
                            refine OW.cons (OP.yes' rfl rfl hb39388 (OP.val (v := (.pointer (some ⟨b39392, q39393, none⟩))) rfl (x_ix Try.underlying33 Try_T48 rfl rfl hix39394) ?_))
                            refine OW.cons (OP.yes' rfl rfl hb39388 (OP.val (v := (.pointer (some ⟨b39392, q39393 + 1, none⟩))) rfl (x_fieldAddr (fsz := 1) q39393 1 (q39393 + 1) Try.underlying48 rfl Try_T2 rfl rfl rfl) ?_))
                            refine OW.cons (OP.yes' rfl rfl hb39388 (OP.val (v := (.int .i64 x39389.Boat)) rfl (x_load1 Try.underlying2 rfl rfl (rdF_cells (hL.rdS 7 rfl h4) hix39394 ha39395 1 _ rfl)) ?_))
                            refine OW.cons (OP.yes' rfl rfl hb39388 (OP.val (v := (.int .i64 s_l2.2)) rfl (x_mv f39083) ?_))
                            refine OW.cons (OP.yes' rfl rfl hb39388 (OP.val (v := (.bool (x39389.Boat == s_l2.2))) rfl (x_eql rfl rfl) ?_))
                            refine OW.cons (OP.val (v := (.bool (x39389.Boat == s_l2.2))) rfl (x_pickT' rfl hb39388 rfl) ?_)
                            refine OW.nil ?_
                            exact ⟨x39389.Boat == s_l2.2, hm, ⟨f39077, f39078, f39079, f39080, f39081, f39082, f39083, f39084, f39085, rfl, hL⟩⟩
                          · refine OW.cons (OP.no' rfl rfl hb39388 rfl ?_)
                            refine OW.cons (OP.no' rfl rfl hb39388 rfl ?_)
                            refine OW.cons (OP.no' rfl rfl hb39388 rfl ?_)
                            refine OW.cons (OP.no' rfl rfl hb39388 rfl ?_)
                            refine OW.cons (OP.no' rfl rfl hb39388 rfl ?_)
                            refine OW.cons (OP.no' rfl rfl hb39388 rfl ?_)
                            refine OW.cons (OP.no' rfl rfl hb39388 rfl ?_)
                            refine OW.cons (OP.val (v := (.bool false)) rfl (x_pickF' rfl hb39388 rfl) ?_)
                            refine OW.nil ?_
                            exact ⟨false, hm, ⟨f39077, f39078, f39079, f39080, f39081, f39082, f39083, f39084, f39085, rfl, hL⟩⟩
                        · refine OW.cons (OP.no' rfl rfl hb39380 rfl ?_)
                          refine OW.cons (OP.no' rfl rfl hb39380 rfl ?_)
                          refine OW.cons (OP.no' rfl rfl hb39380 rfl ?_)
                          refine OW.cons (OP.no' rfl rfl hb39380 rfl ?_)
                          refine OW.cons (OP.no' rfl rfl hb39380 rfl ?_)
                          refine OW.cons (OP.no' rfl rfl hb39380 rfl ?_)
                          refine OW.cons (OP.no' rfl rfl hb39380 rfl ?_)
                          refine OW.cons (OP.val (v := (.bool false)) rfl (x_pickF' rfl hb39380 rfl) ?_)
                          refine OW.cons (OP.val (v := (.bool false)) rfl (x_move) ?_)
                          refine OW.cons (OP.no' rfl rfl rfl rfl ?_)
                          refine OW.cons (OP.no' rfl rfl rfl rfl ?_)
                          refine OW.cons (OP.no' rfl rfl rfl rfl ?_)
                          refine OW.cons (OP.no' rfl rfl rfl rfl ?_)
                          refine OW.cons (OP.no' rfl rfl rfl rfl ?_)
                          refine OW.cons (OP.no' rfl rfl rfl rfl ?_)
                          refine OW.cons (OP.no' rfl rfl rfl rfl ?_)
                          refine OW.cons (OP.val (v := (.bool false)) rfl (x_pickF' rfl rfl rfl) ?_)
                          refine OW.nil ?_
                          exact ⟨false, hm, ⟨f39077, f39078, f39079, f39080, f39081, f39082, f39083, f39084, f39085, rfl, hL⟩⟩
                      · intro s_j6 F39350 wd39351 hJ hm
                        unfold M.spec_l21Table_j6 at hm
                        obtain ⟨f39352, f39353, f39354, f39355, f39356, f39357, f39358, f39359, f39360, f39361, hL⟩ := hJ
                        refine CW.condM (t := s_j6) f39361 hm (fun hb39362 hm => ?_) (fun hb39362 hm => ?_)
                        · refine CW.draw Try_mixed ?_
                          have hL := hL.call (Mod.drew _)
                          refine DW.pre (fuel := 0) (fin := ((((((((((((Array.replicate 11 false).setIfInBounds 0 true).setIfInBounds 1 true).setIfInBounds 2 true).setIfInBounds 3 true).setIfInBounds 4 true).setIfInBounds 5 true).setIfInBounds 6 true).setIfInBounds 7 true).setIfInBounds 8 true).setIfInBounds 9 true).setIfInBounds 10 true)) (C := fun w' => Mod None_ _ w') [0, 1, 2, 3, 4, 5, 6, 7, 8, 9, 10] (Mod.refl _ _) (by kernel_rfl) (by kernel_rfl) ?_
                          refine QW.cons rfl (QP.val (v := (.int .i64 s_l3.1)) rfl (fun w' hm' => x_mv f39359) ?_)
                          refine QW.cons rfl (QP.val (v := (.pointer (some ⟨b6, 0, none⟩))) rfl (fun w' hm' => x_fieldAddr (fsz := 1) 0 0 0 Try.underlying31 rfl Try_T2 rfl f39353 rfl) ?_)
                          refine QW.cons rfl (QP.val (v := (.int .i64 a0.Boats)) rfl (fun w' hm' => x_load1 Try.underlying2 rfl rfl ((hL.call hm').cellB 6 rfl rfl)) ?_)
                          refine QW.cons rfl (QP.val (v := v3) rfl (fun w' hm' => x_mv f39352) ?_)
                          refine QW.cons rfl (QP.val (v := (.int .i64 s_l3.2)) rfl (fun w' hm' => x_mv f39360) ?_)
                          obtain ⟨x39363, ha39364, hm⟩ := bndE hm
                          obtain ⟨hz39365, ha39369⟩ := idxE ha39364
                          obtain ⟨b39366, q39367, hix39368⟩ := rdL_ix (hL.rdS 7 rfl h4) hz39365 ha39369
                          refine QW.cons rfl (QP.val (v := (.pointer (some ⟨b39366, q39367, none⟩))) rfl (fun w' hm' => x_ix Try.underlying33 Try_T48 rfl rfl hix39368) ?_)
                          refine QW.cons rfl (QP.val (v := (.pointer (some ⟨b39366, q39367 + 3, none⟩))) rfl (fun w' hm' => x_fieldAddr (fsz := 1) q39367 3 (q39367 + 3) Try.underlying48 rfl Try_T2 rfl rfl rfl) ?_)
                          refine QW.cons rfl (QP.val (v := (.int .i64 x39363.Value)) rfl (fun w' hm' => x_load1 Try.underlying2 rfl rfl (rdF_cells ((hL.call hm').rdS 7 rfl h4) hix39368 ha39369 3 _ rfl)) ?_)
                          obtain ⟨x39370, hx39371, hm⟩ := bndE hm
                          refine QW.cons rfl (QP.call (v := (.int .i64 x39370)) rfl (fun w' hm' => x_call (vs := [(.int .i64 a0.Boats), (.int .i64 x39363.Value)]) Try_C77 ⟨rfl, rfl, trivial⟩) (fun w' hm' => (M.spec_l21Percent_ok w' a0.Boats x39363.Value hx39371).mono (fun e w'' h => ⟨h.1, hm'.trans h.2.mod⟩)) ?_)
                          refine QW.cons rfl (QP.val (v := (.int .i64 (w64 (s_l3.1 + x39370)))) rfl (fun w' hm' => x_add rfl rfl) ?_)
                          refine QW.cons rfl (QP.val (v := (.int .i64 (w64 (s_l3.1 + x39370)))) rfl (fun w' hm' => x_assign) ?_)
                          refine QW.nil ?_
                          intro wd39372 hmod
                          have hL := hL.call hmod
                          refine DW.done (by kernel_rfl) ?_
                          exact ⟨w64 (s_l3.1 + x39370), hm, ⟨f39352, f39353, f39354, f39355, f39356, f39357, f39358, rfl, f39360, hL⟩⟩
                        · refine CW.skip ?_
                          exact ⟨s_l3.1, hm, ⟨f39352, f39353, f39354, f39355, f39356, f39357, f39358, f39359, f39360, hL⟩⟩
                    · intro s_j5 F39316 wd39317 hJ hm
                      unfold M.spec_l21Table_j5 at hm
                      obtain ⟨f39318, f39319, f39320, f39321, f39322, f39323, f39324, f39325, f39326, hL⟩ := hJ
                      exact ⟨s_j5, hm, ⟨f39318, f39319, f39320, f39321, f39322, f39323, f39324, f39325, f39326, hL⟩⟩
                  · intro s_j4 F39236 wd39237 hJ hm
                    unfold M.spec_l21Table_j4 at hm
                    obtain ⟨f39238, f39239, f39240, f39241, f39242, f39243, f39244, f39245, f39246, hL⟩ := hJ
                    refine CW.regionL ?_
                    refine OW.cons (OP.val (v := (.int .i64 s_l3.2)) rfl (x_mv f39246) ?_)
                    refine OW.cons (OP.val (v := (.int .i64 (w64 (s_l3.2 + 1)))) rfl (x_add rfl rfl) ?_)
                    refine OW.cons (OP.val (v := (.int .i64 (w64 (s_l3.2 + 1)))) rfl (x_assign) ?_)
                    refine OW.nil ?_
                    obtain rfl := Option.some.inj hm
                    exact ⟨_, rfl, ⟨f39238, f39239, f39240, f39241, f39242, f39243, f39244, f39245, rfl, hL⟩⟩
                · refine CW.exit ?_
                  refine XJ.hit ?_
                  obtain rfl := Option.some.inj hm
                  exact ⟨_, rfl, ⟨f39077, f39078, f39079, f39080, f39081, f39082, f39083, f39084, f39085, hL⟩⟩
            · intro s_j2 F38304 wd38305 hJ hm
              unfold M.spec_l21Table_j2 at hm
              obtain ⟨S38303, f38306, f38307, f38308, f38309, f38310, f38311, f38312, hL⟩ := hJ
              exact ⟨s_j2, hm, ⟨S38303, f38306, f38307, f38308, f38309, f38310, f38311, f38312, hL⟩⟩
          · intro s_j1 F37211 wd37212 hJ hm
            unfold M.spec_l21Table_j1 at hm
            obtain ⟨S37210, f37213, f37214, f37215, f37216, f37217, f37218, f37219, hL⟩ := hJ
            refine CW.regionL ?_
            refine OW.cons (OP.val (v := (.int .i64 s_l2.2)) rfl (x_mv f37219) ?_)
            refine OW.cons (OP.val (v := (.int .i64 (w64 (s_l2.2 + 1)))) rfl (x_add rfl rfl) ?_)
            refine OW.cons (OP.val (v := (.int .i64 (w64 (s_l2.2 + 1)))) rfl (x_assign) ?_)
            refine OW.nil ?_
            obtain rfl := Option.some.inj hm
            exact ⟨_, rfl, ⟨S37210, f37213, f37214, f37215, f37216, f37217, f37218, rfl, hL⟩⟩
        · refine CW.exit ?_
          refine XJ.hit ?_
          obtain rfl := Option.some.inj hm
          exact ⟨_, rfl, ⟨S35010, f35026, f35027, f35028, f35029, f35030, f35031, f35032, hL⟩⟩
    · refine CW.exit ?_
      refine XJ.hit ?_
      obtain rfl := Option.some.inj hm
      exact ⟨_, rfl, ⟨S26260, f26276, f26277, f26278, f26279, f26280, f26281, hL⟩⟩

theorem M.spec_PenalizedTable_ok (w0 : World) (a0 : Series) {v1 : Value} (h2 : rdL (· < w0.heap.size) w0 v1 a0.Races) (a1 : List Penalty) {v3 : Value} (h4 : rdL (· < w0.heap.size) w0 v3 a1) {r : Table × Int} (hm : M.spec_PenalizedTable a0 a1 = some r) :
    Calls Try.prog 27 #[(.agg #[(.int .i64 a0.Boats), (.int .i64 a0.Scheme), v1]), v3] w0 fun e w' => ∃ (rv0 : Value) (rS0 : Nat → Prop), ∃ (rv1 : Value) (rS1 : Nat → Prop), e = .returned (.tuple #[(.agg #[(.int .i64 r.1.Boats), rv0, rv1]), (.int .i64 r.2)]) ∧ Fresh w0 w' [Ent.own 61 rS0 rv0 r.1.Points, Ent.own 61 rS1 rv1 r.1.Codes] := by
  unfold M.spec_PenalizedTable at hm
  refine calls_CW (args := [(.agg #[(.int .i64 a0.Boats), (.int .i64 a0.Scheme), v1]), v3]) Try.func27 rfl rfl rfl ?_
  have hL := Hp.start w0
  refine CW.seq ?_
  refine CW.regionL ?_
  refine OW.cons (S_box (cs := #[(.int .i64 a0.Boats), (.int .i64 a0.Scheme), v1]) hL rfl rfl rfl ?_)
  intro wd5 b6 hL
  refine OW.cons (S_alloc (cs := #[(.int .i64 0), (.slice none 0 0), (.slice none 0 0)]) hL Try_T56 rfl rfl ?_)
  intro wd7 b8 hL
  refine OW.cons (OP.val (v := (.int .i64 0)) rfl (x_assign) ?_)
  refine OW.nil ?_
  refine CW.seq ?_
  refine CW.regionL ?_
  refine OW.cons (OP.val (v := (.agg #[(.int .i64 a0.Boats), (.int .i64 a0.Scheme), v1])) rfl (x_loadN (cs := [(.int .i64 a0.Boats), (.int .i64 a0.Scheme), v1]) Try.underlying31 Try_T31 rfl rfl (hL.cellsB 1 rfl (o := 0) (l := [(.int .i64 a0.Boats), (.int .i64 a0.Scheme), v1]) (by intro j u hj; exact (by simpa using hj)))) ?_)
  refine OW.cons (OP.val (v := v3) rfl (x_move) ?_)
  obtain ⟨x9, hx10, hm⟩ := bndE hm
  refine OW.cons (OP.call rfl (x_call (vs := [(.agg #[(.int .i64 a0.Boats), (.int .i64 a0.Scheme), v1]), v3]) Try_C45 ⟨rfl, rfl, trivial⟩) (M.spec_l21Result_ok _ a0 (hL.rdS 2 rfl h2) a1 (hL.rdS 2 rfl h4) hx10) ?_)
  rintro e11 wd12 ⟨rfl, hF13⟩
  refine ⟨_, rfl, ?_⟩
  have hL := hL.pushAll hF13
  simp only [lA, lB, lC, lD] at hL
  refine OW.cons (OP.val (v := (.int .i64 x9)) rfl (x_assign) ?_)
  refine OW.nil ?_
  refine CW.seq ?_
  refine CW.seq ?_
  refine CW.regionL ?_
  refine OW.cons (OP.val (v := (.int .i64 x9)) rfl (x_move) ?_)
  refine OW.cons (OP.val (v := (.bool (x9 != 0))) rfl (x_neq rfl rfl) ?_)
  refine OW.nil ?_
  refine CW.condM (t := x9 != 0) rfl hm (fun hb14 hm => ?_) (fun hb14 hm => ?_)
  · refine CW.seq ?_
    refine CW.regionL ?_
    refine OW.cons (OP.val (v := (.agg #[(.int .i64 0), (.slice none 0 0), (.slice none 0 0)])) rfl (x_build Try_B56 (ps := []) trivial (by simp [Instr.fill, cells_int, cells_bool, cells_string, cells_agg, cells_slice, cells_pointer])) ?_)
    refine OW.cons (OP.val (v := (.int .i64 x9)) rfl (x_move) ?_)
    refine OW.cons (S_storeN (l := [(.int .i64 0), (.slice none 0 0), (.slice none 0 0)]) (cs' := #[(.int .i64 0), (.slice none 0 0), (.slice none 0 0)]) hL 0 rfl Try_T56 rfl rfl (List.forall_mem_cons.2 ⟨rfl, (List.forall_mem_cons.2 ⟨rfl, (List.forall_mem_cons.2 ⟨rfl, (fun _ h => by cases h)⟩)⟩)⟩) rfl (Nat.le_of_ble_eq_true rfl) rfl ?_)
    intro wd15 hL
    refine OW.cons (OP.val (v := (.int .i64 x9)) rfl (x_assign) ?_)
    refine OW.nil ?_
    refine CW.ret ?_
    have hL := hL.pushNil (List Int) 61
    have hL := hL.pushNil (List Int) 61
    obtain rfl := Option.some.inj hm
    exact RRct rfl rfl (run_loadBlk Try.underlying56 Try_T56 (hL.get 2 rfl) rfl) rfl ⟨(.slice none 0 0), None_, (.slice none 0 0), None_, rfl, hL.fresh 4 rfl [1, 0] (by decide) (by decide) rfl⟩
  · refine CW.skip ?_
    refine CW.seq ?_
    refine CW.regionL ?_
    refine OW.cons (OP.val (v := (.agg #[(.int .i64 a0.Boats), (.int .i64 a0.Scheme), v1])) rfl (x_loadN (cs := [(.int .i64 a0.Boats), (.int .i64 a0.Scheme), v1]) Try.underlying31 Try_T31 rfl rfl (hL.cellsB 1 rfl (o := 0) (l := [(.int .i64 a0.Boats), (.int .i64 a0.Scheme), v1]) (by intro j u hj; exact (by simpa using hj)))) ?_)
    refine OW.cons (OP.val (v := v3) rfl (x_move) ?_)
    obtain ⟨x16, hx17, hm⟩ := bndE hm
    refine OW.cons (OP.call rfl (x_call (vs := [(.agg #[(.int .i64 a0.Boats), (.int .i64 a0.Scheme), v1]), v3]) Try_C54 ⟨rfl, rfl, trivial⟩) (M.spec_l21Table_ok _ a0 (hL.rdS 2 rfl h2) a1 (hL.rdS 2 rfl h4) hx17) ?_)
    rintro e22 wd23 ⟨v19, S18, v21, S20, rfl, hF24⟩
    refine ⟨_, rfl, ?_⟩
    have hL := hL.pushAll hF24
    simp only [lA, lB, lC, lD] at hL
    refine OW.cons (S_storeN (l := [(.int .i64 x16.Boats), v19, v21]) (cs' := #[(.int .i64 x16.Boats), v19, v21]) hL 2 rfl Try_T56 rfl rfl (List.forall_mem_cons.2 ⟨rfl, (List.forall_mem_cons.2 ⟨rdL_one (hL.rdO 0 rfl), (List.forall_mem_cons.2 ⟨rdL_one (hL.rdO 1 rfl), (fun _ h => by cases h)⟩)⟩)⟩) rfl (Nat.le_of_ble_eq_true rfl) rfl ?_)
    intro wd25 hL
    refine OW.cons (OP.val (v := (.int .i64 0)) rfl (x_assign) ?_)
    refine OW.nil ?_
    refine CW.ret ?_
    obtain rfl := Option.some.inj hm
    exact RRct rfl rfl (run_loadBlk Try.underlying56 Try_T56 (hL.get 2 rfl) rfl) rfl ⟨v19, S18, v21, S20, rfl, hL.fresh 4 rfl [0, 1] (by decide) (by decide) rfl⟩

theorem M.laws_likeInts_ok (w0 : World) (a0 : List Int) {v1 : Value} (h2 : rdL (· < w0.heap.size) w0 v1 a0) (a1 : List Int) {v3 : Value} (h4 : rdL (· < w0.heap.size) w0 v3 a1) {r : Bool} (hm : M.laws_likeInts a0 a1 = some r) :
    Calls Try.prog 79 #[v1, v3] w0 fun e w' => e = .returned (.bool r) ∧ Fresh w0 w' [] := by
  unfold M.laws_likeInts at hm
  refine calls_CW (args := [v1, v3]) Try.func79 rfl rfl rfl ?_
  have hL := Hp.start w0
  refine CW.seq ?_
  refine CW.regionL ?_
  refine OW.cons (OP.val (v := (.bool false)) rfl (x_assign) ?_)
  refine OW.nil ?_
  refine CW.seq ?_
  refine CW.seq ?_
  refine CW.regionL ?_
  refine OW.cons (OP.val (v := v1) rfl (x_move) ?_)
  refine OW.cons (OP.val (v := (.int .i64 (a0.length : Int))) rfl (x_lenR Try.underlying61 rfl (hL.rdS 0 rfl h2)) ?_)
  refine OW.cons (OP.val (v := v3) rfl (x_move) ?_)
  refine OW.cons (OP.val (v := (.int .i64 (a1.length : Int))) rfl (x_lenR Try.underlying61 rfl (hL.rdS 0 rfl h4)) ?_)
  refine OW.cons (OP.val (v := (.bool ((a0.length : Int) != (a1.length : Int)))) rfl (x_neq rfl rfl) ?_)
  refine OW.nil ?_
  refine CW.condM (t := (a0.length : Int) != (a1.length : Int)) rfl hm (fun hb5 hm => ?_) (fun hb5 hm => ?_)
  · refine CW.seq ?_
    refine CW.regionL ?_
    refine OW.cons (OP.val (v := (.bool false)) rfl (x_assign) ?_)
    refine OW.nil ?_
    refine CW.ret ?_
    obtain rfl := Option.some.inj hm
    exact RR1 rfl rfl ⟨rfl, hL.fresh 0 rfl [] (by decide) (by decide) rfl⟩
  · refine CW.skip ?_
    refine CW.seq ?_
    refine CW.seq ?_
    refine CW.regionL ?_
    refine OW.cons (OP.val (v := (.int .i64 0)) rfl (x_assign) ?_)
    refine OW.nil ?_
    obtain ⟨o42, ho43, hm⟩ := bndE hm
    refine CW.loopB (fun (s_l1 : Int) (F : Fr) (w : World) => F 0 = v1 ∧ F 1 = v3 ∧ F 5 = (.int .i64 s_l1) ∧ Hp w0 [Ent.snap w0 w0.heap.size] w) (fun o => outc o (fun x => some x) (fun s => M.laws_likeInts_a1 s) = some r) ho43 hm ⟨rfl, rfl, rfl, hL⟩ ?_ ?_
    · intro s_l1 F44 wd45 hJ hm
      have hm := outcE hm
      have hm : M.laws_likeInts_a1 s_l1 = some r := hm
      unfold M.laws_likeInts_a1 at hm
      obtain ⟨f46, f47, f48, hL⟩ := hJ
      refine CW.seq ?_
      refine CW.regionL ?_
      refine OW.cons (OP.val (v := (.bool true)) rfl (x_assign) ?_)
      refine OW.nil ?_
      refine CW.ret ?_
      obtain rfl := Option.some.inj hm
      exact RR1 rfl rfl ⟨rfl, hL.fresh 0 rfl [] (by decide) (by decide) rfl⟩
    · intro s_l1 F49 wd50 t40 hJ hm hr41
      unfold M.laws_likeInts_l1 at hm
      obtain ⟨f51, f52, f53, hL⟩ := hJ
      refine CW.seq ?_
      refine CW.seq ?_
      refine CW.regionL ?_
      refine OW.cons (OP.val (v := (.int .i64 s_l1)) rfl (x_mv f53) ?_)
      refine OW.cons (OP.val (v := v1) rfl (x_mv f51) ?_)
      refine OW.cons (OP.val (v := (.int .i64 (a0.length : Int))) rfl (x_lenR Try.underlying61 rfl (hL.rdS 0 rfl h2)) ?_)
      refine OW.cons (OP.val (v := (.bool (decide (s_l1 < (a0.length : Int))))) rfl (x_lss rfl rfl) ?_)
      refine OW.nil ?_
      refine CW.condM (t := decide (s_l1 < (a0.length : Int))) rfl hm (fun hb54 hm => ?_) (fun hb54 hm => ?_)
      · refine CW.skip ?_
        refine CW.seq ?_
        refine CW.block ?_
        refine CW.seq ?_
        refine CW.draw Try_mixed ?_
        have hL := hL.call (Mod.drew _)
        refine DW.pre (fuel := 0) (fin := ((((((((((Array.replicate 9 false).setIfInBounds 0 true).setIfInBounds 1 true).setIfInBounds 2 true).setIfInBounds 3 true).setIfInBounds 4 true).setIfInBounds 5 true).setIfInBounds 6 true).setIfInBounds 7 true).setIfInBounds 8 true)) (C := fun w' => Mod None_ _ w') [0, 1, 2, 3, 4, 5, 6, 7, 8] (Mod.refl _ _) (by kernel_rfl) (by kernel_rfl) ?_
        refine QW.cons rfl (QP.val (v := v1) rfl (fun w' hm' => x_mv f51) ?_)
        refine QW.cons rfl (QP.val (v := (.int .i64 s_l1)) rfl (fun w' hm' => x_mv f53) ?_)
        obtain ⟨x55, ha56, hm⟩ := bndE hm
        obtain ⟨hz57, ha61⟩ := idxE ha56
        obtain ⟨b58, q59, hix60⟩ := rdL_ix (hL.rdS 0 rfl h2) hz57 ha61
        refine QW.cons rfl (QP.val (v := (.pointer (some ⟨b58, q59, none⟩))) rfl (fun w' hm' => x_ix Try.underlying61 Try_T2 rfl rfl hix60) ?_)
        refine QW.cons rfl (QP.val (v := (.int .i64 x55)) rfl (fun w' hm' => x_load1 Try.underlying2 rfl rfl (rdF_cells ((hL.call hm').rdS 0 rfl h2) hix60 ha61 0 _ rfl)) ?_)
        refine QW.cons rfl (QP.val (v := v3) rfl (fun w' hm' => x_mv f52) ?_)
        refine QW.cons rfl (QP.val (v := (.int .i64 s_l1)) rfl (fun w' hm' => x_mv f53) ?_)
        obtain ⟨x62, ha63, hm⟩ := bndE hm
        obtain ⟨hz64, ha68⟩ := idxE ha63
        obtain ⟨b65, q66, hix67⟩ := rdL_ix (hL.rdS 0 rfl h4) hz64 ha68
        refine QW.cons rfl (QP.val (v := (.pointer (some ⟨b65, q66, none⟩))) rfl (fun w' hm' => x_ix Try.underlying61 Try_T2 rfl rfl hix67) ?_)
        refine QW.cons rfl (QP.val (v := (.int .i64 x62)) rfl (fun w' hm' => x_load1 Try.underlying2 rfl rfl (rdF_cells ((hL.call hm').rdS 0 rfl h4) hix67 ha68 0 _ rfl)) ?_)
        refine QW.cons rfl (QP.val (v := (.bool (x55 != x62))) rfl (fun w' hm' => x_neq rfl rfl) ?_)
        refine QW.nil ?_
        intro wd69 hmod
        have hL := hL.call hmod
        refine DW.done (by kernel_rfl) ?_
        refine CW.condM (t := x55 != x62) rfl hm (fun hb70 hm => ?_) (fun hb70 hm => ?_)
        · refine CW.seq ?_
          refine CW.regionL ?_
          refine OW.cons (OP.val (v := (.bool false)) rfl (x_assign) ?_)
          refine OW.nil ?_
          refine CW.ret ?_
          obtain rfl := Option.some.inj hm
          have hm := hr41 _ rfl
          obtain rfl := Option.some.inj hm
          exact RR1 rfl rfl ⟨rfl, hL.fresh 0 rfl [] (by decide) (by decide) rfl⟩
        · refine CW.skip ?_
          refine CW.regionL ?_
          refine OW.cons (OP.val (v := (.int .i64 s_l1)) rfl (x_mv f53) ?_)
          refine OW.cons (OP.val (v := (.int .i64 (w64 (s_l1 + 1)))) rfl (x_add rfl rfl) ?_)
          refine OW.cons (OP.val (v := (.int .i64 (w64 (s_l1 + 1)))) rfl (x_assign) ?_)
          refine OW.nil ?_
          obtain rfl := Option.some.inj hm
          exact ⟨_, rfl, ⟨f51, f52, rfl, hL⟩⟩
      · refine CW.exit ?_
        refine XJ.hit ?_
        obtain rfl := Option.some.inj hm
        exact ⟨_, rfl, ⟨f51, f52, f53, hL⟩⟩

theorem M.laws_likeRows_ok (w0 : World) (a0 : List (List Int)) {v1 : Value} (h2 : rdL (· < w0.heap.size) w0 v1 a0) (a1 : List (List Int)) {v3 : Value} (h4 : rdL (· < w0.heap.size) w0 v3 a1) {r : Bool} (hm : M.laws_likeRows a0 a1 = some r) :
    Calls Try.prog 55 #[v1, v3] w0 fun e w' => e = .returned (.bool r) ∧ Fresh w0 w' [] := by
  unfold M.laws_likeRows at hm
  refine calls_CW (args := [v1, v3]) Try.func55 rfl rfl rfl ?_
  have hL := Hp.start w0
  refine CW.seq ?_
  refine CW.regionL ?_
  refine OW.cons (OP.val (v := (.bool false)) rfl (x_assign) ?_)
  refine OW.nil ?_
  refine CW.seq ?_
  refine CW.seq ?_
  refine CW.regionL ?_
  refine OW.cons (OP.val (v := v1) rfl (x_move) ?_)
  refine OW.cons (OP.val (v := (.int .i64 (a0.length : Int))) rfl (x_lenR Try.underlying54 rfl (hL.rdS 0 rfl h2)) ?_)
  refine OW.cons (OP.val (v := v3) rfl (x_move) ?_)
  refine OW.cons (OP.val (v := (.int .i64 (a1.length : Int))) rfl (x_lenR Try.underlying54 rfl (hL.rdS 0 rfl h4)) ?_)
  refine OW.cons (OP.val (v := (.bool ((a0.length : Int) != (a1.length : Int)))) rfl (x_neq rfl rfl) ?_)
  refine OW.nil ?_
  refine CW.condM (t := (a0.length : Int) != (a1.length : Int)) rfl hm (fun hb5 hm => ?_) (fun hb5 hm => ?_)
  · refine CW.seq ?_
    refine CW.regionL ?_
    refine OW.cons (OP.val (v := (.bool false)) rfl (x_assign) ?_)
    refine OW.nil ?_
    refine CW.ret ?_
    obtain rfl := Option.some.inj hm
    exact RR1 rfl rfl ⟨rfl, hL.fresh 0 rfl [] (by decide) (by decide) rfl⟩
  · refine CW.skip ?_
    refine CW.seq ?_
    refine CW.seq ?_
    refine CW.regionL ?_
    refine OW.cons (OP.val (v := (.int .i64 0)) rfl (x_assign) ?_)
    refine OW.nil ?_
    obtain ⟨o62, ho63, hm⟩ := bndE hm
    refine CW.loopB (fun (s_l1 : Int) (F : Fr) (w : World) => F 0 = v1 ∧ F 1 = v3 ∧ F 5 = (.int .i64 s_l1) ∧ Hp w0 [Ent.snap w0 w0.heap.size] w) (fun o => outc o (fun x => some x) (fun s => M.laws_likeRows_a1 s) = some r) ho63 hm ⟨rfl, rfl, rfl, hL⟩ ?_ ?_
    · intro s_l1 F64 wd65 hJ hm
      have hm := outcE hm
      have hm : M.laws_likeRows_a1 s_l1 = some r := hm
      unfold M.laws_likeRows_a1 at hm
      obtain ⟨f66, f67, f68, hL⟩ := hJ
      refine CW.seq ?_
      refine CW.regionL ?_
      refine OW.cons (OP.val (v := (.bool true)) rfl (x_assign) ?_)
      refine OW.nil ?_
      refine CW.ret ?_
      obtain rfl := Option.some.inj hm
      exact RR1 rfl rfl ⟨rfl, hL.fresh 0 rfl [] (by decide) (by decide) rfl⟩
    · intro s_l1 F69 wd70 t60 hJ hm hr61
      unfold M.laws_likeRows_l1 at hm
      obtain ⟨f71, f72, f73, hL⟩ := hJ
      refine CW.seq ?_
      refine CW.seq ?_
      refine CW.regionL ?_
      refine OW.cons (OP.val (v := (.int .i64 s_l1)) rfl (x_mv f73) ?_)
      refine OW.cons (OP.val (v := v1) rfl (x_mv f71) ?_)
      refine OW.cons (OP.val (v := (.int .i64 (a0.length : Int))) rfl (x_lenR Try.underlying54 rfl (hL.rdS 0 rfl h2)) ?_)
      refine OW.cons (OP.val (v := (.bool (decide (s_l1 < (a0.length : Int))))) rfl (x_lss rfl rfl) ?_)
      refine OW.nil ?_
      refine CW.condM (t := decide (s_l1 < (a0.length : Int))) rfl hm (fun hb74 hm => ?_) (fun hb74 hm => ?_)
      · refine CW.skip ?_
        refine CW.seq ?_
        refine CW.block ?_
        refine CW.seq ?_
        refine CW.draw Try_mixed ?_
        have hL := hL.call (Mod.drew _)
        refine DW.pre (fuel := 0) (fin := (((((((((((Array.replicate 10 false).setIfInBounds 0 true).setIfInBounds 1 true).setIfInBounds 2 true).setIfInBounds 3 true).setIfInBounds 4 true).setIfInBounds 5 true).setIfInBounds 6 true).setIfInBounds 7 true).setIfInBounds 8 true).setIfInBounds 9 true)) (C := fun w' => Mod None_ _ w') [0, 1, 2, 3, 4, 5, 6, 7, 8, 9] (Mod.refl _ _) (by kernel_rfl) (by kernel_rfl) ?_
        refine QW.cons rfl (QP.val (v := v1) rfl (fun w' hm' => x_mv f71) ?_)
        refine QW.cons rfl (QP.val (v := (.int .i64 s_l1)) rfl (fun w' hm' => x_mv f73) ?_)
        obtain ⟨x75, ha76, hm⟩ := bndE hm
        obtain ⟨hz77, ha85⟩ := idxE ha76
        obtain ⟨b78, q79, v80, hix81, hs82, hc83, hr84⟩ := rdN_at h2 hz77 ha85
        refine QW.cons rfl (QP.val (v := (.pointer (some ⟨b78, q79, none⟩))) rfl (fun w' hm' => x_ix Try.underlying54 Try_T61 rfl rfl hix81) ?_)
        refine QW.cons rfl (QP.val (v := v80) rfl (fun w' hm' => x_load1 Try.underlying61 rfl rfl ((hL.call hm').cellS 0 rfl hs82 hc83)) ?_)
        refine QW.cons rfl (QP.val (v := v3) rfl (fun w' hm' => x_mv f72) ?_)
        refine QW.cons rfl (QP.val (v := (.int .i64 s_l1)) rfl (fun w' hm' => x_mv f73) ?_)
        obtain ⟨x86, ha87, hm⟩ := bndE hm
        obtain ⟨hz88, ha96⟩ := idxE ha87
        obtain ⟨b89, q90, v91, hix92, hs93, hc94, hr95⟩ := rdN_at h4 hz88 ha96
        refine QW.cons rfl (QP.val (v := (.pointer (some ⟨b89, q90, none⟩))) rfl (fun w' hm' => x_ix Try.underlying54 Try_T61 rfl rfl hix92) ?_)
        refine QW.cons rfl (QP.val (v := v91) rfl (fun w' hm' => x_load1 Try.underlying61 rfl rfl ((hL.call hm').cellS 0 rfl hs93 hc94)) ?_)
        obtain ⟨x97, hx98, hm⟩ := bndE hm
        refine QW.cons rfl (QP.call (v := (.bool x97)) rfl (fun w' hm' => x_call (vs := [v80, v91]) Try_C79 ⟨rfl, rfl, trivial⟩) (fun w' hm' => (M.laws_likeInts_ok w' x75 ((hL.call hm').rdS 0 rfl hr84) x86 ((hL.call hm').rdS 0 rfl hr95) hx98).mono (fun e w'' h => ⟨h.1, hm'.trans h.2.mod⟩)) ?_)
        refine QW.cons rfl (QP.val (v := (.bool (!x97))) rfl (fun w' hm' => x_not rfl) ?_)
        refine QW.nil ?_
        intro wd99 hmod
        have hL := hL.call hmod
        refine DW.done (by kernel_rfl) ?_
        refine CW.condM (t := !x97) rfl hm (fun hb100 hm => ?_) (fun hb100 hm => ?_)
        · refine CW.seq ?_
          refine CW.regionL ?_
          refine OW.cons (OP.val (v := (.bool false)) rfl (x_assign) ?_)
          refine OW.nil ?_
          refine CW.ret ?_
          obtain rfl := Option.some.inj hm
          have hm := hr61 _ rfl
          obtain rfl := Option.some.inj hm
          exact RR1 rfl rfl ⟨rfl, hL.fresh 0 rfl [] (by decide) (by decide) rfl⟩
        · refine CW.skip ?_
          refine CW.regionL ?_
          refine OW.cons (OP.val (v := (.int .i64 s_l1)) rfl (x_mv f73) ?_)
          refine OW.cons (OP.val (v := (.int .i64 (w64 (s_l1 + 1)))) rfl (x_add rfl rfl) ?_)
          refine OW.cons (OP.val (v := (.int .i64 (w64 (s_l1 + 1)))) rfl (x_assign) ?_)
          refine OW.nil ?_
          obtain rfl := Option.some.inj hm
          exact ⟨_, rfl, ⟨f71, f72, rfl, hL⟩⟩
      · refine CW.exit ?_
        refine XJ.hit ?_
        obtain rfl := Option.some.inj hm
        exact ⟨_, rfl, ⟨f71, f72, f73, hL⟩⟩

theorem M.laws_w6Tables_ok (w0 : World) (a0 : Table) {v1 : Value} {v3 : Value} (h2 : rdL (· < w0.heap.size) w0 v1 a0.Points) (h4 : rdL (· < w0.heap.size) w0 v3 a0.Codes) (a1 : Table) {v5 : Value} {v7 : Value} (h6 : rdL (· < w0.heap.size) w0 v5 a1.Points) (h8 : rdL (· < w0.heap.size) w0 v7 a1.Codes) {r : Bool} (hm : M.laws_w6Tables a0 a1 = some r) :
    Calls Try.prog 28 #[(.agg #[(.int .i64 a0.Boats), v1, v3]), (.agg #[(.int .i64 a1.Boats), v5, v7])] w0 fun e w' => e = .returned (.bool r) ∧ Fresh w0 w' [] := by
  unfold M.laws_w6Tables at hm
  refine calls_CW (args := [(.agg #[(.int .i64 a0.Boats), v1, v3]), (.agg #[(.int .i64 a1.Boats), v5, v7])]) Try.func28 rfl rfl rfl ?_
  have hL := Hp.start w0
  refine CW.seq ?_
  refine CW.regionL ?_
  refine OW.cons (S_box (cs := #[(.int .i64 a0.Boats), v1, v3]) hL rfl rfl rfl ?_)
  intro wd9 b10 hL
  refine OW.cons (S_box (cs := #[(.int .i64 a1.Boats), v5, v7]) hL rfl rfl rfl ?_)
  intro wd11 b12 hL
  refine OW.cons (OP.val (v := (.bool false)) rfl (x_assign) ?_)
  refine OW.nil ?_
  refine CW.seqJ (fun (s_j1 : Bool) (F : Fr) (w : World) => F 4 = (.bool s_j1) ∧ Hp w0 [Ent.blk b12 56 #[(.int .i64 a1.Boats), v5, v7], Ent.blk b10 56 #[(.int .i64 a0.Boats), v1, v3], Ent.snap w0 w0.heap.size] w) (fun s_j1 => M.laws_w6Tables_j1 s_j1 = some r) ?_ ?_
  · refine CW.regionL ?_
    refine OW.cons (OP.val (v := (.pointer (some ⟨b10, 0, none⟩))) rfl (x_fieldAddr (fsz := 1) 0 0 0 Try.underlying56 rfl Try_T2 rfl rfl rfl) ?_)
    refine OW.cons (OP.val (v := (.int .i64 a0.Boats)) rfl (x_load1 Try.underlying2 rfl rfl (hL.cellB 1 rfl rfl)) ?_)
    refine OW.cons (OP.val (v := (.pointer (some ⟨b12, 0, none⟩))) rfl (x_fieldAddr (fsz := 1) 0 0 0 Try.underlying56 rfl Try_T2 rfl rfl rfl) ?_)
    refine OW.cons (OP.val (v := (.int .i64 a1.Boats)) rfl (x_load1 Try.underlying2 rfl rfl (hL.cellB 0 rfl rfl)) ?_)
    refine OW.cons (OP.val (v := (.bool (a0.Boats == a1.Boats))) rfl (x_eql rfl rfl) ?_)
    refine OW.cons (OP.val (v := (.bool (a0.Boats == a1.Boats))) rfl (x_move) ?_)
    refine ifB_elim hm (fun hb28 hm => ?_) (fun hb28 hm => ?_)
    · refine OW.cons (OP.yes' rfl rfl hb28 (OP.val (v := (.pointer (some ⟨b10, 1, none⟩))) rfl (x_fieldAddr (fsz := 1) 0 1 1 Try.underlying56 rfl Try_T54 rfl rfl rfl) ?_))
      refine OW.cons (OP.yes' rfl rfl hb28 (OP.val (v := v1) rfl (x_load1 Try.underlying54 rfl rfl (hL.cellB 1 rfl rfl)) ?_))
      refine OW.cons (OP.yes' rfl rfl hb28 (OP.val (v := (.pointer (some ⟨b12, 1, none⟩))) rfl (x_fieldAddr (fsz := 1) 0 1 1 Try.underlying56 rfl Try_T54 rfl rfl rfl) ?_))
      refine OW.cons (OP.yes' rfl rfl hb28 (OP.val (v := v5) rfl (x_load1 Try.underlying54 rfl rfl (hL.cellB 0 rfl rfl)) ?_))
      obtain ⟨x29, hx30, hm⟩ := bndE hm
      refine OW.cons (OP.yes' rfl rfl hb28 (OP.call rfl (x_call (vs := [v1, v5]) Try_C55 ⟨rfl, rfl, trivial⟩) (M.laws_likeRows_ok _ a0.Points (hL.rdS 2 rfl h2) a1.Points (hL.rdS 2 rfl h6) hx30) ?_))
      rintro e31 wd32 ⟨rfl, hF33⟩
      refine ⟨_, rfl, ?_⟩
      have hL := hL.pushAll hF33
      simp only [lA, lB, lC, lD] at hL
      refine OW.cons (OP.val (v := (.bool x29)) rfl (x_pickT' rfl hb28 rfl) ?_)
      refine OW.cons (OP.val (v := (.bool x29)) rfl (x_move) ?_)
      refine ifB_elim hm (fun hb34 hm => ?_) (fun hb34 hm => ?_)
      · refine OW.cons (OP.yes' rfl rfl hb34 (OP.val (v := (.pointer (some ⟨b10, 2, none⟩))) rfl (x_fieldAddr (fsz := 1) 0 2 2 Try.underlying56 rfl Try_T54 rfl rfl rfl) ?_))
        refine OW.cons (OP.yes' rfl rfl hb34 (OP.val (v := v3) rfl (x_load1 Try.underlying54 rfl rfl (hL.cellB 1 rfl rfl)) ?_))
        refine OW.cons (OP.yes' rfl rfl hb34 (OP.val (v := (.pointer (some ⟨b12, 2, none⟩))) rfl (x_fieldAddr (fsz := 1) 0 2 2 Try.underlying56 rfl Try_T54 rfl rfl rfl) ?_))
        refine OW.cons (OP.yes' rfl rfl hb34 (OP.val (v := v7) rfl (x_load1 Try.underlying54 rfl rfl (hL.cellB 0 rfl rfl)) ?_))
        obtain ⟨x35, hx36, hm⟩ := bndE hm
        refine OW.cons (OP.yes' rfl rfl hb34 (OP.call rfl (x_call (vs := [v3, v7]) Try_C55 ⟨rfl, rfl, trivial⟩) (M.laws_likeRows_ok _ a0.Codes (hL.rdS 2 rfl h4) a1.Codes (hL.rdS 2 rfl h8) hx36) ?_))
        rintro e37 wd38 ⟨rfl, hF39⟩
        refine ⟨_, rfl, ?_⟩
        have hL := hL.pushAll hF39
        simp only [lA, lB, lC, lD] at hL
        refine OW.cons (OP.val (v := (.bool x35)) rfl (x_pickT' rfl hb34 rfl) ?_)
        refine OW.cons (OP.val (v := (.bool x35)) rfl (x_assign) ?_)
        refine OW.nil ?_
        exact ⟨x35, hm, ⟨rfl, hL⟩⟩
      · refine OW.cons (OP.no' rfl rfl hb34 rfl ?_)
        refine OW.cons (OP.no' rfl rfl hb34 rfl ?_)
        refine OW.cons (OP.no' rfl rfl hb34 rfl ?_)
        refine OW.cons (OP.no' rfl rfl hb34 rfl ?_)
        refine OW.cons (OP.no' rfl rfl hb34 rfl ?_)
        refine OW.cons (OP.val (v := (.bool false)) rfl (x_pickF' rfl hb34 rfl) ?_)
        refine OW.cons (OP.val (v := (.bool false)) rfl (x_assign) ?_)
        refine OW.nil ?_
        exact ⟨false, hm, ⟨rfl, hL⟩⟩
    · refine OW.cons (OP.no' rfl rfl hb28 rfl ?_)
      refine OW.cons (OP.no' rfl rfl hb28 rfl ?_)
      refine OW.cons (OP.no' rfl rfl hb28 rfl ?_)
      refine OW.cons (OP.no' rfl rfl hb28 rfl ?_)
      refine OW.cons (OP.no' rfl rfl hb28 rfl ?_)
      refine OW.cons (OP.val (v := (.bool false)) rfl (x_pickF' rfl hb28 rfl) ?_)
      refine OW.cons (OP.val (v := (.bool false)) rfl (x_move) ?_)
      refine OW.cons (OP.no' rfl rfl rfl rfl ?_)
      refine OW.cons (OP.no' rfl rfl rfl rfl ?_)
      refine OW.cons (OP.no' rfl rfl rfl rfl ?_)
      refine OW.cons (OP.no' rfl rfl rfl rfl ?_)
      refine OW.cons (OP.no' rfl rfl rfl rfl ?_)
      refine OW.cons (OP.val (v := (.bool false)) rfl (x_pickF' rfl rfl rfl) ?_)
      refine OW.cons (OP.val (v := (.bool false)) rfl (x_assign) ?_)
      refine OW.nil ?_
      exact ⟨false, hm, ⟨rfl, hL⟩⟩
  · intro s_j1 F25 wd26 hJ hm
    unfold M.laws_w6Tables_j1 at hm
    obtain ⟨f27, hL⟩ := hJ
    refine CW.ret ?_
    obtain rfl := Option.some.inj hm
    exact RR1 rfl f27 ⟨rfl, hL.fresh 2 rfl [] (by decide) (by decide) rfl⟩

theorem M.impl_TableOf_ok (w0 : World) (a0 : Series) {v1 : Value} (h2 : rdL (· < w0.heap.size) w0 v1 a0.Races) {r : Table × Int} (hm : M.impl_TableOf a0 = some r) :
    Calls Try.prog 29 #[(.agg #[(.int .i64 a0.Boats), (.int .i64 a0.Scheme), v1])] w0 fun e w' => ∃ (rv0 : Value) (rS0 : Nat → Prop), ∃ (rv1 : Value) (rS1 : Nat → Prop), e = .returned (.tuple #[(.agg #[(.int .i64 r.1.Boats), rv0, rv1]), (.int .i64 r.2)]) ∧ Fresh w0 w' [Ent.own 61 rS0 rv0 r.1.Points, Ent.own 61 rS1 rv1 r.1.Codes] := by
  unfold M.impl_TableOf at hm
  refine calls_CW (args := [(.agg #[(.int .i64 a0.Boats), (.int .i64 a0.Scheme), v1])]) Try.func29 rfl rfl rfl ?_
  have hL := Hp.start w0
  refine CW.seq ?_
  refine CW.regionL ?_
  refine OW.cons (S_box (cs := #[(.int .i64 a0.Boats), (.int .i64 a0.Scheme), v1]) hL rfl rfl rfl ?_)
  intro wd3 b4 hL
  refine OW.cons (S_alloc (cs := #[(.int .i64 0), (.slice none 0 0), (.slice none 0 0)]) hL Try_T56 rfl rfl ?_)
  intro wd5 b6 hL
  refine OW.cons (OP.val (v := (.int .i64 0)) rfl (x_assign) ?_)
  refine OW.nil ?_
  refine CW.seq ?_
  refine CW.seq ?_
  refine CW.regionL ?_
  refine OW.cons (OP.val (v := (.agg #[(.int .i64 a0.Boats), (.int .i64 a0.Scheme), v1])) rfl (x_loadN (cs := [(.int .i64 a0.Boats), (.int .i64 a0.Scheme), v1]) Try.underlying31 Try_T31 rfl rfl (hL.cellsB 1 rfl (o := 0) (l := [(.int .i64 a0.Boats), (.int .i64 a0.Scheme), v1]) (by intro j u hj; exact (by simpa using hj)))) ?_)
  obtain ⟨x7, hx8, hm⟩ := bndE hm
  refine OW.cons (OP.call rfl (x_call (vs := [(.agg #[(.int .i64 a0.Boats), (.int .i64 a0.Scheme), v1])]) Try_C21 ⟨rfl, trivial⟩) (M.impl_IsSeries_ok _ a0 (hL.rdS 2 rfl h2) hx8) ?_)
  rintro e9 wd10 ⟨rfl, hF11⟩
  refine ⟨_, rfl, ?_⟩
  have hL := hL.pushAll hF11
  simp only [lA, lB, lC, lD] at hL
  refine OW.cons (OP.val (v := (.bool (!x7))) rfl (x_not rfl) ?_)
  refine OW.nil ?_
  refine CW.condM (t := !x7) rfl hm (fun hb12 hm => ?_) (fun hb12 hm => ?_)
  · refine CW.seq ?_
    refine CW.regionL ?_
    refine OW.cons (OP.val (v := (.agg #[(.int .i64 0), (.slice none 0 0), (.slice none 0 0)])) rfl (x_build Try_B56 (ps := []) trivial (by simp [Instr.fill, cells_int, cells_bool, cells_string, cells_agg, cells_slice, cells_pointer])) ?_)
    refine OW.cons (S_storeN (l := [(.int .i64 0), (.slice none 0 0), (.slice none 0 0)]) (cs' := #[(.int .i64 0), (.slice none 0 0), (.slice none 0 0)]) hL 0 rfl Try_T56 rfl rfl (List.forall_mem_cons.2 ⟨rfl, (List.forall_mem_cons.2 ⟨rfl, (List.forall_mem_cons.2 ⟨rfl, (fun _ h => by cases h)⟩)⟩)⟩) rfl (Nat.le_of_ble_eq_true rfl) rfl ?_)
    intro wd13 hL
    refine OW.cons (OP.val (v := (.int .i64 1)) rfl (x_assign) ?_)
    refine OW.nil ?_
    refine CW.ret ?_
    have hL := hL.pushNil (List Int) 61
    have hL := hL.pushNil (List Int) 61
    obtain rfl := Option.some.inj hm
    exact RRct rfl rfl (run_loadBlk Try.underlying56 Try_T56 (hL.get 2 rfl) rfl) rfl ⟨(.slice none 0 0), None_, (.slice none 0 0), None_, rfl, hL.fresh 4 rfl [1, 0] (by decide) (by decide) rfl⟩
  · refine CW.skip ?_
    refine CW.seq ?_
    refine CW.regionL ?_
    refine OW.cons (OP.val (v := (.agg #[(.int .i64 a0.Boats), (.int .i64 a0.Scheme), v1])) rfl (x_loadN (cs := [(.int .i64 a0.Boats), (.int .i64 a0.Scheme), v1]) Try.underlying31 Try_T31 rfl rfl (hL.cellsB 1 rfl (o := 0) (l := [(.int .i64 a0.Boats), (.int .i64 a0.Scheme), v1]) (by intro j u hj; exact (by simpa using hj)))) ?_)
    obtain ⟨x14, hx15, hm⟩ := bndE hm
    refine OW.cons (OP.call rfl (x_call (vs := [(.agg #[(.int .i64 a0.Boats), (.int .i64 a0.Scheme), v1])]) Try_C56 ⟨rfl, trivial⟩) (M.impl_tableOf_ok _ a0 (hL.rdS 2 rfl h2) hx15) ?_)
    rintro e20 wd21 ⟨v17, S16, v19, S18, rfl, hF22⟩
    refine ⟨_, rfl, ?_⟩
    have hL := hL.pushAll hF22
    simp only [lA, lB, lC, lD] at hL
    refine OW.cons (S_storeN (l := [(.int .i64 x14.Boats), v17, v19]) (cs' := #[(.int .i64 x14.Boats), v17, v19]) hL 2 rfl Try_T56 rfl rfl (List.forall_mem_cons.2 ⟨rfl, (List.forall_mem_cons.2 ⟨rdL_one (hL.rdO 0 rfl), (List.forall_mem_cons.2 ⟨rdL_one (hL.rdO 1 rfl), (fun _ h => by cases h)⟩)⟩)⟩) rfl (Nat.le_of_ble_eq_true rfl) rfl ?_)
    intro wd23 hL
    refine OW.cons (OP.val (v := (.int .i64 0)) rfl (x_assign) ?_)
    refine OW.nil ?_
    refine CW.ret ?_
    obtain rfl := Option.some.inj hm
    exact RRct rfl rfl (run_loadBlk Try.underlying56 Try_T56 (hL.get 2 rfl) rfl) rfl ⟨v17, S16, v19, S18, rfl, hL.fresh 4 rfl [0, 1] (by decide) (by decide) rfl⟩

theorem M.laws_FnPenalizedTable_ok (w0 : World) (a0 : List UInt8) {v1 : Value} (h2 : rdL (· < w0.heap.size) w0 v1 a0) {r : Bool} (hm : M.laws_FnPenalizedTable a0 = some r) :
    Calls Try.prog 6 #[v1] w0 fun e w' => e = .returned (.bool r) ∧ Fresh w0 w' [] := by
  unfold M.laws_FnPenalizedTable at hm
  refine calls_CW (args := [v1]) Try.func6 rfl rfl rfl ?_
  have hL := Hp.start w0
  refine CW.seq ?_
  refine CW.regionL ?_
  refine OW.cons (OP.val (v := (.bool false)) rfl (x_assign) ?_)
  refine OW.nil ?_
  refine CW.seq ?_
  refine CW.seq ?_
  refine CW.regionL ?_
  refine OW.cons (OP.val (v := v1) rfl (x_move) ?_)
  obtain ⟨x3, hx4, hm⟩ := bndE hm
  refine OW.cons (OP.call rfl (x_call (vs := [v1]) Try_C16 ⟨rfl, trivial⟩) (M.laws_big_ok _ a0 (hL.rdS 0 rfl h2) hx4) ?_)
  rintro e5 wd6 ⟨rfl, hF7⟩
  refine ⟨_, rfl, ?_⟩
  have hL := hL.pushAll hF7
  simp only [lA, lB, lC, lD] at hL
  refine OW.nil ?_
  refine CW.condM (t := x3) rfl hm (fun hb8 hm => ?_) (fun hb8 hm => ?_)
  · refine CW.seq ?_
    refine CW.regionL ?_
    refine OW.cons (OP.val (v := (.bool true)) rfl (x_assign) ?_)
    refine OW.nil ?_
    refine CW.ret ?_
    obtain rfl := Option.some.inj hm
    exact RR1 rfl rfl ⟨rfl, hL.fresh 0 rfl [] (by decide) (by decide) rfl⟩
  · refine CW.skip ?_
    refine CW.seq ?_
    refine CW.regionL ?_
    refine OW.cons (OP.val (v := v1) rfl (x_move) ?_)
    obtain ⟨x9, hx10, hm⟩ := bndE hm
    refine OW.cons (OP.call rfl (x_call (vs := [v1]) Try_C25 ⟨rfl, trivial⟩) (M.spec_DrawPenalizedTable_ok _ a0 (hL.rdS 0 rfl h2) hx10) ?_)
    rintro e15 wd16 ⟨v12, S11, v14, S13, rfl, hF17⟩
    refine ⟨_, rfl, ?_⟩
    have hL := hL.pushAll hF17
    simp only [lA, lB, lC, lD] at hL
    refine OW.cons (OP.val (v := (.tuple #[(.agg #[(.int .i64 x9.1.Boats), (.int .i64 x9.1.Scheme), v12]), v14])) rfl (x_move) ?_)
    refine OW.cons (OP.val (v := (.agg #[(.int .i64 x9.1.Boats), (.int .i64 x9.1.Scheme), v12])) rfl (x_extract rfl rfl) ?_)
    refine OW.cons (OP.val (v := v14) rfl (x_extract rfl rfl) ?_)
    refine OW.cons (S_alloc (cs := #[(.int .i64 0), (.int .i64 0), (.slice none 0 0)]) hL Try_T31 rfl rfl ?_)
    intro wd18 b19 hL
    refine OW.cons (S_storeN (l := [(.int .i64 x9.1.Boats), (.int .i64 x9.1.Scheme), v12]) (cs' := #[(.int .i64 x9.1.Boats), (.int .i64 x9.1.Scheme), v12]) hL 0 rfl Try_T31 rfl rfl (List.forall_mem_cons.2 ⟨rfl, (List.forall_mem_cons.2 ⟨rfl, (List.forall_mem_cons.2 ⟨rdL_one (hL.rdO 1 rfl), (fun _ h => by cases h)⟩)⟩)⟩) rfl (Nat.le_of_ble_eq_true rfl) rfl ?_)
    intro wd20 hL
    refine OW.cons (OP.val (v := v14) rfl (x_assign) ?_)
    refine OW.nil ?_
    refine CW.seq ?_
    refine CW.regionL ?_
    refine OW.cons (OP.val (v := (.agg #[(.int .i64 x9.1.Boats), (.int .i64 x9.1.Scheme), v12])) rfl (x_loadN (cs := [(.int .i64 x9.1.Boats), (.int .i64 x9.1.Scheme), v12]) Try.underlying31 Try_T31 rfl rfl (hL.cellsB 0 rfl (o := 0) (l := [(.int .i64 x9.1.Boats), (.int .i64 x9.1.Scheme), v12]) (by intro j u hj; exact (by simpa using hj)))) ?_)
    refine OW.cons (OP.val (v := v14) rfl (x_move) ?_)
    obtain ⟨x21, hx22, hm⟩ := bndE hm
    refine OW.cons (OP.call rfl (x_call (vs := [(.agg #[(.int .i64 x9.1.Boats), (.int .i64 x9.1.Scheme), v12]), v14]) Try_C26 ⟨rfl, rfl, trivial⟩) (M.impl_PenalizedTable_ok _ x9.1 (hL.rdO 1 rfl) x9.2 (hL.rdO 2 rfl) hx22) ?_)
    rintro e27 wd28 ⟨v24, S23, v26, S25, rfl, hF29⟩
    refine ⟨_, rfl, ?_⟩
    have hL := hL.pushAll hF29
    simp only [lA, lB, lC, lD] at hL
    refine OW.cons (OP.val (v := (.tuple #[(.agg #[(.int .i64 x21.1.Boats), v24, v26]), (.int .i64 x21.2)])) rfl (x_move) ?_)
    refine OW.cons (OP.val (v := (.agg #[(.int .i64 x21.1.Boats), v24, v26])) rfl (x_extract rfl rfl) ?_)
    refine OW.cons (OP.val (v := (.int .i64 x21.2)) rfl (x_extract rfl rfl) ?_)
    refine OW.cons (S_alloc (cs := #[(.int .i64 0), (.slice none 0 0), (.slice none 0 0)]) hL Try_T56 rfl rfl ?_)
    intro wd30 b31 hL
    refine OW.cons (S_storeN (l := [(.int .i64 x21.1.Boats), v24, v26]) (cs' := #[(.int .i64 x21.1.Boats), v24, v26]) hL 0 rfl Try_T56 rfl rfl (List.forall_mem_cons.2 ⟨rfl, (List.forall_mem_cons.2 ⟨rdL_one (hL.rdO 1 rfl), (List.forall_mem_cons.2 ⟨rdL_one (hL.rdO 2 rfl), (fun _ h => by cases h)⟩)⟩)⟩) rfl (Nat.le_of_ble_eq_true rfl) rfl ?_)
    intro wd32 hL
    refine OW.cons (OP.val (v := (.int .i64 x21.2)) rfl (x_assign) ?_)
    refine OW.nil ?_
    refine CW.seq ?_
    refine CW.regionL ?_
    refine OW.cons (OP.val (v := v1) rfl (x_move) ?_)
    obtain ⟨x33, hx34, hm⟩ := bndE hm
    refine OW.cons (OP.call rfl (x_call (vs := [v1]) Try_C25 ⟨rfl, trivial⟩) (M.spec_DrawPenalizedTable_ok _ a0 (hL.rdS 6 rfl h2) hx34) ?_)
    rintro e39 wd40 ⟨v36, S35, v38, S37, rfl, hF41⟩
    refine ⟨_, rfl, ?_⟩
    have hL := hL.pushAll hF41
    simp only [lA, lB, lC, lD] at hL
    refine OW.cons (OP.val (v := (.tuple #[(.agg #[(.int .i64 x33.1.Boats), (.int .i64 x33.1.Scheme), v36]), v38])) rfl (x_move) ?_)
    refine OW.cons (OP.val (v := (.agg #[(.int .i64 x33.1.Boats), (.int .i64 x33.1.Scheme), v36])) rfl (x_extract rfl rfl) ?_)
    refine OW.cons (OP.val (v := v38) rfl (x_extract rfl rfl) ?_)
    refine OW.cons (S_storeN (l := [(.int .i64 x33.1.Boats), (.int .i64 x33.1.Scheme), v36]) (cs' := #[(.int .i64 x33.1.Boats), (.int .i64 x33.1.Scheme), v36]) hL 5 rfl Try_T31 rfl rfl (List.forall_mem_cons.2 ⟨rfl, (List.forall_mem_cons.2 ⟨rfl, (List.forall_mem_cons.2 ⟨rdL_one (hL.rdO 0 rfl), (fun _ h => by cases h)⟩)⟩)⟩) rfl (Nat.le_of_ble_eq_true rfl) rfl ?_)
    intro wd42 hL
    refine OW.cons (OP.val (v := v38) rfl (x_assign) ?_)
    refine OW.nil ?_
    refine CW.seq ?_
    refine CW.regionL ?_
    refine OW.cons (OP.val (v := (.agg #[(.int .i64 x33.1.Boats), (.int .i64 x33.1.Scheme), v36])) rfl (x_loadN (cs := [(.int .i64 x33.1.Boats), (.int .i64 x33.1.Scheme), v36]) Try.underlying31 Try_T31 rfl rfl (hL.cellsB 5 rfl (o := 0) (l := [(.int .i64 x33.1.Boats), (.int .i64 x33.1.Scheme), v36]) (by intro j u hj; exact (by simpa using hj)))) ?_)
    refine OW.cons (OP.val (v := v38) rfl (x_move) ?_)
    obtain ⟨x43, hx44, hm⟩ := bndE hm
    refine OW.cons (OP.call rfl (x_call (vs := [(.agg #[(.int .i64 x33.1.Boats), (.int .i64 x33.1.Scheme), v36]), v38]) Try_C27 ⟨rfl, rfl, trivial⟩) (M.spec_PenalizedTable_ok _ x33.1 (hL.rdO 0 rfl) x33.2 (hL.rdO 1 rfl) hx44) ?_)
    rintro e49 wd50 ⟨v46, S45, v48, S47, rfl, hF51⟩
    refine ⟨_, rfl, ?_⟩
    have hL := hL.pushAll hF51
    simp only [lA, lB, lC, lD] at hL
    refine OW.cons (OP.val (v := (.tuple #[(.agg #[(.int .i64 x43.1.Boats), v46, v48]), (.int .i64 x43.2)])) rfl (x_move) ?_)
    refine OW.cons (OP.val (v := (.agg #[(.int .i64 x43.1.Boats), v46, v48])) rfl (x_extract rfl rfl) ?_)
    refine OW.cons (OP.val (v := (.int .i64 x43.2)) rfl (x_extract rfl rfl) ?_)
    refine OW.cons (S_alloc (cs := #[(.int .i64 0), (.slice none 0 0), (.slice none 0 0)]) hL Try_T56 rfl rfl ?_)
    intro wd52 b53 hL
    refine OW.cons (S_storeN (l := [(.int .i64 x43.1.Boats), v46, v48]) (cs' := #[(.int .i64 x43.1.Boats), v46, v48]) hL 0 rfl Try_T56 rfl rfl (List.forall_mem_cons.2 ⟨rfl, (List.forall_mem_cons.2 ⟨rdL_one (hL.rdO 1 rfl), (List.forall_mem_cons.2 ⟨rdL_one (hL.rdO 2 rfl), (fun _ h => by cases h)⟩)⟩)⟩) rfl (Nat.le_of_ble_eq_true rfl) rfl ?_)
    intro wd54 hL
    refine OW.cons (OP.val (v := (.int .i64 x43.2)) rfl (x_assign) ?_)
    refine OW.nil ?_
    refine CW.seq ?_
    refine CW.seqJ (fun (s_j1 : Bool) (F : Fr) (w : World) => F 3 = (.pointer (some ⟨b19, 0, none⟩)) ∧ F 4 = v38 ∧ F 6 = (.int .i64 x21.2) ∧ F 7 = (.pointer (some ⟨b53, 0, none⟩)) ∧ F 51 = (.bool s_j1) ∧ Hp w0 [Ent.blk b53 56 #[(.int .i64 x43.1.Boats), v46, v48], Ent.own 61 S45 v46 x43.1.Points, Ent.own 61 S47 v48 x43.1.Codes, Ent.own 46 S35 v36 x33.1.Races, Ent.own 48 S37 v38 x33.2, Ent.blk b31 56 #[(.int .i64 x21.1.Boats), v24, v26], Ent.own 61 S23 v24 x21.1.Points, Ent.own 61 S25 v26 x21.1.Codes, Ent.blk b19 31 #[(.int .i64 x33.1.Boats), (.int .i64 x33.1.Scheme), v36], Ent.snap w0 w0.heap.size] w) (fun s_j1 => M.laws_FnPenalizedTable_j1 x21 x33 x43 s_j1 = some r) ?_ ?_
    · refine CW.regionL ?_
      refine OW.cons (OP.val (v := (.int .i64 x21.2)) rfl (x_move) ?_)
      refine OW.cons (OP.val (v := (.int .i64 x43.2)) rfl (x_move) ?_)
      refine OW.cons (OP.val (v := (.bool (x21.2 != x43.2))) rfl (x_neq rfl rfl) ?_)
      refine OW.cons (OP.val (v := (.bool (x21.2 != x43.2))) rfl (x_move) ?_)
      refine ifB_elim hm (fun hb1194 hm => ?_) (fun hb1194 hm => ?_)
      · refine OW.cons (OP.no' rfl rfl hb1194 rfl ?_)
        refine OW.cons (OP.no' rfl rfl hb1194 rfl ?_)
        refine OW.cons (OP.no' rfl rfl hb1194 rfl ?_)
        refine OW.cons (OP.no' rfl rfl hb1194 rfl ?_)
        refine OW.cons (OP.val (v := (.bool true)) rfl (x_pickT' rfl hb1194 rfl) ?_)
        refine OW.nil ?_
        have hL := hL.sel [0, 1, 2, 3, 4, 5, 6, 7, 8, 11] (by decide) rfl
        exact ⟨true, hm, ⟨rfl, rfl, rfl, rfl, rfl, hL⟩⟩
      · refine OW.cons (OP.yes' rfl rfl hb1194 (OP.val (v := (.agg #[(.int .i64 x21.1.Boats), v24, v26])) rfl (x_loadN (cs := [(.int .i64 x21.1.Boats), v24, v26]) Try.underlying56 Try_T56 rfl rfl (hL.cellsB 5 rfl (o := 0) (l := [(.int .i64 x21.1.Boats), v24, v26]) (by intro j u hj; exact (by simpa using hj)))) ?_))
        refine OW.cons (OP.yes' rfl rfl hb1194 (OP.val (v := (.agg #[(.int .i64 x43.1.Boats), v46, v48])) rfl (x_loadN (cs := [(.int .i64 x43.1.Boats), v46, v48]) Try.underlying56 Try_T56 rfl rfl (hL.cellsB 0 rfl (o := 0) (l := [(.int .i64 x43.1.Boats), v46, v48]) (by intro j u hj; exact (by simpa using hj)))) ?_))
        obtain ⟨x1195, hx1196, hm⟩ := bndE hm
        refine OW.cons (OP.yes' rfl rfl hb1194 (OP.call rfl (x_call (vs := [(.agg #[(.int .i64 x21.1.Boats), v24, v26]), (.agg #[(.int .i64 x43.1.Boats), v46, v48])]) Try_C28 ⟨rfl, rfl, trivial⟩) (M.laws_w6Tables_ok _ x21.1 (hL.rdO 6 rfl) (hL.rdO 7 rfl) x43.1 (hL.rdO 1 rfl) (hL.rdO 2 rfl) hx1196) ?_))
        rintro e1197 wd1198 ⟨rfl, hF1199⟩
        refine ⟨_, rfl, ?_⟩
        have hL := hL.pushAll hF1199
        simp only [lA, lB, lC, lD] at hL
        refine OW.cons (OP.yes' rfl rfl hb1194 (OP.val (v := (.bool (!x1195))) rfl (x_not rfl) ?_))
        refine OW.cons (OP.val (v := (.bool (!x1195))) rfl (x_pickF' rfl hb1194 rfl) ?_)
        refine OW.nil ?_
        have hL := hL.sel [0, 1, 2, 3, 4, 5, 6, 7, 8, 11] (by decide) rfl
        exact ⟨!x1195, hm, ⟨rfl, rfl, rfl, rfl, rfl, hL⟩⟩
    · intro s_j1 F61 wd62 hJ hm
      unfold M.laws_FnPenalizedTable_j1 at hm
      obtain ⟨f63, f64, f65, f66, f67, hL⟩ := hJ
      refine CW.condM (t := s_j1) f67 hm (fun hb68 hm => ?_) (fun hb68 hm => ?_)
      · refine CW.seq ?_
        refine CW.regionL ?_
        refine OW.cons (OP.val (v := (.bool false)) rfl (x_assign) ?_)
        refine OW.nil ?_
        refine CW.ret ?_
        obtain rfl := Option.some.inj hm
        exact RR1 rfl rfl ⟨rfl, hL.fresh 9 rfl [] (by decide) (by decide) rfl⟩
      · refine CW.skip ?_
        refine CW.seq ?_
        refine CW.seq ?_
        refine CW.regionL ?_
        refine OW.cons (OP.val (v := (.int .i64 x21.2)) rfl (x_mv f65) ?_)
        refine OW.cons (OP.val (v := (.bool (x21.2 != 0))) rfl (x_neq rfl rfl) ?_)
        refine OW.nil ?_
        refine CW.condM (t := x21.2 != 0) rfl hm (fun hb69 hm => ?_) (fun hb69 hm => ?_)
        · refine CW.seq ?_
          refine CW.regionL ?_
          refine OW.cons (OP.val (v := (.bool true)) rfl (x_assign) ?_)
          refine OW.nil ?_
          refine CW.ret ?_
          obtain rfl := Option.some.inj hm
          exact RR1 rfl rfl ⟨rfl, hL.fresh 9 rfl [] (by decide) (by decide) rfl⟩
        · refine CW.skip ?_
          refine CW.seq ?_
          refine CW.regionL ?_
          refine OW.cons (S_lit ([] : List Penalty) hL Try.underlying33 Try_T48 rfl (by decide) (by first | (simp [Instr.fill, madeCells, Value.cells, ev, upd, Flat.enc, Flat.sz]; done) | rfl | kernel_rfl) rfl rfl ?_)
          intro wd70 v71 S72 hL
          refine OW.cons (OP.val (v := v71) rfl (x_assign) ?_)
          refine OW.nil ?_
          refine CW.seq ?_
          refine CW.seq ?_
          refine CW.regionL ?_
          refine OW.cons (OP.val (v := (.int .i64 0)) rfl (x_assign) ?_)
          refine OW.nil ?_
          obtain ⟨o311, ho312, hm⟩ := bndE hm
          refine CW.loopB (fun (s_l1 : (List Penalty) × Int) (F : Fr) (w : World) => ∃ (v307 : Value) (S308 : Nat → Prop), F 3 = (.pointer (some ⟨b19, 0, none⟩)) ∧ F 4 = v38 ∧ F 7 = (.pointer (some ⟨b53, 0, none⟩)) ∧ F 9 = v307 ∧ F 10 = (.int .i64 s_l1.2) ∧ Hp w0 [Ent.own 48 S308 v307 s_l1.1, Ent.blk b53 56 #[(.int .i64 x43.1.Boats), v46, v48], Ent.own 61 S45 v46 x43.1.Points, Ent.own 61 S47 v48 x43.1.Codes, Ent.own 46 S35 v36 x33.1.Races, Ent.own 48 S37 v38 x33.2, Ent.blk b31 56 #[(.int .i64 x21.1.Boats), v24, v26], Ent.own 61 S23 v24 x21.1.Points, Ent.own 61 S25 v26 x21.1.Codes, Ent.blk b19 31 #[(.int .i64 x33.1.Boats), (.int .i64 x33.1.Scheme), v36], Ent.snap w0 w0.heap.size] w) (fun o => outc o (fun x => some x) (fun s => M.laws_FnPenalizedTable_a1 x33 x43 s) = some r) ho312 hm ⟨v71, S72, f63, f64, f66, rfl, rfl, hL⟩ ?_ ?_
          · intro s_l1 F313 wd314 hJ hm
            have hm := outcE hm
            have hm : M.laws_FnPenalizedTable_a1 x33 x43 s_l1 = some r := hm
            unfold M.laws_FnPenalizedTable_a1 at hm
            obtain ⟨v307, S308, f315, f316, f317, f318, f319, hL⟩ := hJ
            refine CW.seq ?_
            refine CW.regionL ?_
            refine OW.cons (OP.val (v := (.agg #[(.int .i64 x33.1.Boats), (.int .i64 x33.1.Scheme), v36])) rfl (x_loadN (cs := [(.int .i64 x33.1.Boats), (.int .i64 x33.1.Scheme), v36]) Try.underlying31 Try_T31 rfl f315 (hL.cellsB 9 rfl (o := 0) (l := [(.int .i64 x33.1.Boats), (.int .i64 x33.1.Scheme), v36]) (by intro j u hj; exact (by simpa using hj)))) ?_)
            refine OW.cons (OP.val (v := v307) rfl (x_mv f318) ?_)
            obtain ⟨x320, hx321, hm⟩ := bndE hm
            refine OW.cons (OP.call rfl (x_call (vs := [(.agg #[(.int .i64 x33.1.Boats), (.int .i64 x33.1.Scheme), v36]), v307]) Try_C26 ⟨rfl, rfl, trivial⟩) (M.impl_PenalizedTable_ok _ x33.1 (hL.rdO 4 rfl) s_l1.1 (hL.rdO 0 rfl) hx321) ?_)
            rintro e326 wd327 ⟨v323, S322, v325, S324, rfl, hF328⟩
            refine ⟨_, rfl, ?_⟩
            have hL := hL.pushAll hF328
            simp only [lA, lB, lC, lD] at hL
            refine OW.cons (OP.val (v := (.tuple #[(.agg #[(.int .i64 x320.1.Boats), v323, v325]), (.int .i64 x320.2)])) rfl (x_move) ?_)
            refine OW.cons (OP.val (v := (.agg #[(.int .i64 x320.1.Boats), v323, v325])) rfl (x_extract rfl rfl) ?_)
            refine OW.cons (OP.val (v := (.int .i64 x320.2)) rfl (x_extract rfl rfl) ?_)
            refine OW.cons (S_alloc (cs := #[(.int .i64 0), (.slice none 0 0), (.slice none 0 0)]) hL Try_T56 rfl rfl ?_)
            intro wd329 b330 hL
            refine OW.cons (S_storeN (l := [(.int .i64 x320.1.Boats), v323, v325]) (cs' := #[(.int .i64 x320.1.Boats), v323, v325]) hL 0 rfl Try_T56 rfl rfl (List.forall_mem_cons.2 ⟨rfl, (List.forall_mem_cons.2 ⟨rdL_one (hL.rdO 1 rfl), (List.forall_mem_cons.2 ⟨rdL_one (hL.rdO 2 rfl), (fun _ h => by cases h)⟩)⟩)⟩) rfl (Nat.le_of_ble_eq_true rfl) rfl ?_)
            intro wd331 hL
            refine OW.cons (OP.val (v := (.int .i64 x320.2)) rfl (x_assign) ?_)
            refine OW.nil ?_
            refine CW.seq ?_
            refine CW.regionL ?_
            refine OW.cons (OP.val (v := (.agg #[(.int .i64 x33.1.Boats), (.int .i64 x33.1.Scheme), v36])) rfl (x_loadN (cs := [(.int .i64 x33.1.Boats), (.int .i64 x33.1.Scheme), v36]) Try.underlying31 Try_T31 rfl f315 (hL.cellsB 12 rfl (o := 0) (l := [(.int .i64 x33.1.Boats), (.int .i64 x33.1.Scheme), v36]) (by intro j u hj; exact (by simpa using hj)))) ?_)
            refine OW.cons (OP.val (v := v38) rfl (x_mv f316) ?_)
            obtain ⟨x332, hx333, hm⟩ := bndE hm
            refine OW.cons (OP.call rfl (x_call (vs := [(.agg #[(.int .i64 x33.1.Boats), (.int .i64 x33.1.Scheme), v36]), v38]) Try_C19 ⟨rfl, rfl, trivial⟩) (M.spec_PenalizedSeries_ok _ x33.1 (hL.rdO 7 rfl) x33.2 (hL.rdO 8 rfl) hx333) ?_)
            rintro e336 wd337 ⟨v335, S334, rfl, hF338⟩
            refine ⟨_, rfl, ?_⟩
            have hL := hL.pushAll hF338
            simp only [lA, lB, lC, lD] at hL
            refine OW.cons (OP.val (v := (.tuple #[(.agg #[(.int .i64 x332.1.Boats), (.int .i64 x332.1.Scheme), v335]), (.int .i64 x332.2)])) rfl (x_move) ?_)
            refine OW.cons (OP.val (v := (.agg #[(.int .i64 x332.1.Boats), (.int .i64 x332.1.Scheme), v335])) rfl (x_extract rfl rfl) ?_)
            refine OW.cons (OP.val (v := (.int .i64 x332.2)) rfl (x_extract rfl rfl) ?_)
            refine OW.cons (S_alloc (cs := #[(.int .i64 0), (.int .i64 0), (.slice none 0 0)]) hL Try_T31 rfl rfl ?_)
            intro wd339 b340 hL
            refine OW.cons (S_storeN (l := [(.int .i64 x332.1.Boats), (.int .i64 x332.1.Scheme), v335]) (cs' := #[(.int .i64 x332.1.Boats), (.int .i64 x332.1.Scheme), v335]) hL 0 rfl Try_T31 rfl rfl (List.forall_mem_cons.2 ⟨rfl, (List.forall_mem_cons.2 ⟨rfl, (List.forall_mem_cons.2 ⟨rdL_one (hL.rdO 1 rfl), (fun _ h => by cases h)⟩)⟩)⟩) rfl (Nat.le_of_ble_eq_true rfl) rfl ?_)
            intro wd341 hL
            refine OW.cons (OP.val (v := (.int .i64 x332.2)) rfl (x_assign) ?_)
            refine OW.nil ?_
            refine CW.seq ?_
            refine CW.regionL ?_
            refine OW.cons (OP.val (v := (.agg #[(.int .i64 x332.1.Boats), (.int .i64 x332.1.Scheme), v335])) rfl (x_loadN (cs := [(.int .i64 x332.1.Boats), (.int .i64 x332.1.Scheme), v335]) Try.underlying31 Try_T31 rfl rfl (hL.cellsB 0 rfl (o := 0) (l := [(.int .i64 x332.1.Boats), (.int .i64 x332.1.Scheme), v335]) (by intro j u hj; exact (by simpa using hj)))) ?_)
            obtain ⟨x342, hx343, hm⟩ := bndE hm
            refine OW.cons (OP.call rfl (x_call (vs := [(.agg #[(.int .i64 x332.1.Boats), (.int .i64 x332.1.Scheme), v335])]) Try_C29 ⟨rfl, trivial⟩) (M.impl_TableOf_ok _ x332.1 (hL.rdO 1 rfl) hx343) ?_)
            rintro e348 wd349 ⟨v345, S344, v347, S346, rfl, hF350⟩
            refine ⟨_, rfl, ?_⟩
            have hL := hL.pushAll hF350
            simp only [lA, lB, lC, lD] at hL
            refine OW.cons (OP.val (v := (.tuple #[(.agg #[(.int .i64 x342.1.Boats), v345, v347]), (.int .i64 x342.2)])) rfl (x_move) ?_)
            refine OW.cons (OP.val (v := (.agg #[(.int .i64 x342.1.Boats), v345, v347])) rfl (x_extract rfl rfl) ?_)
            refine OW.cons (OP.val (v := (.int .i64 x342.2)) rfl (x_extract rfl rfl) ?_)
            refine OW.cons (S_alloc (cs := #[(.int .i64 0), (.slice none 0 0), (.slice none 0 0)]) hL Try_T56 rfl rfl ?_)
            intro wd351 b352 hL
            refine OW.cons (S_storeN (l := [(.int .i64 x342.1.Boats), v345, v347]) (cs' := #[(.int .i64 x342.1.Boats), v345, v347]) hL 0 rfl Try_T56 rfl rfl (List.forall_mem_cons.2 ⟨rfl, (List.forall_mem_cons.2 ⟨rdL_one (hL.rdO 1 rfl), (List.forall_mem_cons.2 ⟨rdL_one (hL.rdO 2 rfl), (fun _ h => by cases h)⟩)⟩)⟩) rfl (Nat.le_of_ble_eq_true rfl) rfl ?_)
            intro wd353 hL
            refine OW.cons (OP.val (v := (.int .i64 x342.2)) rfl (x_assign) ?_)
            refine OW.nil ?_
            refine CW.seq ?_
            refine CW.seqJ (fun (s_j2 : Bool) (F : Fr) (w : World) => F 7 = (.pointer (some ⟨b53, 0, none⟩)) ∧ F 11 = (.pointer (some ⟨b330, 0, none⟩)) ∧ F 106 = (.bool s_j2) ∧ Hp w0 [Ent.blk b352 56 #[(.int .i64 x342.1.Boats), v345, v347], Ent.own 61 S344 v345 x342.1.Points, Ent.own 61 S346 v347 x342.1.Codes, Ent.blk b340 31 #[(.int .i64 x332.1.Boats), (.int .i64 x332.1.Scheme), v335], Ent.own 46 S334 v335 x332.1.Races, Ent.blk b330 56 #[(.int .i64 x320.1.Boats), v323, v325], Ent.own 61 S322 v323 x320.1.Points, Ent.own 61 S324 v325 x320.1.Codes, Ent.blk b53 56 #[(.int .i64 x43.1.Boats), v46, v48], Ent.own 61 S45 v46 x43.1.Points, Ent.own 61 S47 v48 x43.1.Codes, Ent.own 46 S35 v36 x33.1.Races, Ent.blk b31 56 #[(.int .i64 x21.1.Boats), v24, v26], Ent.own 61 S23 v24 x21.1.Points, Ent.own 61 S25 v26 x21.1.Codes, Ent.blk b19 31 #[(.int .i64 x33.1.Boats), (.int .i64 x33.1.Scheme), v36], Ent.snap w0 w0.heap.size] w) (fun s_j2 => M.laws_FnPenalizedTable_j2 x43 x320 s_j2 = some r) ?_ ?_
            · refine CW.regionL ?_
              refine OW.cons (OP.val (v := (.int .i64 x320.2)) rfl (x_move) ?_)
              refine OW.cons (OP.val (v := (.bool (x320.2 != 0))) rfl (x_neq rfl rfl) ?_)
              refine OW.cons (OP.val (v := (.bool (x320.2 != 0))) rfl (x_move) ?_)
              refine ifB_elim hm (fun hb1063 hm => ?_) (fun hb1063 hm => ?_)
              · refine OW.cons (OP.no' rfl rfl hb1063 rfl ?_)
                refine OW.cons (OP.no' rfl rfl hb1063 rfl ?_)
                refine OW.cons (OP.val (v := (.bool true)) rfl (x_pickT' rfl hb1063 rfl) ?_)
                refine OW.cons (OP.val (v := (.bool true)) rfl (x_move) ?_)
                refine OW.cons (OP.no' rfl rfl rfl rfl ?_)
                refine OW.cons (OP.no' rfl rfl rfl rfl ?_)
                refine OW.cons (OP.val (v := (.bool true)) rfl (x_pickT' rfl rfl rfl) ?_)
                refine OW.cons (OP.val (v := (.bool true)) rfl (x_move) ?_)
                refine OW.cons (OP.no' rfl rfl rfl rfl ?_)
                refine OW.cons (OP.no' rfl rfl rfl rfl ?_)
                refine OW.cons (OP.no' rfl rfl rfl rfl ?_)
                refine OW.cons (OP.no' rfl rfl rfl rfl ?_)
                refine OW.cons (OP.val (v := (.bool true)) rfl (x_pickT' rfl rfl rfl) ?_)
                refine OW.nil ?_
                have hL := hL.sel [0, 1, 2, 3, 4, 5, 6, 7, 9, 10, 11, 12, 14, 15, 16, 17, 18] (by decide) rfl
                exact ⟨true, hm, ⟨f317, rfl, rfl, hL⟩⟩
              · refine OW.cons (OP.yes' rfl rfl hb1063 (OP.val (v := (.int .i64 x332.2)) rfl (x_move) ?_))
                refine OW.cons (OP.yes' rfl rfl hb1063 (OP.val (v := (.bool (x332.2 != 0))) rfl (x_neq rfl rfl) ?_))
                refine OW.cons (OP.val (v := (.bool (x332.2 != 0))) rfl (x_pickF' rfl hb1063 rfl) ?_)
                refine OW.cons (OP.val (v := (.bool (x332.2 != 0))) rfl (x_move) ?_)
                refine ifB_elim hm (fun hb1064 hm => ?_) (fun hb1064 hm => ?_)
                · refine OW.cons (OP.no' rfl rfl hb1064 rfl ?_)
                  refine OW.cons (OP.no' rfl rfl hb1064 rfl ?_)
                  refine OW.cons (OP.val (v := (.bool true)) rfl (x_pickT' rfl hb1064 rfl) ?_)
                  refine OW.cons (OP.val (v := (.bool true)) rfl (x_move) ?_)
                  refine OW.cons (OP.no' rfl rfl rfl rfl ?_)
                  refine OW.cons (OP.no' rfl rfl rfl rfl ?_)
                  refine OW.cons (OP.no' rfl rfl rfl rfl ?_)
                  refine OW.cons (OP.no' rfl rfl rfl rfl ?_)
                  refine OW.cons (OP.val (v := (.bool true)) rfl (x_pickT' rfl rfl rfl) ?_)
                  refine OW.nil ?_
                  have hL := hL.sel [0, 1, 2, 3, 4, 5, 6, 7, 9, 10, 11, 12, 14, 15, 16, 17, 18] (by decide) rfl
                  exact ⟨true, hm, ⟨f317, rfl, rfl, hL⟩⟩
                · refine OW.cons (OP.yes' rfl rfl hb1064 (OP.val (v := (.int .i64 x342.2)) rfl (x_move) ?_))
                  refine OW.cons (OP.yes' rfl rfl hb1064 (OP.val (v := (.bool (x342.2 != 0))) rfl (x_neq rfl rfl) ?_))
                  refine OW.cons (OP.val (v := (.bool (x342.2 != 0))) rfl (x_pickF' rfl hb1064 rfl) ?_)
                  refine OW.cons (OP.val (v := (.bool (x342.2 != 0))) rfl (x_move) ?_)
                  refine ifB_elim hm (fun hb1065 hm => ?_) (fun hb1065 hm => ?_)
                  · refine OW.cons (OP.no' rfl rfl hb1065 rfl ?_)
                    refine OW.cons (OP.no' rfl rfl hb1065 rfl ?_)
                    refine OW.cons (OP.no' rfl rfl hb1065 rfl ?_)
                    refine OW.cons (OP.no' rfl rfl hb1065 rfl ?_)
                    refine OW.cons (OP.val (v := (.bool true)) rfl (x_pickT' rfl hb1065 rfl) ?_)
                    refine OW.nil ?_
                    have hL := hL.sel [0, 1, 2, 3, 4, 5, 6, 7, 9, 10, 11, 12, 14, 15, 16, 17, 18] (by decide) rfl
                    exact ⟨true, hm, ⟨f317, rfl, rfl, hL⟩⟩
                  · refine OW.cons (OP.yes' rfl rfl hb1065 (OP.val (v := (.agg #[(.int .i64 x320.1.Boats), v323, v325])) rfl (x_loadN (cs := [(.int .i64 x320.1.Boats), v323, v325]) Try.underlying56 Try_T56 rfl rfl (hL.cellsB 5 rfl (o := 0) (l := [(.int .i64 x320.1.Boats), v323, v325]) (by intro j u hj; exact (by simpa using hj)))) ?_))
                    refine OW.cons (OP.yes' rfl rfl hb1065 (OP.val (v := (.agg #[(.int .i64 x342.1.Boats), v345, v347])) rfl (x_loadN (cs := [(.int .i64 x342.1.Boats), v345, v347]) Try.underlying56 Try_T56 rfl rfl (hL.cellsB 0 rfl (o := 0) (l := [(.int .i64 x342.1.Boats), v345, v347]) (by intro j u hj; exact (by simpa using hj)))) ?_))
                    obtain ⟨x1066, hx1067, hm⟩ := bndE hm
                    refine OW.cons (OP.yes' rfl rfl hb1065 (OP.call rfl (x_call (vs := [(.agg #[(.int .i64 x320.1.Boats), v323, v325]), (.agg #[(.int .i64 x342.1.Boats), v345, v347])]) Try_C28 ⟨rfl, rfl, trivial⟩) (M.laws_w6Tables_ok _ x320.1 (hL.rdO 6 rfl) (hL.rdO 7 rfl) x342.1 (hL.rdO 1 rfl) (hL.rdO 2 rfl) hx1067) ?_))
                    rintro e1068 wd1069 ⟨rfl, hF1070⟩
                    refine ⟨_, rfl, ?_⟩
                    have hL := hL.pushAll hF1070
                    simp only [lA, lB, lC, lD] at hL
                    refine OW.cons (OP.yes' rfl rfl hb1065 (OP.val (v := (.bool (!x1066))) rfl (x_not rfl) ?_))
                    refine OW.cons (OP.val (v := (.bool (!x1066))) rfl (x_pickF' rfl hb1065 rfl) ?_)
                    refine OW.nil ?_
                    have hL := hL.sel [0, 1, 2, 3, 4, 5, 6, 7, 9, 10, 11, 12, 14, 15, 16, 17, 18] (by decide) rfl
                    exact ⟨!x1066, hm, ⟨f317, rfl, rfl, hL⟩⟩
            · intro s_j2 F362 wd363 hJ hm
              unfold M.laws_FnPenalizedTable_j2 at hm
              obtain ⟨f364, f365, f366, hL⟩ := hJ
              refine CW.condM (t := s_j2) f366 hm (fun hb367 hm => ?_) (fun hb367 hm => ?_)
              · refine CW.seq ?_
                refine CW.regionL ?_
                refine OW.cons (OP.val (v := (.bool false)) rfl (x_assign) ?_)
                refine OW.nil ?_
                refine CW.ret ?_
                obtain rfl := Option.some.inj hm
                exact RR1 rfl rfl ⟨rfl, hL.fresh 16 rfl [] (by decide) (by decide) rfl⟩
              · refine CW.skip ?_
                refine CW.seq ?_
                refine CW.seq ?_
                refine CW.regionL ?_
                refine OW.cons (OP.val (v := (.int .i64 0)) rfl (x_assign) ?_)
                refine OW.nil ?_
                obtain ⟨o824, ho825, hm⟩ := bndE hm
                refine CW.loopB (fun (s_l2 : Int) (F : Fr) (w : World) => F 7 = (.pointer (some ⟨b53, 0, none⟩)) ∧ F 11 = (.pointer (some ⟨b330, 0, none⟩)) ∧ F 17 = (.int .i64 s_l2) ∧ Hp w0 [Ent.blk b352 56 #[(.int .i64 x342.1.Boats), v345, v347], Ent.own 61 S344 v345 x342.1.Points, Ent.own 61 S346 v347 x342.1.Codes, Ent.blk b340 31 #[(.int .i64 x332.1.Boats), (.int .i64 x332.1.Scheme), v335], Ent.own 46 S334 v335 x332.1.Races, Ent.blk b330 56 #[(.int .i64 x320.1.Boats), v323, v325], Ent.own 61 S322 v323 x320.1.Points, Ent.own 61 S324 v325 x320.1.Codes, Ent.blk b53 56 #[(.int .i64 x43.1.Boats), v46, v48], Ent.own 61 S45 v46 x43.1.Points, Ent.own 61 S47 v48 x43.1.Codes, Ent.own 46 S35 v36 x33.1.Races, Ent.blk b31 56 #[(.int .i64 x21.1.Boats), v24, v26], Ent.own 61 S23 v24 x21.1.Points, Ent.own 61 S25 v26 x21.1.Codes, Ent.blk b19 31 #[(.int .i64 x33.1.Boats), (.int .i64 x33.1.Scheme), v36], Ent.snap w0 w0.heap.size] w) (fun o => outc o (fun x => some x) (fun s => M.laws_FnPenalizedTable_a2 s) = some r) ho825 hm ⟨f364, f365, rfl, hL⟩ ?_ ?_
                · intro s_l2 F826 wd827 hJ hm
                  have hm := outcE hm
                  have hm : M.laws_FnPenalizedTable_a2 s_l2 = some r := hm
                  unfold M.laws_FnPenalizedTable_a2 at hm
                  obtain ⟨f828, f829, f830, hL⟩ := hJ
                  refine CW.seq ?_
                  refine CW.regionL ?_
                  refine OW.cons (OP.val (v := (.bool true)) rfl (x_assign) ?_)
                  refine OW.nil ?_
                  refine CW.ret ?_
                  obtain rfl := Option.some.inj hm
                  exact RR1 rfl rfl ⟨rfl, hL.fresh 16 rfl [] (by decide) (by decide) rfl⟩
                · intro s_l2 F831 wd832 t822 hJ hm hr823
                  unfold M.laws_FnPenalizedTable_l2 at hm
                  obtain ⟨f833, f834, f835, hL⟩ := hJ
                  refine CW.seq ?_
                  refine CW.seq ?_
                  refine CW.regionL ?_
                  refine OW.cons (OP.val (v := (.int .i64 s_l2)) rfl (x_mv f835) ?_)
                  refine OW.cons (OP.val (v := (.pointer (some ⟨b330, 1, none⟩))) rfl (x_fieldAddr (fsz := 1) 0 1 1 Try.underlying56 rfl Try_T54 rfl f834 rfl) ?_)
                  refine OW.cons (OP.val (v := v323) rfl (x_load1 Try.underlying54 rfl rfl (hL.cellB 5 rfl rfl)) ?_)
                  refine OW.cons (OP.val (v := (.int .i64 (x320.1.Points.length : Int))) rfl (x_lenR Try.underlying54 rfl (hL.rdO 6 rfl)) ?_)
                  refine OW.cons (OP.val (v := (.bool (decide (s_l2 < (x320.1.Points.length : Int))))) rfl (x_lss rfl rfl) ?_)
                  refine OW.nil ?_
                  refine CW.condM (t := decide (s_l2 < (x320.1.Points.length : Int))) rfl hm (fun hb836 hm => ?_) (fun hb836 hm => ?_)
                  · refine CW.skip ?_
                    refine CW.seq ?_
                    refine CW.block ?_
                    refine CW.seq ?_
                    refine CW.regionL ?_
                    refine OW.cons (OP.val (v := (.int .i64 0)) rfl (x_assign) ?_)
                    refine OW.nil ?_
                    obtain ⟨o979, ho980, hm⟩ := bndE hm
                    refine CW.loopB (fun (s_l3 : Int) (F : Fr) (w : World) => F 7 = (.pointer (some ⟨b53, 0, none⟩)) ∧ F 11 = (.pointer (some ⟨b330, 0, none⟩)) ∧ F 17 = (.int .i64 s_l2) ∧ F 18 = (.int .i64 s_l3) ∧ Hp w0 [Ent.blk b352 56 #[(.int .i64 x342.1.Boats), v345, v347], Ent.own 61 S344 v345 x342.1.Points, Ent.own 61 S346 v347 x342.1.Codes, Ent.blk b340 31 #[(.int .i64 x332.1.Boats), (.int .i64 x332.1.Scheme), v335], Ent.own 46 S334 v335 x332.1.Races, Ent.blk b330 56 #[(.int .i64 x320.1.Boats), v323, v325], Ent.own 61 S322 v323 x320.1.Points, Ent.own 61 S324 v325 x320.1.Codes, Ent.blk b53 56 #[(.int .i64 x43.1.Boats), v46, v48], Ent.own 61 S45 v46 x43.1.Points, Ent.own 61 S47 v48 x43.1.Codes, Ent.own 46 S35 v36 x33.1.Races, Ent.blk b31 56 #[(.int .i64 x21.1.Boats), v24, v26], Ent.own 61 S23 v24 x21.1.Points, Ent.own 61 S25 v26 x21.1.Codes, Ent.blk b19 31 #[(.int .i64 x33.1.Boats), (.int .i64 x33.1.Scheme), v36], Ent.snap w0 w0.heap.size] w) (fun o => outc o (fun x => some (.ret x)) (fun s => M.laws_FnPenalizedTable_a3 s_l2 s) = some t822) ho980 hm ⟨f833, f834, f835, rfl, hL⟩ ?_ ?_
                    · intro s_l3 F981 wd982 hJ hm
                      have hm := outcE hm
                      have hm : M.laws_FnPenalizedTable_a3 s_l2 s_l3 = some t822 := hm
                      unfold M.laws_FnPenalizedTable_a3 at hm
                      obtain ⟨f983, f984, f985, f986, hL⟩ := hJ
                      refine CW.regionL ?_
                      refine OW.cons (OP.val (v := (.int .i64 s_l2)) rfl (x_mv f985) ?_)
                      refine OW.cons (OP.val (v := (.int .i64 (w64 (s_l2 + 1)))) rfl (x_add rfl rfl) ?_)
                      refine OW.cons (OP.val (v := (.int .i64 (w64 (s_l2 + 1)))) rfl (x_assign) ?_)
                      refine OW.nil ?_
                      obtain rfl := Option.some.inj hm
                      exact ⟨_, rfl, ⟨f983, f984, rfl, hL⟩⟩
                    · intro s_l3 F987 wd988 t977 hJ hm hr978
                      unfold M.laws_FnPenalizedTable_l3 at hm
                      obtain ⟨f989, f990, f991, f992, hL⟩ := hJ
                      refine CW.seq ?_
                      refine CW.seq ?_
                      refine CW.regionL ?_
                      refine OW.cons (OP.val (v := (.int .i64 s_l3)) rfl (x_mv f992) ?_)
                      refine OW.cons (OP.val (v := (.pointer (some ⟨b330, 1, none⟩))) rfl (x_fieldAddr (fsz := 1) 0 1 1 Try.underlying56 rfl Try_T54 rfl f990 rfl) ?_)
                      refine OW.cons (OP.val (v := v323) rfl (x_load1 Try.underlying54 rfl rfl (hL.cellB 5 rfl rfl)) ?_)
                      refine OW.cons (OP.val (v := (.int .i64 s_l2)) rfl (x_mv f991) ?_)
                      obtain ⟨wz993, hL, ho994⟩ := hL.freeze 6 rfl
                      simp only [lC, lD] at hL
                      obtain ⟨x995, ha996, hm⟩ := bndE hm
                      obtain ⟨hz997, ha1005⟩ := idxE ha996
                      obtain ⟨b998, q999, v1000, hix1001, hs1002, hc1003, hr1004⟩ := rdN_at ho994.1.rdL hz997 ha1005
                      refine OW.cons (OP.val (v := (.pointer (some ⟨b998, q999, none⟩))) rfl (x_ix Try.underlying54 Try_T61 rfl rfl hix1001) ?_)
                      refine OW.cons (OP.val (v := v1000) rfl (x_load1 Try.underlying61 rfl rfl (hL.cellF 6 rfl hs1002 hc1003)) ?_)
                      refine OW.cons (OP.val (v := (.int .i64 (x995.length : Int))) rfl (x_lenR Try.underlying61 rfl (hL.rdF 6 rfl hr1004)) ?_)
                      refine OW.cons (OP.val (v := (.bool (decide (s_l3 < (x995.length : Int))))) rfl (x_lss rfl rfl) ?_)
                      refine OW.nil ?_
                      refine CW.condM (t := decide (s_l3 < (x995.length : Int))) rfl hm (fun hb1006 hm => ?_) (fun hb1006 hm => ?_)
                      · refine CW.skip ?_
                        refine CW.seq ?_
                        refine CW.block ?_
                        refine CW.seq ?_
                        obtain ⟨wz1007, hL, ho1008⟩ := hL.freeze 1 rfl
                        simp only [lC, lD] at hL
                        obtain ⟨wz1009, hL, ho1010⟩ := hL.freeze 2 rfl
                        simp only [lC, lD] at hL
                        obtain ⟨wz1011, hL, ho1012⟩ := hL.freeze 4 rfl
                        simp only [lC, lD] at hL
                        obtain ⟨wz1013, hL, ho1014⟩ := hL.freeze 7 rfl
                        simp only [lC, lD] at hL
                        obtain ⟨wz1015, hL, ho1016⟩ := hL.freeze 9 rfl
                        simp only [lC, lD] at hL
                        obtain ⟨wz1017, hL, ho1018⟩ := hL.freeze 10 rfl
                        simp only [lC, lD] at hL
                        obtain ⟨wz1019, hL, ho1020⟩ := hL.freeze 11 rfl
                        simp only [lC, lD] at hL
                        obtain ⟨wz1021, hL, ho1022⟩ := hL.freeze 13 rfl
                        simp only [lC, lD] at hL
                        obtain ⟨wz1023, hL, ho1024⟩ := hL.freeze 14 rfl
                        simp only [lC, lD] at hL
                        refine CW.draw Try_mixed ?_
                        have hL := hL.call (Mod.drew _)
                        refine DW.pre (fuel := 0) (fin := ((((((((((((((((((Array.replicate 17 false).setIfInBounds 0 true).setIfInBounds 1 true).setIfInBounds 2 true).setIfInBounds 3 true).setIfInBounds 4 true).setIfInBounds 5 true).setIfInBounds 6 true).setIfInBounds 7 true).setIfInBounds 8 true).setIfInBounds 9 true).setIfInBounds 10 true).setIfInBounds 11 true).setIfInBounds 12 true).setIfInBounds 13 true).setIfInBounds 14 true).setIfInBounds 15 true).setIfInBounds 16 true)) (C := fun w' => Mod None_ _ w') [0, 1, 2, 3, 4, 5, 6, 7, 8, 9, 10, 11, 12, 13, 14, 15, 16] (Mod.refl _ _) (by kernel_rfl) (by kernel_rfl) ?_
                        refine QW.cons rfl (QP.val (v := (.pointer (some ⟨b53, 1, none⟩))) rfl (fun w' hm' => x_fieldAddr (fsz := 1) 0 1 1 Try.underlying56 rfl Try_T54 rfl f989 rfl) ?_)
                        refine QW.cons rfl (QP.val (v := v46) rfl (fun w' hm' => x_load1 Try.underlying54 rfl rfl ((hL.call hm').cellB 8 rfl rfl)) ?_)
                        refine QW.cons rfl (QP.val (v := (.int .i64 s_l2)) rfl (fun w' hm' => x_mv f991) ?_)
                        obtain ⟨x1025, ha1026, hm⟩ := bndE hm
                        obtain ⟨hz1027, ha1035⟩ := idxE ha1026
                        obtain ⟨b1028, q1029, v1030, hix1031, hs1032, hc1033, hr1034⟩ := rdN_at ho1016.1.rdL hz1027 ha1035
                        refine QW.cons rfl (QP.val (v := (.pointer (some ⟨b1028, q1029, none⟩))) rfl (fun w' hm' => x_ix Try.underlying54 Try_T61 rfl rfl hix1031) ?_)
                        refine QW.cons rfl (QP.val (v := v1030) rfl (fun w' hm' => x_load1 Try.underlying61 rfl rfl ((hL.call hm').cellF 9 rfl hs1032 hc1033)) ?_)
                        refine QW.cons rfl (QP.val (v := (.int .i64 s_l3)) rfl (fun w' hm' => x_mv f992) ?_)
                        obtain ⟨x1036, ha1037, hm⟩ := bndE hm
                        obtain ⟨hz1038, ha1042⟩ := idxE ha1037
                        obtain ⟨b1039, q1040, hix1041⟩ := rdL_ix (hL.rdF 9 rfl hr1034) hz1038 ha1042
                        refine QW.cons rfl (QP.val (v := (.pointer (some ⟨b1039, q1040, none⟩))) rfl (fun w' hm' => x_ix Try.underlying61 Try_T2 rfl rfl hix1041) ?_)
                        refine QW.cons rfl (QP.val (v := (.int .i64 x1036)) rfl (fun w' hm' => x_load1 Try.underlying2 rfl rfl (rdF_cells ((hL.call hm').rdF 9 rfl hr1034) hix1041 ha1042 0 _ rfl)) ?_)
                        refine QW.cons rfl (QP.val (v := (.pointer (some ⟨b330, 1, none⟩))) rfl (fun w' hm' => x_fieldAddr (fsz := 1) 0 1 1 Try.underlying56 rfl Try_T54 rfl f990 rfl) ?_)
                        refine QW.cons rfl (QP.val (v := v323) rfl (fun w' hm' => x_load1 Try.underlying54 rfl rfl ((hL.call hm').cellB 5 rfl rfl)) ?_)
                        refine QW.cons rfl (QP.val (v := (.int .i64 s_l2)) rfl (fun w' hm' => x_mv f991) ?_)
                        obtain ⟨x1043, ha1044, hm⟩ := bndE hm
                        obtain ⟨hz1045, ha1053⟩ := idxE ha1044
                        obtain ⟨b1046, q1047, v1048, hix1049, hs1050, hc1051, hr1052⟩ := rdN_at ho994.1.rdL hz1045 ha1053
                        refine QW.cons rfl (QP.val (v := (.pointer (some ⟨b1046, q1047, none⟩))) rfl (fun w' hm' => x_ix Try.underlying54 Try_T61 rfl rfl hix1049) ?_)
                        refine QW.cons rfl (QP.val (v := v1048) rfl (fun w' hm' => x_load1 Try.underlying61 rfl rfl ((hL.call hm').cellF 6 rfl hs1050 hc1051)) ?_)
                        refine QW.cons rfl (QP.val (v := (.int .i64 s_l3)) rfl (fun w' hm' => x_mv f992) ?_)
                        obtain ⟨x1054, ha1055, hm⟩ := bndE hm
                        obtain ⟨hz1056, ha1060⟩ := idxE ha1055
                        obtain ⟨b1057, q1058, hix1059⟩ := rdL_ix (hL.rdF 6 rfl hr1052) hz1056 ha1060
                        refine QW.cons rfl (QP.val (v := (.pointer (some ⟨b1057, q1058, none⟩))) rfl (fun w' hm' => x_ix Try.underlying61 Try_T2 rfl rfl hix1059) ?_)
                        refine QW.cons rfl (QP.val (v := (.int .i64 x1054)) rfl (fun w' hm' => x_load1 Try.underlying2 rfl rfl (rdF_cells ((hL.call hm').rdF 6 rfl hr1052) hix1059 ha1060 0 _ rfl)) ?_)
                        refine QW.cons rfl (QP.val (v := (.bool (decide (x1036 < x1054)))) rfl (fun w' hm' => x_lss rfl rfl) ?_)
                        refine QW.nil ?_
                        intro wd1061 hmod
                        have hL := hL.call hmod
                        refine DW.done (by kernel_rfl) ?_
                        refine CW.condM (t := decide (x1036 < x1054)) rfl hm (fun hb1062 hm => ?_) (fun hb1062 hm => ?_)
                        · refine CW.seq ?_
                          refine CW.regionL ?_
                          refine OW.cons (OP.val (v := (.bool false)) rfl (x_assign) ?_)
                          refine OW.nil ?_
                          refine CW.ret ?_
                          have hL := hL.thaw 1 rfl ho1008
                          have hL := hL.thaw 2 rfl ho1010
                          have hL := hL.thaw 4 rfl ho1012
                          have hL := hL.thaw 6 rfl ho994
                          have hL := hL.thaw 7 rfl ho1014
                          have hL := hL.thaw 9 rfl ho1016
                          have hL := hL.thaw 10 rfl ho1018
                          have hL := hL.thaw 11 rfl ho1020
                          have hL := hL.thaw 13 rfl ho1022
                          have hL := hL.thaw 14 rfl ho1024
                          obtain rfl := Option.some.inj hm
                          have hm := hr978 _ rfl
                          obtain rfl := Option.some.inj hm
                          have hm := hr823 _ rfl
                          obtain rfl := Option.some.inj hm
                          exact RR1 rfl rfl ⟨rfl, hL.fresh 16 rfl [] (by decide) (by decide) rfl⟩
                        · refine CW.skip ?_
                          refine CW.regionL ?_
                          refine OW.cons (OP.val (v := (.int .i64 s_l3)) rfl (x_mv f992) ?_)
                          refine OW.cons (OP.val (v := (.int .i64 (w64 (s_l3 + 1)))) rfl (x_add rfl rfl) ?_)
                          refine OW.cons (OP.val (v := (.int .i64 (w64 (s_l3 + 1)))) rfl (x_assign) ?_)
                          refine OW.nil ?_
                          have hL := hL.thaw 1 rfl ho1008
                          have hL := hL.thaw 2 rfl ho1010
                          have hL := hL.thaw 4 rfl ho1012
                          have hL := hL.thaw 6 rfl ho994
                          have hL := hL.thaw 7 rfl ho1014
                          have hL := hL.thaw 9 rfl ho1016
                          have hL := hL.thaw 10 rfl ho1018
                          have hL := hL.thaw 11 rfl ho1020
                          have hL := hL.thaw 13 rfl ho1022
                          have hL := hL.thaw 14 rfl ho1024
                          obtain rfl := Option.some.inj hm
                          exact ⟨_, rfl, ⟨f989, f990, f991, rfl, hL⟩⟩
                      · refine CW.exit ?_
                        refine XJ.hit ?_
                        have hL := hL.thaw 6 rfl ho994
                        obtain rfl := Option.some.inj hm
                        exact ⟨_, rfl, ⟨f989, f990, f991, f992, hL⟩⟩
                  · refine CW.exit ?_
                    refine XJ.hit ?_
                    obtain rfl := Option.some.inj hm
                    exact ⟨_, rfl, ⟨f833, f834, f835, hL⟩⟩
          · intro s_l1 F1071 wd1072 t309 hJ hm hr310
            unfold M.laws_FnPenalizedTable_l1 at hm
            obtain ⟨v307, S308, f1073, f1074, f1075, f1076, f1077, hL⟩ := hJ
            refine CW.seq ?_
            refine CW.seq ?_
            refine CW.regionL ?_
            refine OW.cons (OP.val (v := (.int .i64 s_l1.2)) rfl (x_mv f1077) ?_)
            refine OW.cons (OP.val (v := v38) rfl (x_mv f1074) ?_)
            refine OW.cons (OP.val (v := (.int .i64 (x33.2.length : Int))) rfl (x_lenR Try.underlying33 rfl (hL.rdO 5 rfl)) ?_)
            refine OW.cons (OP.val (v := (.bool (decide (s_l1.2 < (x33.2.length : Int))))) rfl (x_lss rfl rfl) ?_)
            refine OW.nil ?_
            refine CW.condM (t := decide (s_l1.2 < (x33.2.length : Int))) rfl hm (fun hb1078 hm => ?_) (fun hb1078 hm => ?_)
            · refine CW.skip ?_
              refine CW.seqJ (fun (s_j3 : (List Penalty)) (F : Fr) (w : World) => ∃ (v1132 : Value) (S1133 : Nat → Prop), F 3 = (.pointer (some ⟨b19, 0, none⟩)) ∧ F 4 = v38 ∧ F 7 = (.pointer (some ⟨b53, 0, none⟩)) ∧ F 9 = v1132 ∧ F 10 = (.int .i64 s_l1.2) ∧ Hp w0 [Ent.own 48 S1133 v1132 s_j3, Ent.blk b53 56 #[(.int .i64 x43.1.Boats), v46, v48], Ent.own 61 S45 v46 x43.1.Points, Ent.own 61 S47 v48 x43.1.Codes, Ent.own 46 S35 v36 x33.1.Races, Ent.own 48 S37 v38 x33.2, Ent.blk b31 56 #[(.int .i64 x21.1.Boats), v24, v26], Ent.own 61 S23 v24 x21.1.Points, Ent.own 61 S25 v26 x21.1.Codes, Ent.blk b19 31 #[(.int .i64 x33.1.Boats), (.int .i64 x33.1.Scheme), v36], Ent.snap w0 w0.heap.size] w) (fun s_j3 => M.laws_FnPenalizedTable_j3 s_l1 s_j3 = some t309) ?_ ?_
              · refine CW.blockJ (fun (s_j4 : (List Penalty)) (F : Fr) (w : World) => ∃ (v1163 : Value) (S1164 : Nat → Prop), F 3 = (.pointer (some ⟨b19, 0, none⟩)) ∧ F 4 = v38 ∧ F 7 = (.pointer (some ⟨b53, 0, none⟩)) ∧ F 9 = v1163 ∧ F 10 = (.int .i64 s_l1.2) ∧ Hp w0 [Ent.own 48 S1164 v1163 s_j4, Ent.blk b53 56 #[(.int .i64 x43.1.Boats), v46, v48], Ent.own 61 S45 v46 x43.1.Points, Ent.own 61 S47 v48 x43.1.Codes, Ent.own 46 S35 v36 x33.1.Races, Ent.own 48 S37 v38 x33.2, Ent.blk b31 56 #[(.int .i64 x21.1.Boats), v24, v26], Ent.own 61 S23 v24 x21.1.Points, Ent.own 61 S25 v26 x21.1.Codes, Ent.blk b19 31 #[(.int .i64 x33.1.Boats), (.int .i64 x33.1.Scheme), v36], Ent.snap w0 w0.heap.size] w) (fun s_j4 => M.laws_FnPenalizedTable_j4 s_l1 s_j4 = some t309) ?_ ?_
                · refine CW.seq ?_
                  refine CW.regionL ?_
                  refine OW.cons (OP.val (v := v38) rfl (x_mv f1074) ?_)
                  refine OW.cons (OP.val (v := (.int .i64 s_l1.2)) rfl (x_mv f1077) ?_)
                  obtain ⟨x1172, ha1173, hm⟩ := bndE hm
                  obtain ⟨hz1174, ha1178⟩ := idxE ha1173
                  obtain ⟨b1175, q1176, hix1177⟩ := rdL_ix (hL.rdO 5 rfl) hz1174 ha1178
                  refine OW.cons (OP.val (v := (.pointer (some ⟨b1175, q1176, none⟩))) rfl (x_ix Try.underlying33 Try_T48 rfl rfl hix1177) ?_)
                  refine OW.cons (OP.val (v := (.pointer (some ⟨b1175, q1176 + 2, none⟩))) rfl (x_fieldAddr (fsz := 1) q1176 2 (q1176 + 2) Try.underlying48 rfl Try_T2 rfl rfl rfl) ?_)
                  refine OW.cons (OP.val (v := (.int .i64 x1172.Kind)) rfl (x_load1 Try.underlying2 rfl rfl (rdF_cells (hL.rdO 5 rfl) hix1177 ha1178 2 _ rfl)) ?_)
                  refine OW.cons (OP.val (v := (.bool (x1172.Kind != 3))) rfl (x_neq rfl rfl) ?_)
                  refine OW.nil ?_
                  refine CW.condM (t := x1172.Kind != 3) rfl hm (fun hb1179 hm => ?_) (fun hb1179 hm => ?_)
                  · refine CW.regionL ?_
                    refine OW.cons (OP.val (v := v307) rfl (x_mv f1076) ?_)
                    refine OW.cons (OP.val (v := v38) rfl (x_mv f1074) ?_)
                    refine OW.cons (OP.val (v := (.int .i64 s_l1.2)) rfl (x_mv f1077) ?_)
                    obtain ⟨x1180, ha1181, hm⟩ := bndE hm
                    obtain ⟨hz1182, ha1186⟩ := idxE ha1181
                    obtain ⟨b1183, q1184, hix1185⟩ := rdL_ix (hL.rdO 5 rfl) hz1182 ha1186
                    refine OW.cons (OP.val (v := (.pointer (some ⟨b1183, q1184, none⟩))) rfl (x_ix Try.underlying33 Try_T48 rfl rfl hix1185) ?_)
                    refine OW.cons (OP.val (v := (.agg #[(.int .i64 x1180.Race), (.int .i64 x1180.Boat), (.int .i64 x1180.Kind), (.int .i64 x1180.Value)])) rfl (x_loadN (cs := [(.int .i64 x1180.Race), (.int .i64 x1180.Boat), (.int .i64 x1180.Kind), (.int .i64 x1180.Value)]) Try.underlying48 Try_T48 rfl rfl (rdF_cells (hL.rdO 5 rfl) hix1185 ha1186)) ?_)
                    refine OW.cons (S_lit ([x1180] : List Penalty) hL Try.underlying33 Try_T48 rfl (by decide) (by first | (simp [Instr.fill, madeCells, Value.cells, ev, upd, Flat.enc, Flat.sz]; done) | rfl | kernel_rfl) rfl rfl ?_)
                    intro wd1187 v1188 S1189 hL
                    obtain ⟨hc1193, hm⟩ := chkE hm
                    refine OW.cons (S_append (ys := ([x1180] : List Penalty)) hL 1 rfl Try.underlying33 Try_T48 rfl rfl rfl (hL.rdO 0 rfl) hc1193 (by decide) rfl ?_)
                    intro wd1190 v1191 S1192 hL
                    refine OW.cons (OP.val (v := v1191) rfl (x_assign) ?_)
                    refine OW.nil ?_
                    have hL := hL.sel [1, 2, 3, 4, 5, 6, 7, 8, 9, 10, 11] (by decide) rfl
                    exact ⟨s_l1.1 ++ ([x1180] : List Penalty), hm, ⟨v1191, S1192, f1073, f1074, f1075, rfl, f1077, hL⟩⟩
                  · refine CW.skip ?_
                    exact ⟨s_l1.1, hm, ⟨v307, S308, f1073, f1074, f1075, f1076, f1077, hL⟩⟩
                · intro s_j4 F1165 wd1166 hJ hm
                  unfold M.laws_FnPenalizedTable_j4 at hm
                  obtain ⟨v1163, S1164, f1167, f1168, f1169, f1170, f1171, hL⟩ := hJ
                  exact ⟨s_j4, hm, ⟨v1163, S1164, f1167, f1168, f1169, f1170, f1171, hL⟩⟩
              · intro s_j3 F1134 wd1135 hJ hm
                unfold M.laws_FnPenalizedTable_j3 at hm
                obtain ⟨v1132, S1133, f1136, f1137, f1138, f1139, f1140, hL⟩ := hJ
                refine CW.regionL ?_
                refine OW.cons (OP.val (v := (.int .i64 s_l1.2)) rfl (x_mv f1140) ?_)
                refine OW.cons (OP.val (v := (.int .i64 (w64 (s_l1.2 + 1)))) rfl (x_add rfl rfl) ?_)
                refine OW.cons (OP.val (v := (.int .i64 (w64 (s_l1.2 + 1)))) rfl (x_assign) ?_)
                refine OW.nil ?_
                obtain rfl := Option.some.inj hm
                exact ⟨_, rfl, ⟨v1132, S1133, f1136, f1137, f1138, f1139, rfl, hL⟩⟩
            · refine CW.exit ?_
              refine XJ.hit ?_
              obtain rfl := Option.some.inj hm
              exact ⟨_, rfl, ⟨v307, S308, f1073, f1074, f1075, f1076, f1077, hL⟩⟩

end Go.Proofs.Ytgelmamcinlahaa
