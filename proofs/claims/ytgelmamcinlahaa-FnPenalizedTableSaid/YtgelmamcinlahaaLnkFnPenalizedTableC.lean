/- Links: each Go function returns what its model computes and leaves what was there. Printed by my generator. -/
import Derived.Test.YtgelmamcinlahaaLnkFnPenalizedTableB
namespace Go.Proofs.Ytgelmamcinlahaa
set_option maxRecDepth 10000
open Go Go.RowKit Go.ChangeShapes Go.WideShapes
set_option linter.unusedVariables false
set_option linter.unusedSimpArgs false

theorem M.impl_tableOf_ok (w0 : World) (a0 : Series) {v1 : Value} (h2 : rdL (· < w0.heap.size) w0 v1 a0.Races) {r : Table} (hm : M.impl_tableOf a0 = some r) :
    Calls Try.prog 56 #[(.agg #[(.int .i64 a0.Boats), (.int .i64 a0.Scheme), v1])] w0 fun e w' => ∃ (rv0 : Value) (rS0 : Nat → Prop), ∃ (rv1 : Value) (rS1 : Nat → Prop), e = .returned (.agg #[(.int .i64 r.Boats), rv0, rv1]) ∧ Fresh w0 w' [Ent.own 61 rS0 rv0 r.Points, Ent.own 61 rS1 rv1 r.Codes] := by
  unfold M.impl_tableOf at hm
  refine calls_CW (args := [(.agg #[(.int .i64 a0.Boats), (.int .i64 a0.Scheme), v1])]) Try.func56 rfl rfl rfl ?_
  have hL := Hp.start w0
  refine CW.seq ?_
  refine CW.regionL ?_
  refine OW.cons (S_box (cs := #[(.int .i64 a0.Boats), (.int .i64 a0.Scheme), v1]) hL rfl rfl rfl ?_)
  intro wd3 b4 hL
  refine OW.cons (S_alloc (cs := #[(.int .i64 0), (.slice none 0 0), (.slice none 0 0)]) hL Try_T56 rfl rfl ?_)
  intro wd5 b6 hL
  refine OW.nil ?_
  refine CW.seq ?_
  refine CW.regionL ?_
  refine OW.cons (OP.val (v := (.pointer (some ⟨b4, 0, none⟩))) rfl (x_fieldAddr (fsz := 1) 0 0 0 Try.underlying31 rfl Try_T2 rfl rfl rfl) ?_)
  refine OW.cons (OP.val (v := (.int .i64 a0.Boats)) rfl (x_load1 Try.underlying2 rfl rfl (hL.cellB 1 rfl rfl)) ?_)
  refine OW.cons (OP.val (v := (.agg #[(.int .i64 a0.Boats), (.slice none 0 0), (.slice none 0 0)])) rfl (x_build Try_B56 (ps := [(0, (.int .i64 a0.Boats))]) ⟨⟨rfl, rfl⟩, trivial⟩ (by simp [Instr.fill, cells_int, cells_bool, cells_string, cells_agg, cells_slice, cells_pointer])) ?_)
  refine OW.cons (S_alloc (cs := #[(.int .i64 0), (.slice none 0 0), (.slice none 0 0)]) hL Try_T56 rfl rfl ?_)
  intro wd7 b8 hL
  refine OW.cons (S_storeN (l := [(.int .i64 a0.Boats), (.slice none 0 0), (.slice none 0 0)]) (cs' := #[(.int .i64 a0.Boats), (.slice none 0 0), (.slice none 0 0)]) hL 0 rfl Try_T56 rfl rfl (List.forall_mem_cons.2 ⟨rfl, (List.forall_mem_cons.2 ⟨rfl, (List.forall_mem_cons.2 ⟨rfl, (fun _ h => by cases h)⟩)⟩)⟩) rfl (Nat.le_of_ble_eq_true rfl) rfl ?_)
  intro wd9 hL
  refine OW.nil ?_
  refine CW.seq ?_
  refine CW.seq ?_
  refine CW.regionL ?_
  refine OW.cons (OP.val (v := (.pointer (some ⟨b4, 2, none⟩))) rfl (x_fieldAddr (fsz := 1) 0 2 2 Try.underlying31 rfl Try_T29 rfl rfl rfl) ?_)
  refine OW.cons (OP.val (v := v1) rfl (x_load1 Try.underlying29 rfl rfl (hL.cellB 2 rfl rfl)) ?_)
  refine OW.cons (OP.val (v := (.int .i64 (a0.Races.length : Int))) rfl (x_lenR Try.underlying29 rfl (hL.rdS 3 rfl h2)) ?_)
  refine OW.cons (OP.val (v := (.int .i64 0)) rfl (x_move) ?_)
  refine OW.nil ?_
  obtain ⟨o324, ho325, hm⟩ := bndE hm
  have hL := hL.pushNil (List Int) 61
  have hL := hL.pushNil (List Int) 61
  have hL := hL.sel [1, 0, 2, 3, 4, 5] (by decide) rfl
  refine CW.loopB (fun (s_l1 : (List (List Int)) × (List (List Int)) × Int) (F : Fr) (w : World) => ∃ (v318 : Value) (S319 : Nat → Prop) (v320 : Value) (S321 : Nat → Prop), F 1 = (.pointer (some ⟨b4, 0, none⟩)) ∧ F 2 = (.pointer (some ⟨b6, 0, none⟩)) ∧ F 3 = (.pointer (some ⟨b8, 0, none⟩)) ∧ F 13 = v1 ∧ F 14 = (.int .i64 (a0.Races.length : Int)) ∧ F 15 = (.int .i64 s_l1.2.2) ∧ Hp w0 [Ent.own 61 S319 v318 s_l1.1, Ent.own 61 S321 v320 s_l1.2.1, Ent.blk b8 56 #[(.int .i64 a0.Boats), v318, v320], Ent.blk b6 56 #[(.int .i64 0), (.slice none 0 0), (.slice none 0 0)], Ent.blk b4 31 #[(.int .i64 a0.Boats), (.int .i64 a0.Scheme), v1], Ent.snap w0 w0.heap.size] w) (fun o => outc o (fun x => some x) (fun s => M.impl_tableOf_a1 a0 s) = some r) ho325 hm ⟨(.slice none 0 0), None_, (.slice none 0 0), None_, rfl, rfl, rfl, rfl, rfl, rfl, hL⟩ ?_ ?_
  · intro s_l1 F326 wd327 hJ hm
    have hm := outcE hm
    have hm : M.impl_tableOf_a1 a0 s_l1 = some r := hm
    unfold M.impl_tableOf_a1 at hm
    obtain ⟨v318, S319, v320, S321, f328, f329, f330, f331, f332, f333, hL⟩ := hJ
    refine CW.seq ?_
    refine CW.regionL ?_
    refine OW.cons (OP.val (v := (.agg #[(.int .i64 a0.Boats), v318, v320])) rfl (x_loadN (cs := [(.int .i64 a0.Boats), v318, v320]) Try.underlying56 Try_T56 rfl f330 (hL.cellsB 2 rfl (o := 0) (l := [(.int .i64 a0.Boats), v318, v320]) (by intro j u hj; exact (by simpa using hj)))) ?_)
    refine OW.cons (S_storeN (l := [(.int .i64 a0.Boats), v318, v320]) (cs' := #[(.int .i64 a0.Boats), v318, v320]) hL 3 rfl Try_T56 f329 rfl (List.forall_mem_cons.2 ⟨rfl, (List.forall_mem_cons.2 ⟨rdL_one (hL.rdO 0 rfl), (List.forall_mem_cons.2 ⟨rdL_one (hL.rdO 1 rfl), (fun _ h => by cases h)⟩)⟩)⟩) rfl (Nat.le_of_ble_eq_true rfl) rfl ?_)
    intro wd334 hL
    refine OW.nil ?_
    refine CW.ret ?_
    obtain rfl := Option.some.inj hm
    exact RRc rfl f329 (run_loadBlk Try.underlying56 Try_T56 (hL.get 3 rfl) rfl) ⟨v318, S319, v320, S321, rfl, hL.fresh 5 rfl [0, 1] (by decide) (by decide) rfl⟩
  · intro s_l1 F335 wd336 t322 hJ hm hr323
    unfold M.impl_tableOf_l1 at hm
    obtain ⟨v318, S319, v320, S321, f337, f338, f339, f340, f341, f342, hL⟩ := hJ
    refine CW.seq ?_
    refine CW.regionL ?_
    refine OW.cons (OP.val (v := (.bool (decide (s_l1.2.2 < (a0.Races.length : Int))))) rfl (x_lss f342 f341) ?_)
    refine OW.nil ?_
    refine CW.seq ?_
    refine CW.condM (t := decide (s_l1.2.2 < (a0.Races.length : Int))) rfl hm (fun hb343 hm => ?_) (fun hb343 hm => ?_)
    · refine CW.skip ?_
      refine CW.seq ?_
      refine CW.block ?_
      refine CW.seq ?_
      refine CW.regionL ?_
      obtain ⟨x344, ha345, hm⟩ := bndE hm
      obtain ⟨hz346, ha354⟩ := idxE ha345
      obtain ⟨b347, q348, v349, hix350, hs351, hc352, hr353⟩ := rdN_at h2 hz346 ha354
      refine OW.cons (OP.val (v := (.pointer (some ⟨b347, q348, none⟩))) rfl (x_ix Try.underlying29 Try_T46 f340 f342 hix350) ?_)
      refine OW.cons (OP.val (v := (.agg #[v349])) rfl (x_loadN (cs := [v349]) Try.underlying46 Try_T46 rfl rfl (by intro j u hj; match j, hj with | 0, hj => (simp at hj; subst hj; exact (hL.cellS 5 rfl hs351 hc352)))) ?_)
      refine OW.cons (S_alloc (cs := #[(.slice none 0 0)]) hL Try_T46 rfl rfl ?_)
      intro wd355 b356 hL
      refine OW.cons (S_storeN (l := [v349]) (cs' := #[v349]) hL 0 rfl Try_T46 rfl rfl (List.forall_mem_cons.2 ⟨rdL_one (hL.rdS 6 rfl hr353), (fun _ h => by cases h)⟩) rfl (Nat.le_of_ble_eq_true rfl) rfl ?_)
      intro wd357 hL
      refine OW.nil ?_
      refine CW.seq ?_
      refine CW.regionL ?_
      refine OW.cons (S_lit ([] : List Int) hL Try.underlying61 Try_T2 rfl (by decide) (by first | (simp [Instr.fill, madeCells, Value.cells, ev, upd, Flat.enc, Flat.sz]; done) | rfl | kernel_rfl) rfl rfl ?_)
      intro wd358 v359 S360 hL
      refine OW.cons (OP.val (v := v359) rfl (x_assign) ?_)
      refine OW.nil ?_
      refine CW.seq ?_
      refine CW.seq ?_
      refine CW.regionL ?_
      refine OW.cons (OP.val (v := (.pointer (some ⟨b356, 0, none⟩))) rfl (x_fieldAddr (fsz := 1) 0 0 0 Try.underlying46 rfl Try_T44 rfl rfl rfl) ?_)
      refine OW.cons (OP.val (v := v349) rfl (x_load1 Try.underlying44 rfl rfl (hL.cellB 1 rfl rfl)) ?_)
      refine OW.cons (OP.val (v := (.int .i64 (x344.Finishes.length : Int))) rfl (x_lenR Try.underlying44 rfl (hL.rdS 7 rfl hr353)) ?_)
      refine OW.cons (OP.val (v := (.int .i64 0)) rfl (x_move) ?_)
      refine OW.nil ?_
      obtain ⟨o403, ho404, hm⟩ := bndE hm
      refine CW.loopB (fun (s_l2 : (List Int) × Int) (F : Fr) (w : World) => ∃ (v399 : Value) (S400 : Nat → Prop), F 1 = (.pointer (some ⟨b4, 0, none⟩)) ∧ F 2 = (.pointer (some ⟨b6, 0, none⟩)) ∧ F 3 = (.pointer (some ⟨b8, 0, none⟩)) ∧ F 5 = (.pointer (some ⟨b356, 0, none⟩)) ∧ F 6 = v399 ∧ F 13 = v1 ∧ F 14 = (.int .i64 (a0.Races.length : Int)) ∧ F 15 = (.int .i64 s_l1.2.2) ∧ F 21 = v349 ∧ F 22 = (.int .i64 (x344.Finishes.length : Int)) ∧ F 23 = (.int .i64 s_l2.2) ∧ Hp w0 [Ent.own 2 S400 v399 s_l2.1, Ent.blk b356 46 #[v349], Ent.own 61 S319 v318 s_l1.1, Ent.own 61 S321 v320 s_l1.2.1, Ent.blk b8 56 #[(.int .i64 a0.Boats), v318, v320], Ent.blk b6 56 #[(.int .i64 0), (.slice none 0 0), (.slice none 0 0)], Ent.blk b4 31 #[(.int .i64 a0.Boats), (.int .i64 a0.Scheme), v1], Ent.snap w0 w0.heap.size] w) (fun o => outc o (fun x => some (.ret x)) (fun s => M.impl_tableOf_a2 a0 s_l1 x344 s) = some t322) ho404 hm ⟨v359, S360, f337, f338, f339, rfl, rfl, f340, f341, f342, rfl, rfl, rfl, hL⟩ ?_ ?_
      · intro s_l2 F405 wd406 hJ hm
        have hm := outcE hm
        have hm : M.impl_tableOf_a2 a0 s_l1 x344 s_l2 = some t322 := hm
        unfold M.impl_tableOf_a2 at hm
        obtain ⟨v399, S400, f407, f408, f409, f410, f411, f412, f413, f414, f415, f416, f417, hL⟩ := hJ
        refine CW.drawH (fun w' => Hp w0 [Ent.blk b356 46 #[v349], Ent.blk b6 56 #[(.int .i64 0), (.slice none 0 0), (.slice none 0 0)], Ent.blk b4 31 #[(.int .i64 a0.Boats), (.int .i64 a0.Scheme), v1], Ent.snap w0 w0.heap.size] w') Try_mixed ?_
        have hL := hL.call (Mod.drew _)
        have hS := (hL.sel [1, 5, 6, 7] (by decide) rfl)
        refine DH.take 0 rfl (by kernel_rfl) (by kernel_rfl) (by kernel_rfl) rfl rfl hS (YH.val (v := (.pointer (some ⟨b8, 1, none⟩))) (fun w' hS' => x_fieldAddr (fsz := 1) 0 1 1 Try.underlying56 rfl Try_T54 rfl f409 rfl)) ?_
        have hS := (hL.sel [1, 5, 6, 7] (by decide) rfl)
        refine DH.take 2 rfl (by kernel_rfl) (by kernel_rfl) (by kernel_rfl) rfl rfl hS (YH.val (v := (.pointer (some ⟨b356, 0, none⟩))) (fun w' hS' => x_fieldAddr (fsz := 1) 0 0 0 Try.underlying46 rfl Try_T44 rfl f410 rfl)) ?_
        have hS := (hL.sel [1, 5, 6, 7] (by decide) rfl)
        refine DH.take 3 rfl (by kernel_rfl) (by kernel_rfl) (by kernel_rfl) rfl rfl hS (YH.val (v := v349) (fun w' hS' => x_load1 Try.underlying44 rfl rfl (hS'.cellB 0 rfl rfl))) ?_
        have hS := (hL.sel [1, 5, 6, 7] (by decide) rfl)
        refine DH.take 4 rfl (by kernel_rfl) (by kernel_rfl) (by kernel_rfl) rfl rfl hS (YH.val (v := (.pointer (some ⟨b4, 1, none⟩))) (fun w' hS' => x_fieldAddr (fsz := 1) 0 1 1 Try.underlying31 rfl Try_T2 rfl f407 rfl)) ?_
        have hS := (hL.sel [1, 5, 6, 7] (by decide) rfl)
        refine DH.take 5 rfl (by kernel_rfl) (by kernel_rfl) (by kernel_rfl) rfl rfl hS (YH.val (v := (.int .i64 a0.Scheme)) (fun w' hS' => x_load1 Try.underlying2 rfl rfl (hS'.cellB 2 rfl rfl))) ?_
        have hS := (hL.sel [1, 5, 6, 7] (by decide) rfl)
        refine DH.take 9 rfl (by kernel_rfl) (by kernel_rfl) (by kernel_rfl) rfl rfl hS (YH.val (v := (.pointer (some ⟨b8, 2, none⟩))) (fun w' hS' => x_fieldAddr (fsz := 1) 0 2 2 Try.underlying56 rfl Try_T54 rfl f409 rfl)) ?_
        have hS := (hL.sel [1, 5, 6, 7] (by decide) rfl)
        refine DH.take 11 rfl (by kernel_rfl) (by kernel_rfl) (by kernel_rfl) rfl rfl hS (YH.val (v := v399) (fun w' hS' => x_mv f411)) ?_
        obtain ⟨x441, hx442, hm⟩ := bndE hm
        obtain ⟨hc454, hm⟩ := chkE hm
        obtain ⟨hc461, hm⟩ := chkE hm
        refine DH.node (listed' := #[true, true, true, true, true, true, true, true, true, true, true, true, true, true, true, true, true, true]) (fuel' := 0) (fun (F : Fr) (w : World) => ∃ (v617 : Value) (S618 : Nat → Prop) (v619 : Value) (S620 : Nat → Prop), F 1 = (.pointer (some ⟨b4, 0, none⟩)) ∧ F 2 = (.pointer (some ⟨b6, 0, none⟩)) ∧ F 3 = (.pointer (some ⟨b8, 0, none⟩)) ∧ F 13 = v1 ∧ F 14 = (.int .i64 (a0.Races.length : Int)) ∧ F 15 = (.int .i64 s_l1.2.2) ∧ Hp w0 [Ent.own 61 S618 v617 (s_l1.2.1 ++ ([s_l2.1] : List (List Int))), Ent.own 61 S620 v619 (s_l1.1 ++ ([x441] : List (List Int))), Ent.blk b356 46 #[v349], Ent.blk b8 56 #[(.int .i64 a0.Boats), v619, v617], Ent.blk b6 56 #[(.int .i64 0), (.slice none 0 0), (.slice none 0 0)], Ent.blk b4 31 #[(.int .i64 a0.Boats), (.int .i64 a0.Scheme), v1], Ent.snap w0 w0.heap.size] w) ?_ (fun hN587 => ?_)
        · intro F697 wd698 hJ
          obtain ⟨v617, S618, v619, S620, f699, f700, f701, f702, f703, f704, hL⟩ := hJ
          refine DH.done (by kernel_rfl) ?_
          refine CW.regionL ?_
          refine OW.cons (OP.val (v := (.int .i64 (w64 (s_l1.2.2 + 1)))) rfl (x_add f704 rfl) ?_)
          refine OW.cons (OP.val (v := (.int .i64 (w64 (s_l1.2.2 + 1)))) rfl (x_move) ?_)
          refine OW.nil ?_
          have hL := hL.sel [1, 0, 3, 4, 5, 6] (by decide) rfl
          obtain rfl := Option.some.inj hm
          exact ⟨_, rfl, ⟨v619, S620, v617, S618, f699, f700, f701, f702, f703, rfl, hL⟩⟩
        refine DH.node (listed' := #[true, true, true, true, true, true, true, true, true, true, true, true, true, true, true, true, true, false]) (fuel' := 1) (fun (F : Fr) (w : World) => ∃ (v621 : Value) (S622 : Nat → Prop) (v623 : Value) (S624 : Nat → Prop), F 1 = (.pointer (some ⟨b4, 0, none⟩)) ∧ F 2 = (.pointer (some ⟨b6, 0, none⟩)) ∧ F 3 = (.pointer (some ⟨b8, 0, none⟩)) ∧ F 13 = v1 ∧ F 14 = (.int .i64 (a0.Races.length : Int)) ∧ F 15 = (.int .i64 s_l1.2.2) ∧ F 46 = v621 ∧ F 48 = (.pointer (some ⟨b8, 2, none⟩)) ∧ Hp w0 [Ent.own 61 S622 v621 (s_l1.2.1 ++ ([s_l2.1] : List (List Int))), Ent.own 61 S624 v623 (s_l1.1 ++ ([x441] : List (List Int))), Ent.blk b356 46 #[v349], Ent.blk b8 56 #[(.int .i64 a0.Boats), v623, v320], Ent.blk b6 56 #[(.int .i64 0), (.slice none 0 0), (.slice none 0 0)], Ent.blk b4 31 #[(.int .i64 a0.Boats), (.int .i64 a0.Scheme), v1], Ent.snap w0 w0.heap.size] w) ?_ (fun hN588 => ?_)
        · intro F705 wd706 hJ
          obtain ⟨v621, S622, v623, S624, f707, f708, f709, f710, f711, f712, f713, f714, hL⟩ := hJ
          refine DH.only 17 rfl (by kernel_rfl) (S_store (cs' := #[(.int .i64 a0.Boats), v623, v621]) hL 3 rfl Try_T54 f714 (rdL_one (hL.rdO 0 rfl)) f713 rfl rfl ?_)
          intro wd715 hL
          refine ⟨(hL.sel [2, 4, 5, 6] (by decide) rfl), ?_⟩
          exact DH.relist (listed' := #[true, true, true, true, true, true, true, true, true, true, true, true, true, true, true, true, true, true]) (by kernel_rfl) (hN587 _ _ ⟨v621, S622, v623, S624, f707, f708, f709, f710, f711, f712, hL⟩)
        refine DH.node (listed' := #[true, true, true, true, true, true, true, true, true, true, true, true, true, true, true, false, false, false]) (fuel' := 3) (fun (F : Fr) (w : World) => ∃ (v625 : Value) (S626 : Nat → Prop) (v627 : Value) (S628 : Nat → Prop), F 1 = (.pointer (some ⟨b4, 0, none⟩)) ∧ F 2 = (.pointer (some ⟨b6, 0, none⟩)) ∧ F 3 = (.pointer (some ⟨b8, 0, none⟩)) ∧ F 13 = v1 ∧ F 14 = (.int .i64 (a0.Races.length : Int)) ∧ F 15 = (.int .i64 s_l1.2.2) ∧ F 41 = v627 ∧ F 46 = v625 ∧ F 47 = (.pointer (some ⟨b8, 1, none⟩)) ∧ Hp w0 [Ent.own 61 S626 v625 (s_l1.2.1 ++ ([s_l2.1] : List (List Int))), Ent.own 61 S628 v627 (s_l1.1 ++ ([x441] : List (List Int))), Ent.blk b356 46 #[v349], Ent.blk b8 56 #[(.int .i64 a0.Boats), v318, v320], Ent.blk b6 56 #[(.int .i64 0), (.slice none 0 0), (.slice none 0 0)], Ent.blk b4 31 #[(.int .i64 a0.Boats), (.int .i64 a0.Scheme), v1], Ent.snap w0 w0.heap.size] w) ?_ (fun hN589 => ?_)
        · intro F716 wd717 hJ
          obtain ⟨v625, S626, v627, S628, f718, f719, f720, f721, f722, f723, f724, f725, f726, hL⟩ := hJ
          refine DH.only 15 rfl (by kernel_rfl) (S_store (cs' := #[(.int .i64 a0.Boats), v627, v320]) hL 3 rfl Try_T54 f726 (rdL_one (hL.rdO 1 rfl)) f724 rfl rfl ?_)
          intro wd727 hL
          refine ⟨(hL.sel [2, 4, 5, 6] (by decide) rfl), ?_⟩
          have hS := (hL.sel [2, 4, 5, 6] (by decide) rfl)
          refine DH.take 16 rfl (by kernel_rfl) (by kernel_rfl) (by kernel_rfl) rfl rfl hS (YH.val (v := (.pointer (some ⟨b8, 2, none⟩))) (fun w' hS' => x_fieldAddr (fsz := 1) 0 2 2 Try.underlying56 rfl Try_T54 rfl f720 rfl)) ?_
          exact DH.relist (listed' := #[true, true, true, true, true, true, true, true, true, true, true, true, true, true, true, true, true, false]) (by kernel_rfl) (hN588 _ _ ⟨v625, S626, v627, S628, f718, f719, f720, f721, f722, f723, f725, rfl, hL⟩)
        refine DH.node (listed' := #[true, true, true, true, true, true, true, true, true, true, true, true, true, false, true, false, false, false]) (fuel' := 4) (fun (F : Fr) (w : World) => ∃ (v629 : Value) (S630 : Nat → Prop) (v631 : Value) (S632 : Nat → Prop), F 1 = (.pointer (some ⟨b4, 0, none⟩)) ∧ F 2 = (.pointer (some ⟨b6, 0, none⟩)) ∧ F 3 = (.pointer (some ⟨b8, 0, none⟩)) ∧ F 13 = v1 ∧ F 14 = (.int .i64 (a0.Races.length : Int)) ∧ F 15 = (.int .i64 s_l1.2.2) ∧ F 41 = v631 ∧ F 43 = v320 ∧ F 45 = v629 ∧ F 47 = (.pointer (some ⟨b8, 1, none⟩)) ∧ Hp w0 [Ent.own 61 S630 v629 ([s_l2.1] : List (List Int)), Ent.own 61 S632 v631 (s_l1.1 ++ ([x441] : List (List Int))), Ent.blk b356 46 #[v349], Ent.own 61 S321 v320 s_l1.2.1, Ent.blk b8 56 #[(.int .i64 a0.Boats), v318, v320], Ent.blk b6 56 #[(.int .i64 0), (.slice none 0 0), (.slice none 0 0)], Ent.blk b4 31 #[(.int .i64 a0.Boats), (.int .i64 a0.Scheme), v1], Ent.snap w0 w0.heap.size] w) ?_ (fun hN590 => ?_)
        · intro F728 wd729 hJ
          obtain ⟨v629, S630, v631, S632, f730, f731, f732, f733, f734, f735, f736, f737, f738, f739, hL⟩ := hJ
          have hL := hL.sel [3, 0, 1, 2, 4, 5, 6, 7] (by decide) rfl
          refine DH.only 13 rfl (by kernel_rfl) (S_appendN Int hL Try.underlying54 Try_T61 rfl f737 f738 hc461 (by decide) rfl ?_)
          intro wd740 v741 S742 hL
          refine ⟨(hL.sel [2, 4, 5, 6] (by decide) rfl), ?_⟩
          exact DH.relist (listed' := #[true, true, true, true, true, true, true, true, true, true, true, true, true, true, true, false, false, false]) (by kernel_rfl) (hN589 _ _ ⟨v741, S742, v631, S632, f730, f731, f732, f733, f734, f735, f736, rfl, f739, hL⟩)
        refine DH.node (listed' := #[true, true, true, true, true, true, true, true, true, true, true, true, false, false, true, false, false, false]) (fuel' := 5) (fun (F : Fr) (w : World) => ∃ (v633 : Value) (S634 : Nat → Prop), F 1 = (.pointer (some ⟨b4, 0, none⟩)) ∧ F 2 = (.pointer (some ⟨b6, 0, none⟩)) ∧ F 3 = (.pointer (some ⟨b8, 0, none⟩)) ∧ F 13 = v1 ∧ F 14 = (.int .i64 (a0.Races.length : Int)) ∧ F 15 = (.int .i64 s_l1.2.2) ∧ F 41 = v633 ∧ F 43 = v320 ∧ F 44 = v399 ∧ F 47 = (.pointer (some ⟨b8, 1, none⟩)) ∧ Hp w0 [Ent.own 61 S634 v633 (s_l1.1 ++ ([x441] : List (List Int))), Ent.own 2 S400 v399 s_l2.1, Ent.blk b356 46 #[v349], Ent.own 61 S321 v320 s_l1.2.1, Ent.blk b8 56 #[(.int .i64 a0.Boats), v318, v320], Ent.blk b6 56 #[(.int .i64 0), (.slice none 0 0), (.slice none 0 0)], Ent.blk b4 31 #[(.int .i64 a0.Boats), (.int .i64 a0.Scheme), v1], Ent.snap w0 w0.heap.size] w) ?_ (fun hN591 => ?_)
        · intro F743 wd744 hJ
          obtain ⟨v633, S634, f745, f746, f747, f748, f749, f750, f751, f752, f753, f754, hL⟩ := hJ
          have hL := hL.sel [1, 0, 2, 3, 4, 5, 6, 7] (by decide) rfl
          refine DH.only 12 rfl (by kernel_rfl) (S_lit1 s_l2.1 rfl hL Try.underlying54 Try_T61 ((congrArg Value.cells f753).trans (rdL_cells (hL.rdO 0 rfl))) rfl ?_)
          intro wd755 v756 S757 hL
          refine ⟨(hL.sel [2, 5, 6, 7] (by decide) rfl), ?_⟩
          exact DH.relist (listed' := #[true, true, true, true, true, true, true, true, true, true, true, true, true, false, true, false, false, false]) (by kernel_rfl) (hN590 _ _ ⟨v756, S757, v633, S634, f745, f746, f747, f748, f749, f750, f751, f752, rfl, f754, hL⟩)
        refine DH.node (listed' := #[true, true, true, true, true, true, true, true, true, true, false, true, true, false, false, false, false, false]) (fuel' := 6) (fun (F : Fr) (w : World) => ∃ (v635 : Value) (S636 : Nat → Prop) (v637 : Value) (S638 : Nat → Prop), F 1 = (.pointer (some ⟨b4, 0, none⟩)) ∧ F 2 = (.pointer (some ⟨b6, 0, none⟩)) ∧ F 3 = (.pointer (some ⟨b8, 0, none⟩)) ∧ F 13 = v1 ∧ F 14 = (.int .i64 (a0.Races.length : Int)) ∧ F 15 = (.int .i64 s_l1.2.2) ∧ F 41 = v637 ∧ F 42 = (.pointer (some ⟨b8, 2, none⟩)) ∧ F 45 = v635 ∧ Hp w0 [Ent.own 61 S636 v635 ([s_l2.1] : List (List Int)), Ent.own 61 S638 v637 (s_l1.1 ++ ([x441] : List (List Int))), Ent.blk b356 46 #[v349], Ent.own 61 S321 v320 s_l1.2.1, Ent.blk b8 56 #[(.int .i64 a0.Boats), v318, v320], Ent.blk b6 56 #[(.int .i64 0), (.slice none 0 0), (.slice none 0 0)], Ent.blk b4 31 #[(.int .i64 a0.Boats), (.int .i64 a0.Scheme), v1], Ent.snap w0 w0.heap.size] w) ?_ (fun hN592 => ?_)
        · intro F758 wd759 hJ
          obtain ⟨v635, S636, v637, S638, f760, f761, f762, f763, f764, f765, f766, f767, f768, hL⟩ := hJ
          refine DH.only 10 rfl (by kernel_rfl) (OP.val (v := v320) rfl (x_load1 Try.underlying54 rfl f767 (hL.cellB 4 rfl rfl)) ?_)
          refine ⟨(hL.sel [2, 5, 6, 7] (by decide) rfl), ?_⟩
          have hS := (hL.sel [2, 5, 6, 7] (by decide) rfl)
          refine DH.take 14 rfl (by kernel_rfl) (by kernel_rfl) (by kernel_rfl) rfl rfl hS (YH.val (v := (.pointer (some ⟨b8, 1, none⟩))) (fun w' hS' => x_fieldAddr (fsz := 1) 0 1 1 Try.underlying56 rfl Try_T54 rfl f762 rfl)) ?_
          exact DH.relist (listed' := #[true, true, true, true, true, true, true, true, true, true, true, true, true, false, true, false, false, false]) (by kernel_rfl) (hN590 _ _ ⟨v635, S636, v637, S638, f760, f761, f762, f763, f764, f765, f766, rfl, f768, rfl, hL⟩)
        refine DH.node (listed' := #[true, true, true, true, true, true, true, true, false, true, true, true, true, false, false, false, false, false]) (fuel' := 6) (fun (F : Fr) (w : World) => ∃ (v639 : Value) (S640 : Nat → Prop) (v641 : Value) (S642 : Nat → Prop), F 1 = (.pointer (some ⟨b4, 0, none⟩)) ∧ F 2 = (.pointer (some ⟨b6, 0, none⟩)) ∧ F 3 = (.pointer (some ⟨b8, 0, none⟩)) ∧ F 13 = v1 ∧ F 14 = (.int .i64 (a0.Races.length : Int)) ∧ F 15 = (.int .i64 s_l1.2.2) ∧ F 34 = v318 ∧ F 40 = v641 ∧ F 43 = v320 ∧ F 45 = v639 ∧ Hp w0 [Ent.own 61 S640 v639 ([s_l2.1] : List (List Int)), Ent.own 61 S642 v641 ([x441] : List (List Int)), Ent.blk b356 46 #[v349], Ent.own 61 S319 v318 s_l1.1, Ent.own 61 S321 v320 s_l1.2.1, Ent.blk b8 56 #[(.int .i64 a0.Boats), v318, v320], Ent.blk b6 56 #[(.int .i64 0), (.slice none 0 0), (.slice none 0 0)], Ent.blk b4 31 #[(.int .i64 a0.Boats), (.int .i64 a0.Scheme), v1], Ent.snap w0 w0.heap.size] w) ?_ (fun hN593 => ?_)
        · intro F769 wd770 hJ
          obtain ⟨v639, S640, v641, S642, f771, f772, f773, f774, f775, f776, f777, f778, f779, f780, hL⟩ := hJ
          have hL := hL.sel [3, 1, 0, 2, 4, 5, 6, 7, 8] (by decide) rfl
          refine DH.only 8 rfl (by kernel_rfl) (S_appendN Int hL Try.underlying54 Try_T61 rfl f777 f778 hc454 (by decide) rfl ?_)
          intro wd781 v782 S783 hL
          refine ⟨(hL.sel [2, 5, 6, 7] (by decide) rfl), ?_⟩
          have hS := (hL.sel [2, 5, 6, 7] (by decide) rfl)
          refine DH.take 14 rfl (by kernel_rfl) (by kernel_rfl) (by kernel_rfl) rfl rfl hS (YH.val (v := (.pointer (some ⟨b8, 1, none⟩))) (fun w' hS' => x_fieldAddr (fsz := 1) 0 1 1 Try.underlying56 rfl Try_T54 rfl f773 rfl)) ?_
          have hL := hL.sel [1, 0, 2, 3, 4, 5, 6, 7] (by decide) rfl
          exact DH.relist (listed' := #[true, true, true, true, true, true, true, true, true, true, true, true, true, false, true, false, false, false]) (by kernel_rfl) (hN590 _ _ ⟨v639, S640, v782, S783, f771, f772, f773, f774, f775, f776, rfl, f779, f780, rfl, hL⟩)
        refine DH.node (listed' := #[true, true, true, true, true, true, true, true, true, true, false, true, false, false, false, false, false, false]) (fuel' := 7) (fun (F : Fr) (w : World) => ∃ (v643 : Value) (S644 : Nat → Prop), F 1 = (.pointer (some ⟨b4, 0, none⟩)) ∧ F 2 = (.pointer (some ⟨b6, 0, none⟩)) ∧ F 3 = (.pointer (some ⟨b8, 0, none⟩)) ∧ F 13 = v1 ∧ F 14 = (.int .i64 (a0.Races.length : Int)) ∧ F 15 = (.int .i64 s_l1.2.2) ∧ F 41 = v643 ∧ F 42 = (.pointer (some ⟨b8, 2, none⟩)) ∧ F 44 = v399 ∧ Hp w0 [Ent.own 61 S644 v643 (s_l1.1 ++ ([x441] : List (List Int))), Ent.own 2 S400 v399 s_l2.1, Ent.blk b356 46 #[v349], Ent.own 61 S321 v320 s_l1.2.1, Ent.blk b8 56 #[(.int .i64 a0.Boats), v318, v320], Ent.blk b6 56 #[(.int .i64 0), (.slice none 0 0), (.slice none 0 0)], Ent.blk b4 31 #[(.int .i64 a0.Boats), (.int .i64 a0.Scheme), v1], Ent.snap w0 w0.heap.size] w) ?_ (fun hN594 => ?_)
        · intro F784 wd785 hJ
          obtain ⟨v643, S644, f786, f787, f788, f789, f790, f791, f792, f793, f794, hL⟩ := hJ
          refine DH.all (rs := [10, 12]) (by kernel_rfl) (by simp) ?_
          intro i795 hi796
          simp only [List.mem_cons, List.not_mem_nil, or_false] at hi796
          rcases hi796 with rfl | rfl
          · refine ⟨_, rfl, ?_⟩
            refine OP.val (v := v320) rfl (x_load1 Try.underlying54 rfl f793 (hL.cellB 4 rfl rfl)) ?_
            refine ⟨(hL.sel [2, 5, 6, 7] (by decide) rfl), ?_⟩
            have hS := (hL.sel [2, 5, 6, 7] (by decide) rfl)
            refine DH.take 14 rfl (by kernel_rfl) (by kernel_rfl) (by kernel_rfl) rfl rfl hS (YH.val (v := (.pointer (some ⟨b8, 1, none⟩))) (fun w' hS' => x_fieldAddr (fsz := 1) 0 1 1 Try.underlying56 rfl Try_T54 rfl f788 rfl)) ?_
            exact DH.relist (listed' := #[true, true, true, true, true, true, true, true, true, true, true, true, false, false, true, false, false, false]) (by kernel_rfl) (hN591 _ _ ⟨v643, S644, f786, f787, f788, f789, f790, f791, f792, rfl, f794, rfl, hL⟩)
          · refine ⟨_, rfl, ?_⟩
            have hL := hL.sel [1, 0, 2, 3, 4, 5, 6, 7] (by decide) rfl
            refine S_lit1 s_l2.1 rfl hL Try.underlying54 Try_T61 ((congrArg Value.cells f794).trans (rdL_cells (hL.rdO 0 rfl))) rfl ?_
            intro wd797 v798 S799 hL
            refine ⟨(hL.sel [2, 5, 6, 7] (by decide) rfl), ?_⟩
            exact DH.relist (listed' := #[true, true, true, true, true, true, true, true, true, true, false, true, true, false, false, false, false, false]) (by kernel_rfl) (hN592 _ _ ⟨v798, S799, v643, S644, f786, f787, f788, f789, f790, f791, f792, f793, rfl, hL⟩)
        refine DH.node (listed' := #[true, true, true, true, true, true, true, true, false, true, true, true, false, false, false, false, false, false]) (fuel' := 7) (fun (F : Fr) (w : World) => ∃ (v645 : Value) (S646 : Nat → Prop), F 1 = (.pointer (some ⟨b4, 0, none⟩)) ∧ F 2 = (.pointer (some ⟨b6, 0, none⟩)) ∧ F 3 = (.pointer (some ⟨b8, 0, none⟩)) ∧ F 13 = v1 ∧ F 14 = (.int .i64 (a0.Races.length : Int)) ∧ F 15 = (.int .i64 s_l1.2.2) ∧ F 34 = v318 ∧ F 40 = v645 ∧ F 43 = v320 ∧ F 44 = v399 ∧ Hp w0 [Ent.own 61 S646 v645 ([x441] : List (List Int)), Ent.own 2 S400 v399 s_l2.1, Ent.blk b356 46 #[v349], Ent.own 61 S319 v318 s_l1.1, Ent.own 61 S321 v320 s_l1.2.1, Ent.blk b8 56 #[(.int .i64 a0.Boats), v318, v320], Ent.blk b6 56 #[(.int .i64 0), (.slice none 0 0), (.slice none 0 0)], Ent.blk b4 31 #[(.int .i64 a0.Boats), (.int .i64 a0.Scheme), v1], Ent.snap w0 w0.heap.size] w) ?_ (fun hN595 => ?_)
        · intro F800 wd801 hJ
          obtain ⟨v645, S646, f802, f803, f804, f805, f806, f807, f808, f809, f810, f811, hL⟩ := hJ
          refine DH.all (rs := [8, 12]) (by kernel_rfl) (by simp) ?_
          intro i812 hi813
          simp only [List.mem_cons, List.not_mem_nil, or_false] at hi813
          rcases hi813 with rfl | rfl
          · refine ⟨_, rfl, ?_⟩
            have hL := hL.sel [3, 0, 1, 2, 4, 5, 6, 7, 8] (by decide) rfl
            refine S_appendN Int hL Try.underlying54 Try_T61 rfl f808 f809 hc454 (by decide) rfl ?_
            intro wd814 v815 S816 hL
            refine ⟨(hL.sel [2, 5, 6, 7] (by decide) rfl), ?_⟩
            have hS := (hL.sel [2, 5, 6, 7] (by decide) rfl)
            refine DH.take 14 rfl (by kernel_rfl) (by kernel_rfl) (by kernel_rfl) rfl rfl hS (YH.val (v := (.pointer (some ⟨b8, 1, none⟩))) (fun w' hS' => x_fieldAddr (fsz := 1) 0 1 1 Try.underlying56 rfl Try_T54 rfl f804 rfl)) ?_
            exact DH.relist (listed' := #[true, true, true, true, true, true, true, true, true, true, true, true, false, false, true, false, false, false]) (by kernel_rfl) (hN591 _ _ ⟨v815, S816, f802, f803, f804, f805, f806, f807, rfl, f810, f811, rfl, hL⟩)
          · refine ⟨_, rfl, ?_⟩
            have hL := hL.sel [1, 0, 2, 3, 4, 5, 6, 7, 8] (by decide) rfl
            refine S_lit1 s_l2.1 rfl hL Try.underlying54 Try_T61 ((congrArg Value.cells f811).trans (rdL_cells (hL.rdO 0 rfl))) rfl ?_
            intro wd817 v818 S819 hL
            refine ⟨(hL.sel [2, 6, 7, 8] (by decide) rfl), ?_⟩
            exact DH.relist (listed' := #[true, true, true, true, true, true, true, true, false, true, true, true, true, false, false, false, false, false]) (by kernel_rfl) (hN593 _ _ ⟨v818, S819, v645, S646, f802, f803, f804, f805, f806, f807, f808, f809, f810, rfl, hL⟩)
        refine DH.node (listed' := #[true, true, true, true, true, true, true, true, false, true, false, true, true, false, false, false, false, false]) (fuel' := 7) (fun (F : Fr) (w : World) => ∃ (v647 : Value) (S648 : Nat → Prop) (v649 : Value) (S650 : Nat → Prop), F 1 = (.pointer (some ⟨b4, 0, none⟩)) ∧ F 2 = (.pointer (some ⟨b6, 0, none⟩)) ∧ F 3 = (.pointer (some ⟨b8, 0, none⟩)) ∧ F 13 = v1 ∧ F 14 = (.int .i64 (a0.Races.length : Int)) ∧ F 15 = (.int .i64 s_l1.2.2) ∧ F 34 = v318 ∧ F 40 = v649 ∧ F 42 = (.pointer (some ⟨b8, 2, none⟩)) ∧ F 45 = v647 ∧ Hp w0 [Ent.own 61 S648 v647 ([s_l2.1] : List (List Int)), Ent.own 61 S650 v649 ([x441] : List (List Int)), Ent.blk b356 46 #[v349], Ent.own 61 S319 v318 s_l1.1, Ent.own 61 S321 v320 s_l1.2.1, Ent.blk b8 56 #[(.int .i64 a0.Boats), v318, v320], Ent.blk b6 56 #[(.int .i64 0), (.slice none 0 0), (.slice none 0 0)], Ent.blk b4 31 #[(.int .i64 a0.Boats), (.int .i64 a0.Scheme), v1], Ent.snap w0 w0.heap.size] w) ?_ (fun hN596 => ?_)
        · intro F820 wd821 hJ
          obtain ⟨v647, S648, v649, S650, f822, f823, f824, f825, f826, f827, f828, f829, f830, f831, hL⟩ := hJ
          refine DH.all (rs := [8, 10]) (by kernel_rfl) (by simp) ?_
          intro i832 hi833
          simp only [List.mem_cons, List.not_mem_nil, or_false] at hi833
          rcases hi833 with rfl | rfl
          · refine ⟨_, rfl, ?_⟩
            have hL := hL.sel [3, 1, 0, 2, 4, 5, 6, 7, 8] (by decide) rfl
            refine S_appendN Int hL Try.underlying54 Try_T61 rfl f828 f829 hc454 (by decide) rfl ?_
            intro wd834 v835 S836 hL
            refine ⟨(hL.sel [2, 5, 6, 7] (by decide) rfl), ?_⟩
            have hL := hL.sel [1, 0, 2, 3, 4, 5, 6, 7] (by decide) rfl
            exact DH.relist (listed' := #[true, true, true, true, true, true, true, true, true, true, false, true, true, false, false, false, false, false]) (by kernel_rfl) (hN592 _ _ ⟨v647, S648, v835, S836, f822, f823, f824, f825, f826, f827, rfl, f830, f831, hL⟩)
          · refine ⟨_, rfl, ?_⟩
            refine OP.val (v := v320) rfl (x_load1 Try.underlying54 rfl f830 (hL.cellB 5 rfl rfl)) ?_
            refine ⟨(hL.sel [2, 6, 7, 8] (by decide) rfl), ?_⟩
            exact DH.relist (listed' := #[true, true, true, true, true, true, true, true, false, true, true, true, true, false, false, false, false, false]) (by kernel_rfl) (hN593 _ _ ⟨v647, S648, v649, S650, f822, f823, f824, f825, f826, f827, f828, f829, rfl, f831, hL⟩)
        refine DH.node (listed' := #[true, true, true, true, true, true, true, false, false, true, true, true, true, false, false, false, false, false]) (fuel' := 7) (fun (F : Fr) (w : World) => ∃ (v651 : Value) (S652 : Nat → Prop) (v653 : Value) (S654 : Nat → Prop), F 1 = (.pointer (some ⟨b4, 0, none⟩)) ∧ F 2 = (.pointer (some ⟨b6, 0, none⟩)) ∧ F 3 = (.pointer (some ⟨b8, 0, none⟩)) ∧ F 13 = v1 ∧ F 14 = (.int .i64 (a0.Races.length : Int)) ∧ F 15 = (.int .i64 s_l1.2.2) ∧ F 34 = v318 ∧ F 39 = v653 ∧ F 43 = v320 ∧ F 45 = v651 ∧ Hp w0 [Ent.own 61 S652 v651 ([s_l2.1] : List (List Int)), Ent.own 2 S654 v653 x441, Ent.blk b356 46 #[v349], Ent.own 61 S319 v318 s_l1.1, Ent.own 61 S321 v320 s_l1.2.1, Ent.blk b8 56 #[(.int .i64 a0.Boats), v318, v320], Ent.blk b6 56 #[(.int .i64 0), (.slice none 0 0), (.slice none 0 0)], Ent.blk b4 31 #[(.int .i64 a0.Boats), (.int .i64 a0.Scheme), v1], Ent.snap w0 w0.heap.size] w) ?_ (fun hN597 => ?_)
        · intro F837 wd838 hJ
          obtain ⟨v651, S652, v653, S654, f839, f840, f841, f842, f843, f844, f845, f846, f847, f848, hL⟩ := hJ
          have hL := hL.sel [1, 0, 2, 3, 4, 5, 6, 7, 8] (by decide) rfl
          refine DH.only 7 rfl (by kernel_rfl) (S_lit1 x441 rfl hL Try.underlying54 Try_T61 ((congrArg Value.cells f846).trans (rdL_cells (hL.rdO 0 rfl))) rfl ?_)
          intro wd849 v850 S851 hL
          refine ⟨(hL.sel [2, 6, 7, 8] (by decide) rfl), ?_⟩
          have hL := hL.sel [1, 0, 2, 3, 4, 5, 6, 7, 8] (by decide) rfl
          exact DH.relist (listed' := #[true, true, true, true, true, true, true, true, false, true, true, true, true, false, false, false, false, false]) (by kernel_rfl) (hN593 _ _ ⟨v651, S652, v850, S851, f839, f840, f841, f842, f843, f844, f845, rfl, f847, f848, hL⟩)
        refine DH.node (listed' := #[true, false, true, true, true, true, true, true, false, true, true, true, true, false, false, false, false, false]) (fuel' := 7) (fun (F : Fr) (w : World) => ∃ (v655 : Value) (S656 : Nat → Prop) (v657 : Value) (S658 : Nat → Prop), F 1 = (.pointer (some ⟨b4, 0, none⟩)) ∧ F 2 = (.pointer (some ⟨b6, 0, none⟩)) ∧ F 3 = (.pointer (some ⟨b8, 0, none⟩)) ∧ F 13 = v1 ∧ F 14 = (.int .i64 (a0.Races.length : Int)) ∧ F 15 = (.int .i64 s_l1.2.2) ∧ F 33 = (.pointer (some ⟨b8, 1, none⟩)) ∧ F 40 = v657 ∧ F 43 = v320 ∧ F 45 = v655 ∧ Hp w0 [Ent.own 61 S656 v655 ([s_l2.1] : List (List Int)), Ent.own 61 S658 v657 ([x441] : List (List Int)), Ent.blk b356 46 #[v349], Ent.own 61 S319 v318 s_l1.1, Ent.own 61 S321 v320 s_l1.2.1, Ent.blk b8 56 #[(.int .i64 a0.Boats), v318, v320], Ent.blk b6 56 #[(.int .i64 0), (.slice none 0 0), (.slice none 0 0)], Ent.blk b4 31 #[(.int .i64 a0.Boats), (.int .i64 a0.Scheme), v1], Ent.snap w0 w0.heap.size] w) ?_ (fun hN598 => ?_)
        · intro F852 wd853 hJ
          obtain ⟨v655, S656, v657, S658, f854, f855, f856, f857, f858, f859, f860, f861, f862, f863, hL⟩ := hJ
          refine DH.only 1 rfl (by kernel_rfl) (OP.val (v := v318) rfl (x_load1 Try.underlying54 rfl f860 (hL.cellB 5 rfl rfl)) ?_)
          refine ⟨(hL.sel [2, 6, 7, 8] (by decide) rfl), ?_⟩
          exact DH.relist (listed' := #[true, true, true, true, true, true, true, true, false, true, true, true, true, false, false, false, false, false]) (by kernel_rfl) (hN593 _ _ ⟨v655, S656, v657, S658, f854, f855, f856, f857, f858, f859, rfl, f861, f862, f863, hL⟩)
        refine DH.node (listed' := #[true, true, true, true, true, true, true, true, false, true, false, true, false, false, false, false, false, false]) (fuel' := 8) (fun (F : Fr) (w : World) => ∃ (v659 : Value) (S660 : Nat → Prop), F 1 = (.pointer (some ⟨b4, 0, none⟩)) ∧ F 2 = (.pointer (some ⟨b6, 0, none⟩)) ∧ F 3 = (.pointer (some ⟨b8, 0, none⟩)) ∧ F 13 = v1 ∧ F 14 = (.int .i64 (a0.Races.length : Int)) ∧ F 15 = (.int .i64 s_l1.2.2) ∧ F 34 = v318 ∧ F 40 = v659 ∧ F 42 = (.pointer (some ⟨b8, 2, none⟩)) ∧ F 44 = v399 ∧ Hp w0 [Ent.own 61 S660 v659 ([x441] : List (List Int)), Ent.own 2 S400 v399 s_l2.1, Ent.blk b356 46 #[v349], Ent.own 61 S319 v318 s_l1.1, Ent.own 61 S321 v320 s_l1.2.1, Ent.blk b8 56 #[(.int .i64 a0.Boats), v318, v320], Ent.blk b6 56 #[(.int .i64 0), (.slice none 0 0), (.slice none 0 0)], Ent.blk b4 31 #[(.int .i64 a0.Boats), (.int .i64 a0.Scheme), v1], Ent.snap w0 w0.heap.size] w) ?_ (fun hN599 => ?_)
        · intro F864 wd865 hJ
          obtain ⟨v659, S660, f866, f867, f868, f869, f870, f871, f872, f873, f874, f875, hL⟩ := hJ
          refine DH.all (rs := [8, 10, 12]) (by kernel_rfl) (by simp) ?_
          intro i876 hi877
          simp only [List.mem_cons, List.not_mem_nil, or_false] at hi877
          rcases hi877 with rfl | rfl | rfl
          · refine ⟨_, rfl, ?_⟩
            have hL := hL.sel [3, 0, 1, 2, 4, 5, 6, 7, 8] (by decide) rfl
            refine S_appendN Int hL Try.underlying54 Try_T61 rfl f872 f873 hc454 (by decide) rfl ?_
            intro wd878 v879 S880 hL
            refine ⟨(hL.sel [2, 5, 6, 7] (by decide) rfl), ?_⟩
            exact DH.relist (listed' := #[true, true, true, true, true, true, true, true, true, true, false, true, false, false, false, false, false, false]) (by kernel_rfl) (hN594 _ _ ⟨v879, S880, f866, f867, f868, f869, f870, f871, rfl, f874, f875, hL⟩)
          · refine ⟨_, rfl, ?_⟩
            refine OP.val (v := v320) rfl (x_load1 Try.underlying54 rfl f874 (hL.cellB 5 rfl rfl)) ?_
            refine ⟨(hL.sel [2, 6, 7, 8] (by decide) rfl), ?_⟩
            exact DH.relist (listed' := #[true, true, true, true, true, true, true, true, false, true, true, true, false, false, false, false, false, false]) (by kernel_rfl) (hN595 _ _ ⟨v659, S660, f866, f867, f868, f869, f870, f871, f872, f873, rfl, f875, hL⟩)
          · refine ⟨_, rfl, ?_⟩
            have hL := hL.sel [1, 0, 2, 3, 4, 5, 6, 7, 8] (by decide) rfl
            refine S_lit1 s_l2.1 rfl hL Try.underlying54 Try_T61 ((congrArg Value.cells f875).trans (rdL_cells (hL.rdO 0 rfl))) rfl ?_
            intro wd881 v882 S883 hL
            refine ⟨(hL.sel [2, 6, 7, 8] (by decide) rfl), ?_⟩
            exact DH.relist (listed' := #[true, true, true, true, true, true, true, true, false, true, false, true, true, false, false, false, false, false]) (by kernel_rfl) (hN596 _ _ ⟨v882, S883, v659, S660, f866, f867, f868, f869, f870, f871, f872, f873, f874, rfl, hL⟩)
        refine DH.node (listed' := #[true, true, true, true, true, true, true, false, false, true, true, true, false, false, false, false, false, false]) (fuel' := 8) (fun (F : Fr) (w : World) => ∃ (v661 : Value) (S662 : Nat → Prop), F 1 = (.pointer (some ⟨b4, 0, none⟩)) ∧ F 2 = (.pointer (some ⟨b6, 0, none⟩)) ∧ F 3 = (.pointer (some ⟨b8, 0, none⟩)) ∧ F 13 = v1 ∧ F 14 = (.int .i64 (a0.Races.length : Int)) ∧ F 15 = (.int .i64 s_l1.2.2) ∧ F 34 = v318 ∧ F 39 = v661 ∧ F 43 = v320 ∧ F 44 = v399 ∧ Hp w0 [Ent.own 2 S662 v661 x441, Ent.own 2 S400 v399 s_l2.1, Ent.blk b356 46 #[v349], Ent.own 61 S319 v318 s_l1.1, Ent.own 61 S321 v320 s_l1.2.1, Ent.blk b8 56 #[(.int .i64 a0.Boats), v318, v320], Ent.blk b6 56 #[(.int .i64 0), (.slice none 0 0), (.slice none 0 0)], Ent.blk b4 31 #[(.int .i64 a0.Boats), (.int .i64 a0.Scheme), v1], Ent.snap w0 w0.heap.size] w) ?_ (fun hN600 => ?_)
        · intro F884 wd885 hJ
          obtain ⟨v661, S662, f886, f887, f888, f889, f890, f891, f892, f893, f894, f895, hL⟩ := hJ
          refine DH.all (rs := [7, 12]) (by kernel_rfl) (by simp) ?_
          intro i896 hi897
          simp only [List.mem_cons, List.not_mem_nil, or_false] at hi897
          rcases hi897 with rfl | rfl
          · refine ⟨_, rfl, ?_⟩
            refine S_lit1 x441 rfl hL Try.underlying54 Try_T61 ((congrArg Value.cells f893).trans (rdL_cells (hL.rdO 0 rfl))) rfl ?_
            intro wd898 v899 S900 hL
            refine ⟨(hL.sel [2, 6, 7, 8] (by decide) rfl), ?_⟩
            exact DH.relist (listed' := #[true, true, true, true, true, true, true, true, false, true, true, true, false, false, false, false, false, false]) (by kernel_rfl) (hN595 _ _ ⟨v899, S900, f886, f887, f888, f889, f890, f891, f892, rfl, f894, f895, hL⟩)
          · refine ⟨_, rfl, ?_⟩
            have hL := hL.sel [1, 0, 2, 3, 4, 5, 6, 7, 8] (by decide) rfl
            refine S_lit1 s_l2.1 rfl hL Try.underlying54 Try_T61 ((congrArg Value.cells f895).trans (rdL_cells (hL.rdO 0 rfl))) rfl ?_
            intro wd901 v902 S903 hL
            refine ⟨(hL.sel [2, 6, 7, 8] (by decide) rfl), ?_⟩
            exact DH.relist (listed' := #[true, true, true, true, true, true, true, false, false, true, true, true, true, false, false, false, false, false]) (by kernel_rfl) (hN597 _ _ ⟨v902, S903, v661, S662, f886, f887, f888, f889, f890, f891, f892, f893, f894, rfl, hL⟩)
        refine DH.node (listed' := #[true, true, true, true, true, true, true, false, false, true, false, true, true, false, false, false, false, false]) (fuel' := 8) (fun (F : Fr) (w : World) => ∃ (v663 : Value) (S664 : Nat → Prop) (v665 : Value) (S666 : Nat → Prop), F 1 = (.pointer (some ⟨b4, 0, none⟩)) ∧ F 2 = (.pointer (some ⟨b6, 0, none⟩)) ∧ F 3 = (.pointer (some ⟨b8, 0, none⟩)) ∧ F 13 = v1 ∧ F 14 = (.int .i64 (a0.Races.length : Int)) ∧ F 15 = (.int .i64 s_l1.2.2) ∧ F 34 = v318 ∧ F 39 = v665 ∧ F 42 = (.pointer (some ⟨b8, 2, none⟩)) ∧ F 45 = v663 ∧ Hp w0 [Ent.own 61 S664 v663 ([s_l2.1] : List (List Int)), Ent.own 2 S666 v665 x441, Ent.blk b356 46 #[v349], Ent.own 61 S319 v318 s_l1.1, Ent.own 61 S321 v320 s_l1.2.1, Ent.blk b8 56 #[(.int .i64 a0.Boats), v318, v320], Ent.blk b6 56 #[(.int .i64 0), (.slice none 0 0), (.slice none 0 0)], Ent.blk b4 31 #[(.int .i64 a0.Boats), (.int .i64 a0.Scheme), v1], Ent.snap w0 w0.heap.size] w) ?_ (fun hN601 => ?_)
        · intro F904 wd905 hJ
          obtain ⟨v663, S664, v665, S666, f906, f907, f908, f909, f910, f911, f912, f913, f914, f915, hL⟩ := hJ
          refine DH.all (rs := [7, 10]) (by kernel_rfl) (by simp) ?_
          intro i916 hi917
          simp only [List.mem_cons, List.not_mem_nil, or_false] at hi917
          rcases hi917 with rfl | rfl
          · refine ⟨_, rfl, ?_⟩
            have hL := hL.sel [1, 0, 2, 3, 4, 5, 6, 7, 8] (by decide) rfl
            refine S_lit1 x441 rfl hL Try.underlying54 Try_T61 ((congrArg Value.cells f913).trans (rdL_cells (hL.rdO 0 rfl))) rfl ?_
            intro wd918 v919 S920 hL
            refine ⟨(hL.sel [2, 6, 7, 8] (by decide) rfl), ?_⟩
            have hL := hL.sel [1, 0, 2, 3, 4, 5, 6, 7, 8] (by decide) rfl
            exact DH.relist (listed' := #[true, true, true, true, true, true, true, true, false, true, false, true, true, false, false, false, false, false]) (by kernel_rfl) (hN596 _ _ ⟨v663, S664, v919, S920, f906, f907, f908, f909, f910, f911, f912, rfl, f914, f915, hL⟩)
          · refine ⟨_, rfl, ?_⟩
            refine OP.val (v := v320) rfl (x_load1 Try.underlying54 rfl f914 (hL.cellB 5 rfl rfl)) ?_
            refine ⟨(hL.sel [2, 6, 7, 8] (by decide) rfl), ?_⟩
            exact DH.relist (listed' := #[true, true, true, true, true, true, true, false, false, true, true, true, true, false, false, false, false, false]) (by kernel_rfl) (hN597 _ _ ⟨v663, S664, v665, S666, f906, f907, f908, f909, f910, f911, f912, f913, rfl, f915, hL⟩)
        refine DH.node (listed' := #[true, true, true, true, true, true, false, false, false, true, true, true, true, false, false, false, false, false]) (fuel' := 8) (fun (F : Fr) (w : World) => ∃ (v667 : Value) (S668 : Nat → Prop), F 1 = (.pointer (some ⟨b4, 0, none⟩)) ∧ F 2 = (.pointer (some ⟨b6, 0, none⟩)) ∧ F 3 = (.pointer (some ⟨b8, 0, none⟩)) ∧ F 13 = v1 ∧ F 14 = (.int .i64 (a0.Races.length : Int)) ∧ F 15 = (.int .i64 s_l1.2.2) ∧ F 34 = v318 ∧ F 36 = v349 ∧ F 38 = (.int .i64 a0.Scheme) ∧ F 43 = v320 ∧ F 45 = v667 ∧ Hp w0 [Ent.own 61 S668 v667 ([s_l2.1] : List (List Int)), Ent.blk b356 46 #[v349], Ent.own 61 S319 v318 s_l1.1, Ent.own 61 S321 v320 s_l1.2.1, Ent.blk b8 56 #[(.int .i64 a0.Boats), v318, v320], Ent.blk b6 56 #[(.int .i64 0), (.slice none 0 0), (.slice none 0 0)], Ent.blk b4 31 #[(.int .i64 a0.Boats), (.int .i64 a0.Scheme), v1], Ent.snap w0 w0.heap.size] w) ?_ (fun hN602 => ?_)
        · intro F921 wd922 hJ
          obtain ⟨v667, S668, f923, f924, f925, f926, f927, f928, f929, f930, f931, f932, f933, hL⟩ := hJ
          refine DH.only 6 rfl (by kernel_rfl) (OP.call rfl (x_call (vs := [v349, (.int .i64 a0.Scheme)]) Try_C80 ⟨f930, f931, trivial⟩) (M.impl_racePoints_ok _ x344.Finishes (hL.rdS 7 rfl hr353) a0.Scheme hx442) ?_)
          rintro e936 wd937 ⟨v935, S934, rfl, hF938⟩
          refine ⟨_, rfl, ?_⟩
          have hL := hL.pushAll hF938
          simp only [lA, lB, lC, lD] at hL
          refine ⟨(hL.sel [2, 6, 7, 8] (by decide) rfl), ?_⟩
          have hL := hL.sel [1, 0, 2, 3, 4, 5, 6, 7, 8] (by decide) rfl
          exact DH.relist (listed' := #[true, true, true, true, true, true, true, false, false, true, true, true, true, false, false, false, false, false]) (by kernel_rfl) (hN597 _ _ ⟨v667, S668, v935, S934, f923, f924, f925, f926, f927, f928, f929, rfl, f932, f933, hL⟩)
        refine DH.node (listed' := #[true, false, true, true, true, true, true, true, false, true, true, true, false, false, false, false, false, false]) (fuel' := 8) (fun (F : Fr) (w : World) => ∃ (v669 : Value) (S670 : Nat → Prop), F 1 = (.pointer (some ⟨b4, 0, none⟩)) ∧ F 2 = (.pointer (some ⟨b6, 0, none⟩)) ∧ F 3 = (.pointer (some ⟨b8, 0, none⟩)) ∧ F 13 = v1 ∧ F 14 = (.int .i64 (a0.Races.length : Int)) ∧ F 15 = (.int .i64 s_l1.2.2) ∧ F 33 = (.pointer (some ⟨b8, 1, none⟩)) ∧ F 40 = v669 ∧ F 43 = v320 ∧ F 44 = v399 ∧ Hp w0 [Ent.own 61 S670 v669 ([x441] : List (List Int)), Ent.own 2 S400 v399 s_l2.1, Ent.blk b356 46 #[v349], Ent.own 61 S319 v318 s_l1.1, Ent.own 61 S321 v320 s_l1.2.1, Ent.blk b8 56 #[(.int .i64 a0.Boats), v318, v320], Ent.blk b6 56 #[(.int .i64 0), (.slice none 0 0), (.slice none 0 0)], Ent.blk b4 31 #[(.int .i64 a0.Boats), (.int .i64 a0.Scheme), v1], Ent.snap w0 w0.heap.size] w) ?_ (fun hN603 => ?_)
        · intro F939 wd940 hJ
          obtain ⟨v669, S670, f941, f942, f943, f944, f945, f946, f947, f948, f949, f950, hL⟩ := hJ
          refine DH.all (rs := [1, 12]) (by kernel_rfl) (by simp) ?_
          intro i951 hi952
          simp only [List.mem_cons, List.not_mem_nil, or_false] at hi952
          rcases hi952 with rfl | rfl
          · refine ⟨_, rfl, ?_⟩
            refine OP.val (v := v318) rfl (x_load1 Try.underlying54 rfl f947 (hL.cellB 5 rfl rfl)) ?_
            refine ⟨(hL.sel [2, 6, 7, 8] (by decide) rfl), ?_⟩
            exact DH.relist (listed' := #[true, true, true, true, true, true, true, true, false, true, true, true, false, false, false, false, false, false]) (by kernel_rfl) (hN595 _ _ ⟨v669, S670, f941, f942, f943, f944, f945, f946, rfl, f948, f949, f950, hL⟩)
          · refine ⟨_, rfl, ?_⟩
            have hL := hL.sel [1, 0, 2, 3, 4, 5, 6, 7, 8] (by decide) rfl
            refine S_lit1 s_l2.1 rfl hL Try.underlying54 Try_T61 ((congrArg Value.cells f950).trans (rdL_cells (hL.rdO 0 rfl))) rfl ?_
            intro wd953 v954 S955 hL
            refine ⟨(hL.sel [2, 6, 7, 8] (by decide) rfl), ?_⟩
            exact DH.relist (listed' := #[true, false, true, true, true, true, true, true, false, true, true, true, true, false, false, false, false, false]) (by kernel_rfl) (hN598 _ _ ⟨v954, S955, v669, S670, f941, f942, f943, f944, f945, f946, f947, f948, f949, rfl, hL⟩)
        refine DH.node (listed' := #[true, false, true, true, true, true, true, true, false, true, false, true, true, false, false, false, false, false]) (fuel' := 8) (fun (F : Fr) (w : World) => ∃ (v671 : Value) (S672 : Nat → Prop) (v673 : Value) (S674 : Nat → Prop), F 1 = (.pointer (some ⟨b4, 0, none⟩)) ∧ F 2 = (.pointer (some ⟨b6, 0, none⟩)) ∧ F 3 = (.pointer (some ⟨b8, 0, none⟩)) ∧ F 13 = v1 ∧ F 14 = (.int .i64 (a0.Races.length : Int)) ∧ F 15 = (.int .i64 s_l1.2.2) ∧ F 33 = (.pointer (some ⟨b8, 1, none⟩)) ∧ F 40 = v673 ∧ F 42 = (.pointer (some ⟨b8, 2, none⟩)) ∧ F 45 = v671 ∧ Hp w0 [Ent.own 61 S672 v671 ([s_l2.1] : List (List Int)), Ent.own 61 S674 v673 ([x441] : List (List Int)), Ent.blk b356 46 #[v349], Ent.own 61 S319 v318 s_l1.1, Ent.own 61 S321 v320 s_l1.2.1, Ent.blk b8 56 #[(.int .i64 a0.Boats), v318, v320], Ent.blk b6 56 #[(.int .i64 0), (.slice none 0 0), (.slice none 0 0)], Ent.blk b4 31 #[(.int .i64 a0.Boats), (.int .i64 a0.Scheme), v1], Ent.snap w0 w0.heap.size] w) ?_ (fun hN604 => ?_)
        · intro F956 wd957 hJ
          obtain ⟨v671, S672, v673, S674, f958, f959, f960, f961, f962, f963, f964, f965, f966, f967, hL⟩ := hJ
          refine DH.all (rs := [1, 10]) (by kernel_rfl) (by simp) ?_
          intro i968 hi969
          simp only [List.mem_cons, List.not_mem_nil, or_false] at hi969
          rcases hi969 with rfl | rfl
          · refine ⟨_, rfl, ?_⟩
            refine OP.val (v := v318) rfl (x_load1 Try.underlying54 rfl f964 (hL.cellB 5 rfl rfl)) ?_
            refine ⟨(hL.sel [2, 6, 7, 8] (by decide) rfl), ?_⟩
            exact DH.relist (listed' := #[true, true, true, true, true, true, true, true, false, true, false, true, true, false, false, false, false, false]) (by kernel_rfl) (hN596 _ _ ⟨v671, S672, v673, S674, f958, f959, f960, f961, f962, f963, rfl, f965, f966, f967, hL⟩)
          · refine ⟨_, rfl, ?_⟩
            refine OP.val (v := v320) rfl (x_load1 Try.underlying54 rfl f966 (hL.cellB 5 rfl rfl)) ?_
            refine ⟨(hL.sel [2, 6, 7, 8] (by decide) rfl), ?_⟩
            exact DH.relist (listed' := #[true, false, true, true, true, true, true, true, false, true, true, true, true, false, false, false, false, false]) (by kernel_rfl) (hN598 _ _ ⟨v671, S672, v673, S674, f958, f959, f960, f961, f962, f963, f964, f965, rfl, f967, hL⟩)
        refine DH.node (listed' := #[true, false, true, true, true, true, true, false, false, true, true, true, true, false, false, false, false, false]) (fuel' := 8) (fun (F : Fr) (w : World) => ∃ (v675 : Value) (S676 : Nat → Prop) (v677 : Value) (S678 : Nat → Prop), F 1 = (.pointer (some ⟨b4, 0, none⟩)) ∧ F 2 = (.pointer (some ⟨b6, 0, none⟩)) ∧ F 3 = (.pointer (some ⟨b8, 0, none⟩)) ∧ F 13 = v1 ∧ F 14 = (.int .i64 (a0.Races.length : Int)) ∧ F 15 = (.int .i64 s_l1.2.2) ∧ F 33 = (.pointer (some ⟨b8, 1, none⟩)) ∧ F 39 = v677 ∧ F 43 = v320 ∧ F 45 = v675 ∧ Hp w0 [Ent.own 61 S676 v675 ([s_l2.1] : List (List Int)), Ent.own 2 S678 v677 x441, Ent.blk b356 46 #[v349], Ent.own 61 S319 v318 s_l1.1, Ent.own 61 S321 v320 s_l1.2.1, Ent.blk b8 56 #[(.int .i64 a0.Boats), v318, v320], Ent.blk b6 56 #[(.int .i64 0), (.slice none 0 0), (.slice none 0 0)], Ent.blk b4 31 #[(.int .i64 a0.Boats), (.int .i64 a0.Scheme), v1], Ent.snap w0 w0.heap.size] w) ?_ (fun hN605 => ?_)
        · intro F970 wd971 hJ
          obtain ⟨v675, S676, v677, S678, f972, f973, f974, f975, f976, f977, f978, f979, f980, f981, hL⟩ := hJ
          refine DH.all (rs := [1, 7]) (by kernel_rfl) (by simp) ?_
          intro i982 hi983
          simp only [List.mem_cons, List.not_mem_nil, or_false] at hi983
          rcases hi983 with rfl | rfl
          · refine ⟨_, rfl, ?_⟩
            refine OP.val (v := v318) rfl (x_load1 Try.underlying54 rfl f978 (hL.cellB 5 rfl rfl)) ?_
            refine ⟨(hL.sel [2, 6, 7, 8] (by decide) rfl), ?_⟩
            exact DH.relist (listed' := #[true, true, true, true, true, true, true, false, false, true, true, true, true, false, false, false, false, false]) (by kernel_rfl) (hN597 _ _ ⟨v675, S676, v677, S678, f972, f973, f974, f975, f976, f977, rfl, f979, f980, f981, hL⟩)
          · refine ⟨_, rfl, ?_⟩
            have hL := hL.sel [1, 0, 2, 3, 4, 5, 6, 7, 8] (by decide) rfl
            refine S_lit1 x441 rfl hL Try.underlying54 Try_T61 ((congrArg Value.cells f979).trans (rdL_cells (hL.rdO 0 rfl))) rfl ?_
            intro wd984 v985 S986 hL
            refine ⟨(hL.sel [2, 6, 7, 8] (by decide) rfl), ?_⟩
            have hL := hL.sel [1, 0, 2, 3, 4, 5, 6, 7, 8] (by decide) rfl
            exact DH.relist (listed' := #[true, false, true, true, true, true, true, true, false, true, true, true, true, false, false, false, false, false]) (by kernel_rfl) (hN598 _ _ ⟨v675, S676, v985, S986, f972, f973, f974, f975, f976, f977, f978, rfl, f980, f981, hL⟩)
        refine DH.node (listed' := #[true, true, true, true, true, true, true, false, false, true, false, true, false, false, false, false, false, false]) (fuel' := 9) (fun (F : Fr) (w : World) => ∃ (v679 : Value) (S680 : Nat → Prop), F 1 = (.pointer (some ⟨b4, 0, none⟩)) ∧ F 2 = (.pointer (some ⟨b6, 0, none⟩)) ∧ F 3 = (.pointer (some ⟨b8, 0, none⟩)) ∧ F 13 = v1 ∧ F 14 = (.int .i64 (a0.Races.length : Int)) ∧ F 15 = (.int .i64 s_l1.2.2) ∧ F 34 = v318 ∧ F 39 = v679 ∧ F 42 = (.pointer (some ⟨b8, 2, none⟩)) ∧ F 44 = v399 ∧ Hp w0 [Ent.own 2 S680 v679 x441, Ent.own 2 S400 v399 s_l2.1, Ent.blk b356 46 #[v349], Ent.own 61 S319 v318 s_l1.1, Ent.own 61 S321 v320 s_l1.2.1, Ent.blk b8 56 #[(.int .i64 a0.Boats), v318, v320], Ent.blk b6 56 #[(.int .i64 0), (.slice none 0 0), (.slice none 0 0)], Ent.blk b4 31 #[(.int .i64 a0.Boats), (.int .i64 a0.Scheme), v1], Ent.snap w0 w0.heap.size] w) ?_ (fun hN606 => ?_)
        · intro F987 wd988 hJ
          obtain ⟨v679, S680, f989, f990, f991, f992, f993, f994, f995, f996, f997, f998, hL⟩ := hJ
          refine DH.all (rs := [7, 10, 12]) (by kernel_rfl) (by simp) ?_
          intro i999 hi1000
          simp only [List.mem_cons, List.not_mem_nil, or_false] at hi1000
          rcases hi1000 with rfl | rfl | rfl
          · refine ⟨_, rfl, ?_⟩
            refine S_lit1 x441 rfl hL Try.underlying54 Try_T61 ((congrArg Value.cells f996).trans (rdL_cells (hL.rdO 0 rfl))) rfl ?_
            intro wd1001 v1002 S1003 hL
            refine ⟨(hL.sel [2, 6, 7, 8] (by decide) rfl), ?_⟩
            exact DH.relist (listed' := #[true, true, true, true, true, true, true, true, false, true, false, true, false, false, false, false, false, false]) (by kernel_rfl) (hN599 _ _ ⟨v1002, S1003, f989, f990, f991, f992, f993, f994, f995, rfl, f997, f998, hL⟩)
          · refine ⟨_, rfl, ?_⟩
            refine OP.val (v := v320) rfl (x_load1 Try.underlying54 rfl f997 (hL.cellB 5 rfl rfl)) ?_
            refine ⟨(hL.sel [2, 6, 7, 8] (by decide) rfl), ?_⟩
            exact DH.relist (listed' := #[true, true, true, true, true, true, true, false, false, true, true, true, false, false, false, false, false, false]) (by kernel_rfl) (hN600 _ _ ⟨v679, S680, f989, f990, f991, f992, f993, f994, f995, f996, rfl, f998, hL⟩)
          · refine ⟨_, rfl, ?_⟩
            have hL := hL.sel [1, 0, 2, 3, 4, 5, 6, 7, 8] (by decide) rfl
            refine S_lit1 s_l2.1 rfl hL Try.underlying54 Try_T61 ((congrArg Value.cells f998).trans (rdL_cells (hL.rdO 0 rfl))) rfl ?_
            intro wd1004 v1005 S1006 hL
            refine ⟨(hL.sel [2, 6, 7, 8] (by decide) rfl), ?_⟩
            exact DH.relist (listed' := #[true, true, true, true, true, true, true, false, false, true, false, true, true, false, false, false, false, false]) (by kernel_rfl) (hN601 _ _ ⟨v1005, S1006, v679, S680, f989, f990, f991, f992, f993, f994, f995, f996, f997, rfl, hL⟩)
        refine DH.node (listed' := #[true, true, true, true, true, true, false, false, false, true, true, true, false, false, false, false, false, false]) (fuel' := 9) (fun (F : Fr) (w : World) => F 1 = (.pointer (some ⟨b4, 0, none⟩)) ∧ F 2 = (.pointer (some ⟨b6, 0, none⟩)) ∧ F 3 = (.pointer (some ⟨b8, 0, none⟩)) ∧ F 13 = v1 ∧ F 14 = (.int .i64 (a0.Races.length : Int)) ∧ F 15 = (.int .i64 s_l1.2.2) ∧ F 34 = v318 ∧ F 36 = v349 ∧ F 38 = (.int .i64 a0.Scheme) ∧ F 43 = v320 ∧ F 44 = v399 ∧ Hp w0 [Ent.own 2 S400 v399 s_l2.1, Ent.blk b356 46 #[v349], Ent.own 61 S319 v318 s_l1.1, Ent.own 61 S321 v320 s_l1.2.1, Ent.blk b8 56 #[(.int .i64 a0.Boats), v318, v320], Ent.blk b6 56 #[(.int .i64 0), (.slice none 0 0), (.slice none 0 0)], Ent.blk b4 31 #[(.int .i64 a0.Boats), (.int .i64 a0.Scheme), v1], Ent.snap w0 w0.heap.size] w) ?_ (fun hN607 => ?_)
        · intro F1007 wd1008 hJ
          obtain ⟨f1009, f1010, f1011, f1012, f1013, f1014, f1015, f1016, f1017, f1018, f1019, hL⟩ := hJ
          refine DH.all (rs := [6, 12]) (by kernel_rfl) (by simp) ?_
          intro i1020 hi1021
          simp only [List.mem_cons, List.not_mem_nil, or_false] at hi1021
          rcases hi1021 with rfl | rfl
          · refine ⟨_, rfl, ?_⟩
            refine OP.call rfl (x_call (vs := [v349, (.int .i64 a0.Scheme)]) Try_C80 ⟨f1016, f1017, trivial⟩) (M.impl_racePoints_ok _ x344.Finishes (hL.rdS 7 rfl hr353) a0.Scheme hx442) ?_
            rintro e1024 wd1025 ⟨v1023, S1022, rfl, hF1026⟩
            refine ⟨_, rfl, ?_⟩
            have hL := hL.pushAll hF1026
            simp only [lA, lB, lC, lD] at hL
            refine ⟨(hL.sel [2, 6, 7, 8] (by decide) rfl), ?_⟩
            exact DH.relist (listed' := #[true, true, true, true, true, true, true, false, false, true, true, true, false, false, false, false, false, false]) (by kernel_rfl) (hN600 _ _ ⟨v1023, S1022, f1009, f1010, f1011, f1012, f1013, f1014, f1015, rfl, f1018, f1019, hL⟩)
          · refine ⟨_, rfl, ?_⟩
            refine S_lit1 s_l2.1 rfl hL Try.underlying54 Try_T61 ((congrArg Value.cells f1019).trans (rdL_cells (hL.rdO 0 rfl))) rfl ?_
            intro wd1027 v1028 S1029 hL
            refine ⟨(hL.sel [1, 5, 6, 7] (by decide) rfl), ?_⟩
            exact DH.relist (listed' := #[true, true, true, true, true, true, false, false, false, true, true, true, true, false, false, false, false, false]) (by kernel_rfl) (hN602 _ _ ⟨v1028, S1029, f1009, f1010, f1011, f1012, f1013, f1014, f1015, f1016, f1017, f1018, rfl, hL⟩)
        refine DH.node (listed' := #[true, true, true, true, true, true, false, false, false, true, false, true, true, false, false, false, false, false]) (fuel' := 9) (fun (F : Fr) (w : World) => ∃ (v681 : Value) (S682 : Nat → Prop), F 1 = (.pointer (some ⟨b4, 0, none⟩)) ∧ F 2 = (.pointer (some ⟨b6, 0, none⟩)) ∧ F 3 = (.pointer (some ⟨b8, 0, none⟩)) ∧ F 13 = v1 ∧ F 14 = (.int .i64 (a0.Races.length : Int)) ∧ F 15 = (.int .i64 s_l1.2.2) ∧ F 34 = v318 ∧ F 36 = v349 ∧ F 38 = (.int .i64 a0.Scheme) ∧ F 42 = (.pointer (some ⟨b8, 2, none⟩)) ∧ F 45 = v681 ∧ Hp w0 [Ent.own 61 S682 v681 ([s_l2.1] : List (List Int)), Ent.blk b356 46 #[v349], Ent.own 61 S319 v318 s_l1.1, Ent.own 61 S321 v320 s_l1.2.1, Ent.blk b8 56 #[(.int .i64 a0.Boats), v318, v320], Ent.blk b6 56 #[(.int .i64 0), (.slice none 0 0), (.slice none 0 0)], Ent.blk b4 31 #[(.int .i64 a0.Boats), (.int .i64 a0.Scheme), v1], Ent.snap w0 w0.heap.size] w) ?_ (fun hN608 => ?_)
        · intro F1030 wd1031 hJ
          obtain ⟨v681, S682, f1032, f1033, f1034, f1035, f1036, f1037, f1038, f1039, f1040, f1041, f1042, hL⟩ := hJ
          refine DH.all (rs := [6, 10]) (by kernel_rfl) (by simp) ?_
          intro i1043 hi1044
          simp only [List.mem_cons, List.not_mem_nil, or_false] at hi1044
          rcases hi1044 with rfl | rfl
          · refine ⟨_, rfl, ?_⟩
            refine OP.call rfl (x_call (vs := [v349, (.int .i64 a0.Scheme)]) Try_C80 ⟨f1039, f1040, trivial⟩) (M.impl_racePoints_ok _ x344.Finishes (hL.rdS 7 rfl hr353) a0.Scheme hx442) ?_
            rintro e1047 wd1048 ⟨v1046, S1045, rfl, hF1049⟩
            refine ⟨_, rfl, ?_⟩
            have hL := hL.pushAll hF1049
            simp only [lA, lB, lC, lD] at hL
            refine ⟨(hL.sel [2, 6, 7, 8] (by decide) rfl), ?_⟩
            have hL := hL.sel [1, 0, 2, 3, 4, 5, 6, 7, 8] (by decide) rfl
            exact DH.relist (listed' := #[true, true, true, true, true, true, true, false, false, true, false, true, true, false, false, false, false, false]) (by kernel_rfl) (hN601 _ _ ⟨v681, S682, v1046, S1045, f1032, f1033, f1034, f1035, f1036, f1037, f1038, rfl, f1041, f1042, hL⟩)
          · refine ⟨_, rfl, ?_⟩
            refine OP.val (v := v320) rfl (x_load1 Try.underlying54 rfl f1041 (hL.cellB 4 rfl rfl)) ?_
            refine ⟨(hL.sel [1, 5, 6, 7] (by decide) rfl), ?_⟩
            exact DH.relist (listed' := #[true, true, true, true, true, true, false, false, false, true, true, true, true, false, false, false, false, false]) (by kernel_rfl) (hN602 _ _ ⟨v681, S682, f1032, f1033, f1034, f1035, f1036, f1037, f1038, f1039, f1040, rfl, f1042, hL⟩)
        refine DH.node (listed' := #[true, false, true, true, true, true, true, true, false, true, false, true, false, false, false, false, false, false]) (fuel' := 9) (fun (F : Fr) (w : World) => ∃ (v683 : Value) (S684 : Nat → Prop), F 1 = (.pointer (some ⟨b4, 0, none⟩)) ∧ F 2 = (.pointer (some ⟨b6, 0, none⟩)) ∧ F 3 = (.pointer (some ⟨b8, 0, none⟩)) ∧ F 13 = v1 ∧ F 14 = (.int .i64 (a0.Races.length : Int)) ∧ F 15 = (.int .i64 s_l1.2.2) ∧ F 33 = (.pointer (some ⟨b8, 1, none⟩)) ∧ F 40 = v683 ∧ F 42 = (.pointer (some ⟨b8, 2, none⟩)) ∧ F 44 = v399 ∧ Hp w0 [Ent.own 61 S684 v683 ([x441] : List (List Int)), Ent.own 2 S400 v399 s_l2.1, Ent.blk b356 46 #[v349], Ent.own 61 S319 v318 s_l1.1, Ent.own 61 S321 v320 s_l1.2.1, Ent.blk b8 56 #[(.int .i64 a0.Boats), v318, v320], Ent.blk b6 56 #[(.int .i64 0), (.slice none 0 0), (.slice none 0 0)], Ent.blk b4 31 #[(.int .i64 a0.Boats), (.int .i64 a0.Scheme), v1], Ent.snap w0 w0.heap.size] w) ?_ (fun hN609 => ?_)
        · intro F1050 wd1051 hJ
          obtain ⟨v683, S684, f1052, f1053, f1054, f1055, f1056, f1057, f1058, f1059, f1060, f1061, hL⟩ := hJ
          refine DH.all (rs := [1, 10, 12]) (by kernel_rfl) (by simp) ?_
          intro i1062 hi1063
          simp only [List.mem_cons, List.not_mem_nil, or_false] at hi1063
          rcases hi1063 with rfl | rfl | rfl
          · refine ⟨_, rfl, ?_⟩
            refine OP.val (v := v318) rfl (x_load1 Try.underlying54 rfl f1058 (hL.cellB 5 rfl rfl)) ?_
            refine ⟨(hL.sel [2, 6, 7, 8] (by decide) rfl), ?_⟩
            exact DH.relist (listed' := #[true, true, true, true, true, true, true, true, false, true, false, true, false, false, false, false, false, false]) (by kernel_rfl) (hN599 _ _ ⟨v683, S684, f1052, f1053, f1054, f1055, f1056, f1057, rfl, f1059, f1060, f1061, hL⟩)
          · refine ⟨_, rfl, ?_⟩
            refine OP.val (v := v320) rfl (x_load1 Try.underlying54 rfl f1060 (hL.cellB 5 rfl rfl)) ?_
            refine ⟨(hL.sel [2, 6, 7, 8] (by decide) rfl), ?_⟩
            exact DH.relist (listed' := #[true, false, true, true, true, true, true, true, false, true, true, true, false, false, false, false, false, false]) (by kernel_rfl) (hN603 _ _ ⟨v683, S684, f1052, f1053, f1054, f1055, f1056, f1057, f1058, f1059, rfl, f1061, hL⟩)
          · refine ⟨_, rfl, ?_⟩
            have hL := hL.sel [1, 0, 2, 3, 4, 5, 6, 7, 8] (by decide) rfl
            refine S_lit1 s_l2.1 rfl hL Try.underlying54 Try_T61 ((congrArg Value.cells f1061).trans (rdL_cells (hL.rdO 0 rfl))) rfl ?_
            intro wd1064 v1065 S1066 hL
            refine ⟨(hL.sel [2, 6, 7, 8] (by decide) rfl), ?_⟩
            exact DH.relist (listed' := #[true, false, true, true, true, true, true, true, false, true, false, true, true, false, false, false, false, false]) (by kernel_rfl) (hN604 _ _ ⟨v1065, S1066, v683, S684, f1052, f1053, f1054, f1055, f1056, f1057, f1058, f1059, f1060, rfl, hL⟩)
        refine DH.node (listed' := #[true, false, true, true, true, true, true, false, false, true, true, true, false, false, false, false, false, false]) (fuel' := 9) (fun (F : Fr) (w : World) => ∃ (v685 : Value) (S686 : Nat → Prop), F 1 = (.pointer (some ⟨b4, 0, none⟩)) ∧ F 2 = (.pointer (some ⟨b6, 0, none⟩)) ∧ F 3 = (.pointer (some ⟨b8, 0, none⟩)) ∧ F 13 = v1 ∧ F 14 = (.int .i64 (a0.Races.length : Int)) ∧ F 15 = (.int .i64 s_l1.2.2) ∧ F 33 = (.pointer (some ⟨b8, 1, none⟩)) ∧ F 39 = v685 ∧ F 43 = v320 ∧ F 44 = v399 ∧ Hp w0 [Ent.own 2 S686 v685 x441, Ent.own 2 S400 v399 s_l2.1, Ent.blk b356 46 #[v349], Ent.own 61 S319 v318 s_l1.1, Ent.own 61 S321 v320 s_l1.2.1, Ent.blk b8 56 #[(.int .i64 a0.Boats), v318, v320], Ent.blk b6 56 #[(.int .i64 0), (.slice none 0 0), (.slice none 0 0)], Ent.blk b4 31 #[(.int .i64 a0.Boats), (.int .i64 a0.Scheme), v1], Ent.snap w0 w0.heap.size] w) ?_ (fun hN610 => ?_)
        · intro F1067 wd1068 hJ
          obtain ⟨v685, S686, f1069, f1070, f1071, f1072, f1073, f1074, f1075, f1076, f1077, f1078, hL⟩ := hJ
          refine DH.all (rs := [1, 7, 12]) (by kernel_rfl) (by simp) ?_
          intro i1079 hi1080
          simp only [List.mem_cons, List.not_mem_nil, or_false] at hi1080
          rcases hi1080 with rfl | rfl | rfl
          · refine ⟨_, rfl, ?_⟩
            refine OP.val (v := v318) rfl (x_load1 Try.underlying54 rfl f1075 (hL.cellB 5 rfl rfl)) ?_
            refine ⟨(hL.sel [2, 6, 7, 8] (by decide) rfl), ?_⟩
            exact DH.relist (listed' := #[true, true, true, true, true, true, true, false, false, true, true, true, false, false, false, false, false, false]) (by kernel_rfl) (hN600 _ _ ⟨v685, S686, f1069, f1070, f1071, f1072, f1073, f1074, rfl, f1076, f1077, f1078, hL⟩)
          · refine ⟨_, rfl, ?_⟩
            refine S_lit1 x441 rfl hL Try.underlying54 Try_T61 ((congrArg Value.cells f1076).trans (rdL_cells (hL.rdO 0 rfl))) rfl ?_
            intro wd1081 v1082 S1083 hL
            refine ⟨(hL.sel [2, 6, 7, 8] (by decide) rfl), ?_⟩
            exact DH.relist (listed' := #[true, false, true, true, true, true, true, true, false, true, true, true, false, false, false, false, false, false]) (by kernel_rfl) (hN603 _ _ ⟨v1082, S1083, f1069, f1070, f1071, f1072, f1073, f1074, f1075, rfl, f1077, f1078, hL⟩)
          · refine ⟨_, rfl, ?_⟩
            have hL := hL.sel [1, 0, 2, 3, 4, 5, 6, 7, 8] (by decide) rfl
            refine S_lit1 s_l2.1 rfl hL Try.underlying54 Try_T61 ((congrArg Value.cells f1078).trans (rdL_cells (hL.rdO 0 rfl))) rfl ?_
            intro wd1084 v1085 S1086 hL
            refine ⟨(hL.sel [2, 6, 7, 8] (by decide) rfl), ?_⟩
            exact DH.relist (listed' := #[true, false, true, true, true, true, true, false, false, true, true, true, true, false, false, false, false, false]) (by kernel_rfl) (hN605 _ _ ⟨v1085, S1086, v685, S686, f1069, f1070, f1071, f1072, f1073, f1074, f1075, f1076, f1077, rfl, hL⟩)
        refine DH.node (listed' := #[true, false, true, true, true, true, true, false, false, true, false, true, true, false, false, false, false, false]) (fuel' := 9) (fun (F : Fr) (w : World) => ∃ (v687 : Value) (S688 : Nat → Prop) (v689 : Value) (S690 : Nat → Prop), F 1 = (.pointer (some ⟨b4, 0, none⟩)) ∧ F 2 = (.pointer (some ⟨b6, 0, none⟩)) ∧ F 3 = (.pointer (some ⟨b8, 0, none⟩)) ∧ F 13 = v1 ∧ F 14 = (.int .i64 (a0.Races.length : Int)) ∧ F 15 = (.int .i64 s_l1.2.2) ∧ F 33 = (.pointer (some ⟨b8, 1, none⟩)) ∧ F 39 = v689 ∧ F 42 = (.pointer (some ⟨b8, 2, none⟩)) ∧ F 45 = v687 ∧ Hp w0 [Ent.own 61 S688 v687 ([s_l2.1] : List (List Int)), Ent.own 2 S690 v689 x441, Ent.blk b356 46 #[v349], Ent.own 61 S319 v318 s_l1.1, Ent.own 61 S321 v320 s_l1.2.1, Ent.blk b8 56 #[(.int .i64 a0.Boats), v318, v320], Ent.blk b6 56 #[(.int .i64 0), (.slice none 0 0), (.slice none 0 0)], Ent.blk b4 31 #[(.int .i64 a0.Boats), (.int .i64 a0.Scheme), v1], Ent.snap w0 w0.heap.size] w) ?_ (fun hN611 => ?_)
        · intro F1087 wd1088 hJ
          obtain ⟨v687, S688, v689, S690, f1089, f1090, f1091, f1092, f1093, f1094, f1095, f1096, f1097, f1098, hL⟩ := hJ
          refine DH.all (rs := [1, 7, 10]) (by kernel_rfl) (by simp) ?_
          intro i1099 hi1100
          simp only [List.mem_cons, List.not_mem_nil, or_false] at hi1100
          rcases hi1100 with rfl | rfl | rfl
          · refine ⟨_, rfl, ?_⟩
            refine OP.val (v := v318) rfl (x_load1 Try.underlying54 rfl f1095 (hL.cellB 5 rfl rfl)) ?_
            refine ⟨(hL.sel [2, 6, 7, 8] (by decide) rfl), ?_⟩
            exact DH.relist (listed' := #[true, true, true, true, true, true, true, false, false, true, false, true, true, false, false, false, false, false]) (by kernel_rfl) (hN601 _ _ ⟨v687, S688, v689, S690, f1089, f1090, f1091, f1092, f1093, f1094, rfl, f1096, f1097, f1098, hL⟩)
          · refine ⟨_, rfl, ?_⟩
            have hL := hL.sel [1, 0, 2, 3, 4, 5, 6, 7, 8] (by decide) rfl
            refine S_lit1 x441 rfl hL Try.underlying54 Try_T61 ((congrArg Value.cells f1096).trans (rdL_cells (hL.rdO 0 rfl))) rfl ?_
            intro wd1101 v1102 S1103 hL
            refine ⟨(hL.sel [2, 6, 7, 8] (by decide) rfl), ?_⟩
            have hL := hL.sel [1, 0, 2, 3, 4, 5, 6, 7, 8] (by decide) rfl
            exact DH.relist (listed' := #[true, false, true, true, true, true, true, true, false, true, false, true, true, false, false, false, false, false]) (by kernel_rfl) (hN604 _ _ ⟨v687, S688, v1102, S1103, f1089, f1090, f1091, f1092, f1093, f1094, f1095, rfl, f1097, f1098, hL⟩)
          · refine ⟨_, rfl, ?_⟩
            refine OP.val (v := v320) rfl (x_load1 Try.underlying54 rfl f1097 (hL.cellB 5 rfl rfl)) ?_
            refine ⟨(hL.sel [2, 6, 7, 8] (by decide) rfl), ?_⟩
            exact DH.relist (listed' := #[true, false, true, true, true, true, true, false, false, true, true, true, true, false, false, false, false, false]) (by kernel_rfl) (hN605 _ _ ⟨v687, S688, v689, S690, f1089, f1090, f1091, f1092, f1093, f1094, f1095, f1096, rfl, f1098, hL⟩)
        refine DH.node (listed' := #[true, false, true, true, true, true, false, false, false, true, true, true, true, false, false, false, false, false]) (fuel' := 9) (fun (F : Fr) (w : World) => ∃ (v691 : Value) (S692 : Nat → Prop), F 1 = (.pointer (some ⟨b4, 0, none⟩)) ∧ F 2 = (.pointer (some ⟨b6, 0, none⟩)) ∧ F 3 = (.pointer (some ⟨b8, 0, none⟩)) ∧ F 13 = v1 ∧ F 14 = (.int .i64 (a0.Races.length : Int)) ∧ F 15 = (.int .i64 s_l1.2.2) ∧ F 33 = (.pointer (some ⟨b8, 1, none⟩)) ∧ F 36 = v349 ∧ F 38 = (.int .i64 a0.Scheme) ∧ F 43 = v320 ∧ F 45 = v691 ∧ Hp w0 [Ent.own 61 S692 v691 ([s_l2.1] : List (List Int)), Ent.blk b356 46 #[v349], Ent.own 61 S319 v318 s_l1.1, Ent.own 61 S321 v320 s_l1.2.1, Ent.blk b8 56 #[(.int .i64 a0.Boats), v318, v320], Ent.blk b6 56 #[(.int .i64 0), (.slice none 0 0), (.slice none 0 0)], Ent.blk b4 31 #[(.int .i64 a0.Boats), (.int .i64 a0.Scheme), v1], Ent.snap w0 w0.heap.size] w) ?_ (fun hN612 => ?_)
        · intro F1104 wd1105 hJ
          obtain ⟨v691, S692, f1106, f1107, f1108, f1109, f1110, f1111, f1112, f1113, f1114, f1115, f1116, hL⟩ := hJ
          refine DH.all (rs := [1, 6]) (by kernel_rfl) (by simp) ?_
          intro i1117 hi1118
          simp only [List.mem_cons, List.not_mem_nil, or_false] at hi1118
          rcases hi1118 with rfl | rfl
          · refine ⟨_, rfl, ?_⟩
            refine OP.val (v := v318) rfl (x_load1 Try.underlying54 rfl f1112 (hL.cellB 4 rfl rfl)) ?_
            refine ⟨(hL.sel [1, 5, 6, 7] (by decide) rfl), ?_⟩
            exact DH.relist (listed' := #[true, true, true, true, true, true, false, false, false, true, true, true, true, false, false, false, false, false]) (by kernel_rfl) (hN602 _ _ ⟨v691, S692, f1106, f1107, f1108, f1109, f1110, f1111, rfl, f1113, f1114, f1115, f1116, hL⟩)
          · refine ⟨_, rfl, ?_⟩
            refine OP.call rfl (x_call (vs := [v349, (.int .i64 a0.Scheme)]) Try_C80 ⟨f1113, f1114, trivial⟩) (M.impl_racePoints_ok _ x344.Finishes (hL.rdS 7 rfl hr353) a0.Scheme hx442) ?_
            rintro e1121 wd1122 ⟨v1120, S1119, rfl, hF1123⟩
            refine ⟨_, rfl, ?_⟩
            have hL := hL.pushAll hF1123
            simp only [lA, lB, lC, lD] at hL
            refine ⟨(hL.sel [2, 6, 7, 8] (by decide) rfl), ?_⟩
            have hL := hL.sel [1, 0, 2, 3, 4, 5, 6, 7, 8] (by decide) rfl
            exact DH.relist (listed' := #[true, false, true, true, true, true, true, false, false, true, true, true, true, false, false, false, false, false]) (by kernel_rfl) (hN605 _ _ ⟨v691, S692, v1120, S1119, f1106, f1107, f1108, f1109, f1110, f1111, f1112, rfl, f1115, f1116, hL⟩)
        refine DH.node (listed' := #[true, true, true, true, true, true, false, false, false, true, false, true, false, false, false, false, false, false]) (fuel' := 10) (fun (F : Fr) (w : World) => F 1 = (.pointer (some ⟨b4, 0, none⟩)) ∧ F 2 = (.pointer (some ⟨b6, 0, none⟩)) ∧ F 3 = (.pointer (some ⟨b8, 0, none⟩)) ∧ F 13 = v1 ∧ F 14 = (.int .i64 (a0.Races.length : Int)) ∧ F 15 = (.int .i64 s_l1.2.2) ∧ F 34 = v318 ∧ F 36 = v349 ∧ F 38 = (.int .i64 a0.Scheme) ∧ F 42 = (.pointer (some ⟨b8, 2, none⟩)) ∧ F 44 = v399 ∧ Hp w0 [Ent.own 2 S400 v399 s_l2.1, Ent.blk b356 46 #[v349], Ent.own 61 S319 v318 s_l1.1, Ent.own 61 S321 v320 s_l1.2.1, Ent.blk b8 56 #[(.int .i64 a0.Boats), v318, v320], Ent.blk b6 56 #[(.int .i64 0), (.slice none 0 0), (.slice none 0 0)], Ent.blk b4 31 #[(.int .i64 a0.Boats), (.int .i64 a0.Scheme), v1], Ent.snap w0 w0.heap.size] w) ?_ (fun hN613 => ?_)
        · intro F1124 wd1125 hJ
          obtain ⟨f1126, f1127, f1128, f1129, f1130, f1131, f1132, f1133, f1134, f1135, f1136, hL⟩ := hJ
          refine DH.all (rs := [6, 10, 12]) (by kernel_rfl) (by simp) ?_
          intro i1137 hi1138
          simp only [List.mem_cons, List.not_mem_nil, or_false] at hi1138
          rcases hi1138 with rfl | rfl | rfl
          · refine ⟨_, rfl, ?_⟩
            refine OP.call rfl (x_call (vs := [v349, (.int .i64 a0.Scheme)]) Try_C80 ⟨f1133, f1134, trivial⟩) (M.impl_racePoints_ok _ x344.Finishes (hL.rdS 7 rfl hr353) a0.Scheme hx442) ?_
            rintro e1141 wd1142 ⟨v1140, S1139, rfl, hF1143⟩
            refine ⟨_, rfl, ?_⟩
            have hL := hL.pushAll hF1143
            simp only [lA, lB, lC, lD] at hL
            refine ⟨(hL.sel [2, 6, 7, 8] (by decide) rfl), ?_⟩
            exact DH.relist (listed' := #[true, true, true, true, true, true, true, false, false, true, false, true, false, false, false, false, false, false]) (by kernel_rfl) (hN606 _ _ ⟨v1140, S1139, f1126, f1127, f1128, f1129, f1130, f1131, f1132, rfl, f1135, f1136, hL⟩)
          · refine ⟨_, rfl, ?_⟩
            refine OP.val (v := v320) rfl (x_load1 Try.underlying54 rfl f1135 (hL.cellB 4 rfl rfl)) ?_
            refine ⟨(hL.sel [1, 5, 6, 7] (by decide) rfl), ?_⟩
            exact DH.relist (listed' := #[true, true, true, true, true, true, false, false, false, true, true, true, false, false, false, false, false, false]) (by kernel_rfl) (hN607 _ _ ⟨f1126, f1127, f1128, f1129, f1130, f1131, f1132, f1133, f1134, rfl, f1136, hL⟩)
          · refine ⟨_, rfl, ?_⟩
            refine S_lit1 s_l2.1 rfl hL Try.underlying54 Try_T61 ((congrArg Value.cells f1136).trans (rdL_cells (hL.rdO 0 rfl))) rfl ?_
            intro wd1144 v1145 S1146 hL
            refine ⟨(hL.sel [1, 5, 6, 7] (by decide) rfl), ?_⟩
            exact DH.relist (listed' := #[true, true, true, true, true, true, false, false, false, true, false, true, true, false, false, false, false, false]) (by kernel_rfl) (hN608 _ _ ⟨v1145, S1146, f1126, f1127, f1128, f1129, f1130, f1131, f1132, f1133, f1134, f1135, rfl, hL⟩)
        refine DH.node (listed' := #[true, false, true, true, true, true, true, false, false, true, false, true, false, false, false, false, false, false]) (fuel' := 10) (fun (F : Fr) (w : World) => ∃ (v693 : Value) (S694 : Nat → Prop), F 1 = (.pointer (some ⟨b4, 0, none⟩)) ∧ F 2 = (.pointer (some ⟨b6, 0, none⟩)) ∧ F 3 = (.pointer (some ⟨b8, 0, none⟩)) ∧ F 13 = v1 ∧ F 14 = (.int .i64 (a0.Races.length : Int)) ∧ F 15 = (.int .i64 s_l1.2.2) ∧ F 33 = (.pointer (some ⟨b8, 1, none⟩)) ∧ F 39 = v693 ∧ F 42 = (.pointer (some ⟨b8, 2, none⟩)) ∧ F 44 = v399 ∧ Hp w0 [Ent.own 2 S694 v693 x441, Ent.own 2 S400 v399 s_l2.1, Ent.blk b356 46 #[v349], Ent.own 61 S319 v318 s_l1.1, Ent.own 61 S321 v320 s_l1.2.1, Ent.blk b8 56 #[(.int .i64 a0.Boats), v318, v320], Ent.blk b6 56 #[(.int .i64 0), (.slice none 0 0), (.slice none 0 0)], Ent.blk b4 31 #[(.int .i64 a0.Boats), (.int .i64 a0.Scheme), v1], Ent.snap w0 w0.heap.size] w) ?_ (fun hN614 => ?_)
        · intro F1147 wd1148 hJ
          obtain ⟨v693, S694, f1149, f1150, f1151, f1152, f1153, f1154, f1155, f1156, f1157, f1158, hL⟩ := hJ
          refine DH.all (rs := [1, 7, 10, 12]) (by kernel_rfl) (by simp) ?_
          intro i1159 hi1160
          simp only [List.mem_cons, List.not_mem_nil, or_false] at hi1160
          rcases hi1160 with rfl | rfl | rfl | rfl
          · refine ⟨_, rfl, ?_⟩
            refine OP.val (v := v318) rfl (x_load1 Try.underlying54 rfl f1155 (hL.cellB 5 rfl rfl)) ?_
            refine ⟨(hL.sel [2, 6, 7, 8] (by decide) rfl), ?_⟩
            exact DH.relist (listed' := #[true, true, true, true, true, true, true, false, false, true, false, true, false, false, false, false, false, false]) (by kernel_rfl) (hN606 _ _ ⟨v693, S694, f1149, f1150, f1151, f1152, f1153, f1154, rfl, f1156, f1157, f1158, hL⟩)
          · refine ⟨_, rfl, ?_⟩
            refine S_lit1 x441 rfl hL Try.underlying54 Try_T61 ((congrArg Value.cells f1156).trans (rdL_cells (hL.rdO 0 rfl))) rfl ?_
            intro wd1161 v1162 S1163 hL
            refine ⟨(hL.sel [2, 6, 7, 8] (by decide) rfl), ?_⟩
            exact DH.relist (listed' := #[true, false, true, true, true, true, true, true, false, true, false, true, false, false, false, false, false, false]) (by kernel_rfl) (hN609 _ _ ⟨v1162, S1163, f1149, f1150, f1151, f1152, f1153, f1154, f1155, rfl, f1157, f1158, hL⟩)
          · refine ⟨_, rfl, ?_⟩
            refine OP.val (v := v320) rfl (x_load1 Try.underlying54 rfl f1157 (hL.cellB 5 rfl rfl)) ?_
            refine ⟨(hL.sel [2, 6, 7, 8] (by decide) rfl), ?_⟩
            exact DH.relist (listed' := #[true, false, true, true, true, true, true, false, false, true, true, true, false, false, false, false, false, false]) (by kernel_rfl) (hN610 _ _ ⟨v693, S694, f1149, f1150, f1151, f1152, f1153, f1154, f1155, f1156, rfl, f1158, hL⟩)
          · refine ⟨_, rfl, ?_⟩
            have hL := hL.sel [1, 0, 2, 3, 4, 5, 6, 7, 8] (by decide) rfl
            refine S_lit1 s_l2.1 rfl hL Try.underlying54 Try_T61 ((congrArg Value.cells f1158).trans (rdL_cells (hL.rdO 0 rfl))) rfl ?_
            intro wd1164 v1165 S1166 hL
            refine ⟨(hL.sel [2, 6, 7, 8] (by decide) rfl), ?_⟩
            exact DH.relist (listed' := #[true, false, true, true, true, true, true, false, false, true, false, true, true, false, false, false, false, false]) (by kernel_rfl) (hN611 _ _ ⟨v1165, S1166, v693, S694, f1149, f1150, f1151, f1152, f1153, f1154, f1155, f1156, f1157, rfl, hL⟩)
        refine DH.node (listed' := #[true, false, true, true, true, true, false, false, false, true, true, true, false, false, false, false, false, false]) (fuel' := 10) (fun (F : Fr) (w : World) => F 1 = (.pointer (some ⟨b4, 0, none⟩)) ∧ F 2 = (.pointer (some ⟨b6, 0, none⟩)) ∧ F 3 = (.pointer (some ⟨b8, 0, none⟩)) ∧ F 13 = v1 ∧ F 14 = (.int .i64 (a0.Races.length : Int)) ∧ F 15 = (.int .i64 s_l1.2.2) ∧ F 33 = (.pointer (some ⟨b8, 1, none⟩)) ∧ F 36 = v349 ∧ F 38 = (.int .i64 a0.Scheme) ∧ F 43 = v320 ∧ F 44 = v399 ∧ Hp w0 [Ent.own 2 S400 v399 s_l2.1, Ent.blk b356 46 #[v349], Ent.own 61 S319 v318 s_l1.1, Ent.own 61 S321 v320 s_l1.2.1, Ent.blk b8 56 #[(.int .i64 a0.Boats), v318, v320], Ent.blk b6 56 #[(.int .i64 0), (.slice none 0 0), (.slice none 0 0)], Ent.blk b4 31 #[(.int .i64 a0.Boats), (.int .i64 a0.Scheme), v1], Ent.snap w0 w0.heap.size] w) ?_ (fun hN615 => ?_)
        · intro F1167 wd1168 hJ
          obtain ⟨f1169, f1170, f1171, f1172, f1173, f1174, f1175, f1176, f1177, f1178, f1179, hL⟩ := hJ
          refine DH.all (rs := [1, 6, 12]) (by kernel_rfl) (by simp) ?_
          intro i1180 hi1181
          simp only [List.mem_cons, List.not_mem_nil, or_false] at hi1181
          rcases hi1181 with rfl | rfl | rfl
          · refine ⟨_, rfl, ?_⟩
            refine OP.val (v := v318) rfl (x_load1 Try.underlying54 rfl f1175 (hL.cellB 4 rfl rfl)) ?_
            refine ⟨(hL.sel [1, 5, 6, 7] (by decide) rfl), ?_⟩
            exact DH.relist (listed' := #[true, true, true, true, true, true, false, false, false, true, true, true, false, false, false, false, false, false]) (by kernel_rfl) (hN607 _ _ ⟨f1169, f1170, f1171, f1172, f1173, f1174, rfl, f1176, f1177, f1178, f1179, hL⟩)
          · refine ⟨_, rfl, ?_⟩
            refine OP.call rfl (x_call (vs := [v349, (.int .i64 a0.Scheme)]) Try_C80 ⟨f1176, f1177, trivial⟩) (M.impl_racePoints_ok _ x344.Finishes (hL.rdS 7 rfl hr353) a0.Scheme hx442) ?_
            rintro e1184 wd1185 ⟨v1183, S1182, rfl, hF1186⟩
            refine ⟨_, rfl, ?_⟩
            have hL := hL.pushAll hF1186
            simp only [lA, lB, lC, lD] at hL
            refine ⟨(hL.sel [2, 6, 7, 8] (by decide) rfl), ?_⟩
            exact DH.relist (listed' := #[true, false, true, true, true, true, true, false, false, true, true, true, false, false, false, false, false, false]) (by kernel_rfl) (hN610 _ _ ⟨v1183, S1182, f1169, f1170, f1171, f1172, f1173, f1174, f1175, rfl, f1178, f1179, hL⟩)
          · refine ⟨_, rfl, ?_⟩
            refine S_lit1 s_l2.1 rfl hL Try.underlying54 Try_T61 ((congrArg Value.cells f1179).trans (rdL_cells (hL.rdO 0 rfl))) rfl ?_
            intro wd1187 v1188 S1189 hL
            refine ⟨(hL.sel [1, 5, 6, 7] (by decide) rfl), ?_⟩
            exact DH.relist (listed' := #[true, false, true, true, true, true, false, false, false, true, true, true, true, false, false, false, false, false]) (by kernel_rfl) (hN612 _ _ ⟨v1188, S1189, f1169, f1170, f1171, f1172, f1173, f1174, f1175, f1176, f1177, f1178, rfl, hL⟩)
        refine DH.node (listed' := #[true, false, true, true, true, true, false, false, false, true, false, true, true, false, false, false, false, false]) (fuel' := 10) (fun (F : Fr) (w : World) => ∃ (v695 : Value) (S696 : Nat → Prop), F 1 = (.pointer (some ⟨b4, 0, none⟩)) ∧ F 2 = (.pointer (some ⟨b6, 0, none⟩)) ∧ F 3 = (.pointer (some ⟨b8, 0, none⟩)) ∧ F 13 = v1 ∧ F 14 = (.int .i64 (a0.Races.length : Int)) ∧ F 15 = (.int .i64 s_l1.2.2) ∧ F 33 = (.pointer (some ⟨b8, 1, none⟩)) ∧ F 36 = v349 ∧ F 38 = (.int .i64 a0.Scheme) ∧ F 42 = (.pointer (some ⟨b8, 2, none⟩)) ∧ F 45 = v695 ∧ Hp w0 [Ent.own 61 S696 v695 ([s_l2.1] : List (List Int)), Ent.blk b356 46 #[v349], Ent.own 61 S319 v318 s_l1.1, Ent.own 61 S321 v320 s_l1.2.1, Ent.blk b8 56 #[(.int .i64 a0.Boats), v318, v320], Ent.blk b6 56 #[(.int .i64 0), (.slice none 0 0), (.slice none 0 0)], Ent.blk b4 31 #[(.int .i64 a0.Boats), (.int .i64 a0.Scheme), v1], Ent.snap w0 w0.heap.size] w) ?_ (fun hN616 => ?_)
        · intro F1190 wd1191 hJ
          obtain ⟨v695, S696, f1192, f1193, f1194, f1195, f1196, f1197, f1198, f1199, f1200, f1201, f1202, hL⟩ := hJ
          refine DH.all (rs := [1, 6, 10]) (by kernel_rfl) (by simp) ?_
          intro i1203 hi1204
          simp only [List.mem_cons, List.not_mem_nil, or_false] at hi1204
          rcases hi1204 with rfl | rfl | rfl
          · refine ⟨_, rfl, ?_⟩
            refine OP.val (v := v318) rfl (x_load1 Try.underlying54 rfl f1198 (hL.cellB 4 rfl rfl)) ?_
            refine ⟨(hL.sel [1, 5, 6, 7] (by decide) rfl), ?_⟩
            exact DH.relist (listed' := #[true, true, true, true, true, true, false, false, false, true, false, true, true, false, false, false, false, false]) (by kernel_rfl) (hN608 _ _ ⟨v695, S696, f1192, f1193, f1194, f1195, f1196, f1197, rfl, f1199, f1200, f1201, f1202, hL⟩)
          · refine ⟨_, rfl, ?_⟩
            refine OP.call rfl (x_call (vs := [v349, (.int .i64 a0.Scheme)]) Try_C80 ⟨f1199, f1200, trivial⟩) (M.impl_racePoints_ok _ x344.Finishes (hL.rdS 7 rfl hr353) a0.Scheme hx442) ?_
            rintro e1207 wd1208 ⟨v1206, S1205, rfl, hF1209⟩
            refine ⟨_, rfl, ?_⟩
            have hL := hL.pushAll hF1209
            simp only [lA, lB, lC, lD] at hL
            refine ⟨(hL.sel [2, 6, 7, 8] (by decide) rfl), ?_⟩
            have hL := hL.sel [1, 0, 2, 3, 4, 5, 6, 7, 8] (by decide) rfl
            exact DH.relist (listed' := #[true, false, true, true, true, true, true, false, false, true, false, true, true, false, false, false, false, false]) (by kernel_rfl) (hN611 _ _ ⟨v695, S696, v1206, S1205, f1192, f1193, f1194, f1195, f1196, f1197, f1198, rfl, f1201, f1202, hL⟩)
          · refine ⟨_, rfl, ?_⟩
            refine OP.val (v := v320) rfl (x_load1 Try.underlying54 rfl f1201 (hL.cellB 4 rfl rfl)) ?_
            refine ⟨(hL.sel [1, 5, 6, 7] (by decide) rfl), ?_⟩
            exact DH.relist (listed' := #[true, false, true, true, true, true, false, false, false, true, true, true, true, false, false, false, false, false]) (by kernel_rfl) (hN612 _ _ ⟨v695, S696, f1192, f1193, f1194, f1195, f1196, f1197, f1198, f1199, f1200, rfl, f1202, hL⟩)
        refine DH.all (rs := [1, 6, 10, 12]) (by kernel_rfl) (by simp) ?_
        intro i1210 hi1211
        simp only [List.mem_cons, List.not_mem_nil, or_false] at hi1211
        rcases hi1211 with rfl | rfl | rfl | rfl
        · refine ⟨_, rfl, ?_⟩
          refine OP.val (v := v318) rfl (x_load1 Try.underlying54 rfl rfl (hL.cellB 4 rfl rfl)) ?_
          refine ⟨(hL.sel [1, 5, 6, 7] (by decide) rfl), ?_⟩
          exact DH.relist (listed' := #[true, true, true, true, true, true, false, false, false, true, false, true, false, false, false, false, false, false]) (by kernel_rfl) (hN613 _ _ ⟨f407, f408, f409, f412, f413, f414, rfl, rfl, rfl, rfl, rfl, hL⟩)
        · refine ⟨_, rfl, ?_⟩
          refine OP.call rfl (x_call (vs := [v349, (.int .i64 a0.Scheme)]) Try_C80 ⟨rfl, rfl, trivial⟩) (M.impl_racePoints_ok _ x344.Finishes (hL.rdS 7 rfl hr353) a0.Scheme hx442) ?_
          rintro e1214 wd1215 ⟨v1213, S1212, rfl, hF1216⟩
          refine ⟨_, rfl, ?_⟩
          have hL := hL.pushAll hF1216
          simp only [lA, lB, lC, lD] at hL
          refine ⟨(hL.sel [2, 6, 7, 8] (by decide) rfl), ?_⟩
          exact DH.relist (listed' := #[true, false, true, true, true, true, true, false, false, true, false, true, false, false, false, false, false, false]) (by kernel_rfl) (hN614 _ _ ⟨v1213, S1212, f407, f408, f409, f412, f413, f414, rfl, rfl, rfl, rfl, hL⟩)
        · refine ⟨_, rfl, ?_⟩
          refine OP.val (v := v320) rfl (x_load1 Try.underlying54 rfl rfl (hL.cellB 4 rfl rfl)) ?_
          refine ⟨(hL.sel [1, 5, 6, 7] (by decide) rfl), ?_⟩
          exact DH.relist (listed' := #[true, false, true, true, true, true, false, false, false, true, true, true, false, false, false, false, false, false]) (by kernel_rfl) (hN615 _ _ ⟨f407, f408, f409, f412, f413, f414, rfl, rfl, rfl, rfl, rfl, hL⟩)
        · refine ⟨_, rfl, ?_⟩
          refine S_lit1 s_l2.1 rfl hL Try.underlying54 Try_T61 ((congrArg Value.cells (show _ = v399 from rfl)).trans (rdL_cells (hL.rdO 0 rfl))) rfl ?_
          intro wd1217 v1218 S1219 hL
          refine ⟨(hL.sel [1, 5, 6, 7] (by decide) rfl), ?_⟩
          exact DH.relist (listed' := #[true, false, true, true, true, true, false, false, false, true, false, true, true, false, false, false, false, false]) (by kernel_rfl) (hN616 _ _ ⟨v1218, S1219, f407, f408, f409, f412, f413, f414, rfl, rfl, rfl, rfl, rfl, hL⟩)
      · intro s_l2 F1220 wd1221 t401 hJ hm hr402
        unfold M.impl_tableOf_l2 at hm
        obtain ⟨v399, S400, f1222, f1223, f1224, f1225, f1226, f1227, f1228, f1229, f1230, f1231, f1232, hL⟩ := hJ
        refine CW.seq ?_
        refine CW.regionL ?_
        refine OW.cons (OP.val (v := (.bool (decide (s_l2.2 < (x344.Finishes.length : Int))))) rfl (x_lss f1232 f1231) ?_)
        refine OW.nil ?_
        refine CW.seq ?_
        refine CW.condM (t := decide (s_l2.2 < (x344.Finishes.length : Int))) rfl hm (fun hb1233 hm => ?_) (fun hb1233 hm => ?_)
        · refine CW.skip ?_
          refine CW.seq ?_
          refine CW.block ?_
          refine CW.seq ?_
          refine CW.regionL ?_
          obtain ⟨x1234, ha1235, hm⟩ := bndE hm
          obtain ⟨hz1236, ha1240⟩ := idxE ha1235
          obtain ⟨b1237, q1238, hix1239⟩ := rdL_ix (hL.rdS 7 rfl hr353) hz1236 ha1240
          refine OW.cons (OP.val (v := (.pointer (some ⟨b1237, q1238, none⟩))) rfl (x_ix Try.underlying44 Try_T50 f1230 f1232 hix1239) ?_)
          refine OW.cons (OP.val (v := (.agg #[(.int .i64 x1234.Boat), (.int .i64 x1234.Code), (.int .i64 x1234.Time)])) rfl (x_loadN (cs := [(.int .i64 x1234.Boat), (.int .i64 x1234.Code), (.int .i64 x1234.Time)]) Try.underlying50 Try_T50 rfl rfl (rdF_cells (hL.rdS 7 rfl hr353) hix1239 ha1240)) ?_)
          refine OW.cons (S_alloc (cs := #[(.int .i64 0), (.int .i64 0), (.int .i64 0)]) hL Try_T50 rfl rfl ?_)
          intro wd1241 b1242 hL
          refine OW.cons (S_storeN (l := [(.int .i64 x1234.Boat), (.int .i64 x1234.Code), (.int .i64 x1234.Time)]) (cs' := #[(.int .i64 x1234.Boat), (.int .i64 x1234.Code), (.int .i64 x1234.Time)]) hL 0 rfl Try_T50 rfl rfl (List.forall_mem_cons.2 ⟨rfl, (List.forall_mem_cons.2 ⟨rfl, (List.forall_mem_cons.2 ⟨rfl, (fun _ h => by cases h)⟩)⟩)⟩) rfl (Nat.le_of_ble_eq_true rfl) rfl ?_)
          intro wd1243 hL
          refine OW.nil ?_
          refine CW.regionL ?_
          refine OW.cons (OP.val (v := v399) rfl (x_mv f1226) ?_)
          refine OW.cons (OP.val (v := (.pointer (some ⟨b1242, 1, none⟩))) rfl (x_fieldAddr (fsz := 1) 0 1 1 Try.underlying50 rfl Try_T2 rfl rfl rfl) ?_)
          refine OW.cons (OP.val (v := (.int .i64 x1234.Code)) rfl (x_load1 Try.underlying2 rfl rfl (hL.cellB 0 rfl rfl)) ?_)
          refine OW.cons (S_lit ([x1234.Code] : List Int) hL Try.underlying61 Try_T2 rfl (by decide) (by first | (simp [Instr.fill, madeCells, Value.cells, ev, upd, Flat.enc, Flat.sz]; done) | rfl | kernel_rfl) rfl rfl ?_)
          intro wd1244 v1245 S1246 hL
          obtain ⟨hc1250, hm⟩ := chkE hm
          refine OW.cons (S_append (ys := ([x1234.Code] : List Int)) hL 2 rfl Try.underlying61 Try_T2 rfl rfl rfl (hL.rdO 0 rfl) hc1250 (by decide) rfl ?_)
          intro wd1247 v1248 S1249 hL
          refine OW.cons (OP.val (v := v1248) rfl (x_assign) ?_)
          refine OW.nil ?_
          refine CW.regionL ?_
          refine OW.cons (OP.val (v := (.int .i64 (w64 (s_l2.2 + 1)))) rfl (x_add f1232 rfl) ?_)
          refine OW.cons (OP.val (v := (.int .i64 (w64 (s_l2.2 + 1)))) rfl (x_move) ?_)
          refine OW.nil ?_
          have hL := hL.sel [2, 3, 4, 5, 6, 7, 8, 9] (by decide) rfl
          obtain rfl := Option.some.inj hm
          exact ⟨_, rfl, ⟨v1248, S1249, f1222, f1223, f1224, f1225, rfl, f1227, f1228, f1229, f1230, f1231, rfl, hL⟩⟩
        · refine CW.exit ?_
          refine XJ.hit ?_
          obtain rfl := Option.some.inj hm
          exact ⟨_, rfl, ⟨v399, S400, f1222, f1223, f1224, f1225, f1226, f1227, f1228, f1229, f1230, f1231, f1232, hL⟩⟩
    · refine CW.exit ?_
      refine XJ.hit ?_
      obtain rfl := Option.some.inj hm
      exact ⟨_, rfl, ⟨v318, S319, v320, S321, f337, f338, f339, f340, f341, f342, hL⟩⟩

theorem M.impl_percentPoints_ok (w0 : World) (a0 : Int) (a1 : Int) {r : Int} (hm : M.impl_percentPoints a0 a1 = some r) :
    Calls Try.prog 74 #[(.int .i64 a0), (.int .i64 a1)] w0 fun e w' => e = .returned (.int .i64 r) ∧ Fresh w0 w' [] := by
  unfold M.impl_percentPoints at hm
  refine calls_CW (args := [(.int .i64 a0), (.int .i64 a1)]) Try.func74 rfl rfl rfl ?_
  have hL := Hp.start w0
  refine CW.seq ?_
  refine CW.regionL ?_
  refine OW.cons (OP.val (v := (.int .i64 0)) rfl (x_assign) ?_)
  refine OW.nil ?_
  refine CW.seq ?_
  refine CW.regionL ?_
  refine OW.cons (OP.val (v := (.int .i64 a0)) rfl (x_move) ?_)
  refine OW.cons (OP.val (v := (.int .i64 (w64 (20 * a0)))) rfl (x_mul rfl rfl) ?_)
  refine OW.cons (OP.val (v := (.int .i64 a1)) rfl (x_move) ?_)
  refine OW.cons (OP.val (v := (.int .i64 (w64 ((w64 (20 * a0)) * a1)))) rfl (x_mul rfl rfl) ?_)
  refine OW.cons (OP.val (v := (.int .i64 (w64 ((w64 ((w64 (20 * a0)) * a1)) + 100)))) rfl (x_add rfl rfl) ?_)
  refine OW.cons (OP.val (v := (.int .i64 (w64 ((w64 ((w64 ((w64 (20 * a0)) * a1)) + 100)).tdiv 200)))) rfl (x_quo rfl rfl (by decide)) ?_)
  refine OW.cons (OP.val (v := (.int .i64 (w64 ((w64 ((w64 ((w64 (20 * a0)) * a1)) + 100)).tdiv 200)))) rfl (x_assign) ?_)
  refine OW.nil ?_
  refine CW.ret ?_
  obtain rfl := Option.some.inj hm
  exact RR1 rfl rfl ⟨rfl, hL.fresh 0 rfl [] (by decide) (by decide) rfl⟩

theorem M.impl_penalizedTable_ok (w0 : World) (a0 : Series) {v1 : Value} (h2 : rdL (· < w0.heap.size) w0 v1 a0.Races) (a1 : List Penalty) {v3 : Value} (h4 : rdL (· < w0.heap.size) w0 v3 a1) {r : Table} (hm : M.impl_penalizedTable a0 a1 = some r) :
    Calls Try.prog 53 #[(.agg #[(.int .i64 a0.Boats), (.int .i64 a0.Scheme), v1]), v3] w0 fun e w' => ∃ (rv0 : Value) (rS0 : Nat → Prop), ∃ (rv1 : Value) (rS1 : Nat → Prop), e = .returned (.agg #[(.int .i64 r.Boats), rv0, rv1]) ∧ Fresh w0 w' [Ent.own 61 rS0 rv0 r.Points, Ent.own 61 rS1 rv1 r.Codes] := by
  unfold M.impl_penalizedTable at hm
  refine calls_CW (args := [(.agg #[(.int .i64 a0.Boats), (.int .i64 a0.Scheme), v1]), v3]) Try.func53 rfl rfl rfl ?_
  have hL := Hp.start w0
  refine CW.seq ?_
  refine CW.regionL ?_
  refine OW.cons (S_box (cs := #[(.int .i64 a0.Boats), (.int .i64 a0.Scheme), v1]) hL rfl rfl rfl ?_)
  intro wd5 b6 hL
  refine OW.cons (S_alloc (cs := #[(.int .i64 0), (.slice none 0 0), (.slice none 0 0)]) hL Try_T56 rfl rfl ?_)
  intro wd7 b8 hL
  refine OW.nil ?_
  refine CW.seq ?_
  refine CW.regionL ?_
  refine OW.cons (OP.val (v := (.agg #[(.int .i64 a0.Boats), (.int .i64 a0.Scheme), v1])) rfl (x_loadN (cs := [(.int .i64 a0.Boats), (.int .i64 a0.Scheme), v1]) Try.underlying31 Try_T31 rfl rfl (hL.cellsB 1 rfl (o := 0) (l := [(.int .i64 a0.Boats), (.int .i64 a0.Scheme), v1]) (by intro j u hj; exact (by simpa using hj)))) ?_)
  refine OW.cons (OP.val (v := v3) rfl (x_move) ?_)
  obtain ⟨x9, hx10, hm⟩ := bndE hm
  refine OW.cons (OP.call rfl (x_call (vs := [(.agg #[(.int .i64 a0.Boats), (.int .i64 a0.Scheme), v1]), v3]) Try_C44 ⟨rfl, rfl, trivial⟩) (M.impl_penalizedSeries_ok _ a0 (hL.rdS 2 rfl h2) a1 (hL.rdS 2 rfl h4) hx10) ?_)
  rintro e13 wd14 ⟨v12, S11, rfl, hF15⟩
  refine ⟨_, rfl, ?_⟩
  have hL := hL.pushAll hF15
  simp only [lA, lB, lC, lD] at hL
  refine OW.cons (S_alloc (cs := #[(.int .i64 0), (.int .i64 0), (.slice none 0 0)]) hL Try_T31 rfl rfl ?_)
  intro wd16 b17 hL
  refine OW.cons (S_storeN (l := [(.int .i64 x9.Boats), (.int .i64 x9.Scheme), v12]) (cs' := #[(.int .i64 x9.Boats), (.int .i64 x9.Scheme), v12]) hL 0 rfl Try_T31 rfl rfl (List.forall_mem_cons.2 ⟨rfl, (List.forall_mem_cons.2 ⟨rfl, (List.forall_mem_cons.2 ⟨rdL_one (hL.rdO 1 rfl), (fun _ h => by cases h)⟩)⟩)⟩) rfl (Nat.le_of_ble_eq_true rfl) rfl ?_)
  intro wd18 hL
  refine OW.nil ?_
  refine CW.seq ?_
  refine CW.regionL ?_
  refine OW.cons (OP.val (v := (.agg #[(.int .i64 x9.Boats), (.int .i64 x9.Scheme), v12])) rfl (x_loadN (cs := [(.int .i64 x9.Boats), (.int .i64 x9.Scheme), v12]) Try.underlying31 Try_T31 rfl rfl (hL.cellsB 0 rfl (o := 0) (l := [(.int .i64 x9.Boats), (.int .i64 x9.Scheme), v12]) (by intro j u hj; exact (by simpa using hj)))) ?_)
  obtain ⟨x19, hx20, hm⟩ := bndE hm
  refine OW.cons (OP.call rfl (x_call (vs := [(.agg #[(.int .i64 x9.Boats), (.int .i64 x9.Scheme), v12])]) Try_C56 ⟨rfl, trivial⟩) (M.impl_tableOf_ok _ x9 (hL.rdO 1 rfl) hx20) ?_)
  rintro e25 wd26 ⟨v22, S21, v24, S23, rfl, hF27⟩
  refine ⟨_, rfl, ?_⟩
  have hL := hL.pushAll hF27
  simp only [lA, lB, lC, lD] at hL
  refine OW.cons (S_alloc (cs := #[(.int .i64 0), (.slice none 0 0), (.slice none 0 0)]) hL Try_T56 rfl rfl ?_)
  intro wd28 b29 hL
  refine OW.cons (S_storeN (l := [(.int .i64 x19.Boats), v22, v24]) (cs' := #[(.int .i64 x19.Boats), v22, v24]) hL 0 rfl Try_T56 rfl rfl (List.forall_mem_cons.2 ⟨rfl, (List.forall_mem_cons.2 ⟨rdL_one (hL.rdO 1 rfl), (List.forall_mem_cons.2 ⟨rdL_one (hL.rdO 2 rfl), (fun _ h => by cases h)⟩)⟩)⟩) rfl (Nat.le_of_ble_eq_true rfl) rfl ?_)
  intro wd30 hL
  refine OW.nil ?_
  refine CW.seq ?_
  refine CW.seq ?_
  refine CW.regionL ?_
  refine OW.cons (OP.val (v := (.pointer (some ⟨b29, 1, none⟩))) rfl (x_fieldAddr (fsz := 1) 0 1 1 Try.underlying56 rfl Try_T54 rfl rfl rfl) ?_)
  refine OW.cons (OP.val (v := v22) rfl (x_load1 Try.underlying54 rfl rfl (hL.cellB 0 rfl rfl)) ?_)
  refine OW.cons (OP.val (v := (.int .i64 (x19.Points.length : Int))) rfl (x_lenR Try.underlying54 rfl (hL.rdO 1 rfl)) ?_)
  refine OW.cons (OP.val (v := (.int .i64 0)) rfl (x_move) ?_)
  refine OW.nil ?_
  obtain ⟨o19359, ho19360, hm⟩ := bndE hm
  refine CW.loopB (fun (s_l1 : (List (List Int)) × Int) (F : Fr) (w : World) => ∃ (S19356 : Nat → Prop), F 1 = v3 ∧ F 2 = (.pointer (some ⟨b6, 0, none⟩)) ∧ F 4 = (.pointer (some ⟨b8, 0, none⟩)) ∧ F 5 = (.pointer (some ⟨b17, 0, none⟩)) ∧ F 6 = (.pointer (some ⟨b29, 0, none⟩)) ∧ F 20 = v22 ∧ F 21 = (.int .i64 (x19.Points.length : Int)) ∧ F 22 = (.int .i64 s_l1.2) ∧ Hp w0 [Ent.blk b29 56 #[(.int .i64 x19.Boats), v22, v24], Ent.own 61 S19356 v22 s_l1.1, Ent.own 61 S23 v24 x19.Codes, Ent.blk b17 31 #[(.int .i64 x9.Boats), (.int .i64 x9.Scheme), v12], Ent.own 46 S11 v12 x9.Races, Ent.blk b8 56 #[(.int .i64 0), (.slice none 0 0), (.slice none 0 0)], Ent.blk b6 31 #[(.int .i64 a0.Boats), (.int .i64 a0.Scheme), v1], Ent.snap w0 w0.heap.size] w) (fun o => outc o (fun x => some x) (fun s => M.impl_penalizedTable_a1 x19 s) = some r) ho19360 hm ⟨S21, rfl, rfl, rfl, rfl, rfl, rfl, rfl, rfl, hL⟩ ?_ ?_
  · intro s_l1 F19361 wd19362 hJ hm
    have hm := outcE hm
    have hm : M.impl_penalizedTable_a1 x19 s_l1 = some r := hm
    unfold M.impl_penalizedTable_a1 at hm
    obtain ⟨S19356, f19363, f19364, f19365, f19366, f19367, f19368, f19369, f19370, hL⟩ := hJ
    refine CW.seq ?_
    refine CW.regionL ?_
    refine OW.cons (OP.val (v := (.agg #[(.int .i64 x19.Boats), v22, v24])) rfl (x_loadN (cs := [(.int .i64 x19.Boats), v22, v24]) Try.underlying56 Try_T56 rfl f19367 (hL.cellsB 0 rfl (o := 0) (l := [(.int .i64 x19.Boats), v22, v24]) (by intro j u hj; exact (by simpa using hj)))) ?_)
    refine OW.cons (S_storeN (l := [(.int .i64 x19.Boats), v22, v24]) (cs' := #[(.int .i64 x19.Boats), v22, v24]) hL 5 rfl Try_T56 f19365 rfl (List.forall_mem_cons.2 ⟨rfl, (List.forall_mem_cons.2 ⟨rdL_one (hL.rdO 1 rfl), (List.forall_mem_cons.2 ⟨rdL_one (hL.rdO 2 rfl), (fun _ h => by cases h)⟩)⟩)⟩) rfl (Nat.le_of_ble_eq_true rfl) rfl ?_)
    intro wd19371 hL
    refine OW.nil ?_
    refine CW.ret ?_
    obtain rfl := Option.some.inj hm
    exact RRc rfl f19365 (run_loadBlk Try.underlying56 Try_T56 (hL.get 5 rfl) rfl) ⟨v22, S19356, v24, S23, rfl, hL.fresh 7 rfl [1, 2] (by decide) (by decide) rfl⟩
  · intro s_l1 F19372 wd19373 t19357 hJ hm hr19358
    unfold M.impl_penalizedTable_l1 at hm
    obtain ⟨S19356, f19374, f19375, f19376, f19377, f19378, f19379, f19380, f19381, hL⟩ := hJ
    refine CW.seq ?_
    refine CW.regionL ?_
    refine OW.cons (OP.val (v := (.bool (decide (s_l1.2 < (x19.Points.length : Int))))) rfl (x_lss f19381 f19380) ?_)
    refine OW.nil ?_
    refine CW.seq ?_
    refine CW.condM (t := decide (s_l1.2 < (x19.Points.length : Int))) rfl hm (fun hb19382 hm => ?_) (fun hb19382 hm => ?_)
    · refine CW.skip ?_
      refine CW.seq ?_
      refine CW.block ?_
      refine CW.seq ?_
      refine CW.regionL ?_
      refine OW.cons (OP.val (v := (.int .i64 s_l1.2)) rfl (x_mv f19381) ?_)
      obtain ⟨wz19383, hL, ho19384⟩ := hL.freeze 1 rfl
      simp only [lC, lD] at hL
      obtain ⟨x19385, ha19386, hm⟩ := bndE hm
      obtain ⟨hz19387, ha19395⟩ := idxE ha19386
      obtain ⟨b19388, q19389, v19390, hix19391, hs19392, hc19393, hr19394⟩ := rdN_at ho19384.1.rdL hz19387 ha19395
      refine OW.cons (OP.val (v := (.pointer (some ⟨b19388, q19389, none⟩))) rfl (x_ix Try.underlying54 Try_T61 f19379 f19381 hix19391) ?_)
      refine OW.cons (OP.val (v := v19390) rfl (x_load1 Try.underlying61 rfl rfl (hL.cellF 1 rfl hs19392 hc19393)) ?_)
      refine OW.cons (OP.val (v := (.int .i64 s_l1.2)) rfl (x_assign) ?_)
      refine OW.cons (OP.val (v := v19390) rfl (x_assign) ?_)
      refine OW.nil ?_
      refine CW.seq ?_
      refine CW.regionL ?_
      refine OW.cons (OP.val (v := v19390) rfl (x_move) ?_)
      refine OW.cons (OP.val (v := (.int .i64 (x19385.length : Int))) rfl (x_lenR Try.underlying61 rfl (hL.rdF 1 rfl hr19394)) ?_)
      refine OW.cons (OP.val (v := (.int .i64 0)) rfl (x_move) ?_)
      refine OW.nil ?_
      obtain ⟨o25803, ho25804, hm⟩ := bndE hm
      have hc25805 := hL.cellF 1 rfl hs19392 hc19393
      have hL := hL.thaw 1 rfl ho19384
      refine CW.loopB (fun (s_l2 : (List (List Int)) × Int) (F : Fr) (w : World) => ∃ (S25800 : Nat → Prop), F 1 = v3 ∧ F 2 = (.pointer (some ⟨b6, 0, none⟩)) ∧ F 4 = (.pointer (some ⟨b8, 0, none⟩)) ∧ F 5 = (.pointer (some ⟨b17, 0, none⟩)) ∧ F 6 = (.pointer (some ⟨b29, 0, none⟩)) ∧ F 7 = (.int .i64 s_l1.2) ∧ F 8 = v19390 ∧ F 20 = v22 ∧ F 21 = (.int .i64 (x19.Points.length : Int)) ∧ F 22 = (.int .i64 s_l1.2) ∧ F 28 = (.int .i64 (x19385.length : Int)) ∧ F 29 = (.int .i64 s_l2.2) ∧ w.cell? ⟨b19388, q19389, none⟩ = some v19390 ∧ Hp w0 [Ent.blk b29 56 #[(.int .i64 x19.Boats), v22, v24], Ent.own 61 S25800 v22 s_l2.1, Ent.own 61 S23 v24 x19.Codes, Ent.blk b17 31 #[(.int .i64 x9.Boats), (.int .i64 x9.Scheme), v12], Ent.own 46 S11 v12 x9.Races, Ent.blk b8 56 #[(.int .i64 0), (.slice none 0 0), (.slice none 0 0)], Ent.blk b6 31 #[(.int .i64 a0.Boats), (.int .i64 a0.Scheme), v1], Ent.snap w0 w0.heap.size] w) (fun o => outc o (fun x => some (.ret x)) (fun s => M.impl_penalizedTable_a2 s_l1 s) = some t19357) ho25804 hm ⟨S19356, f19374, f19375, f19376, f19377, f19378, rfl, rfl, f19379, f19380, f19381, rfl, rfl, hc25805, hL⟩ ?_ ?_
      · intro s_l2 F25806 wd25807 hJ hm
        have hm := outcE hm
        have hm : M.impl_penalizedTable_a2 s_l1 s_l2 = some t19357 := hm
        unfold M.impl_penalizedTable_a2 at hm
        obtain ⟨S25800, f25808, f25809, f25810, f25811, f25812, f25813, f25814, f25815, f25816, f25817, f25818, f25819, hc25820, hL⟩ := hJ
        refine CW.regionL ?_
        refine OW.cons (OP.val (v := (.int .i64 (w64 (s_l1.2 + 1)))) rfl (x_add f25817 rfl) ?_)
        refine OW.cons (OP.val (v := (.int .i64 (w64 (s_l1.2 + 1)))) rfl (x_move) ?_)
        refine OW.nil ?_
        obtain rfl := Option.some.inj hm
        exact ⟨_, rfl, ⟨S25800, f25808, f25809, f25810, f25811, f25812, f25815, f25816, rfl, hL⟩⟩
      · intro s_l2 F25821 wd25822 t25801 hJ hm hr25802
        unfold M.impl_penalizedTable_l2 at hm
        obtain ⟨S25800, f25823, f25824, f25825, f25826, f25827, f25828, f25829, f25830, f25831, f25832, f25833, f25834, hc25835, hL⟩ := hJ
        obtain ⟨x25836, ha25837, hm⟩ := bndE hm
        obtain ⟨hz25838, ha25839⟩ := idxE ha25837
        obtain ⟨wz25840, hL, ho25841, hs25842, hc25843, hr25844⟩ := hL.freezeAt (α := Int) 1 rfl hix19391 ha25839 hc25835
        simp only [lC, lD] at hL
        refine CW.seq ?_
        refine CW.regionL ?_
        refine OW.cons (OP.val (v := (.bool (decide (s_l2.2 < (x19385.length : Int))))) rfl (x_lss f25834 f25833) ?_)
        refine OW.nil ?_
        refine CW.seq ?_
        refine CW.condM (t := decide (s_l2.2 < (x19385.length : Int))) rfl hm (fun hb25845 hm => ?_) (fun hb25845 hm => ?_)
        · refine CW.skip ?_
          refine CW.seqJ (fun (s_j1 : (List (List Int))) (F : Fr) (w : World) => ∃ (S27431 : Nat → Prop), F 1 = v3 ∧ F 2 = (.pointer (some ⟨b6, 0, none⟩)) ∧ F 4 = (.pointer (some ⟨b8, 0, none⟩)) ∧ F 5 = (.pointer (some ⟨b17, 0, none⟩)) ∧ F 6 = (.pointer (some ⟨b29, 0, none⟩)) ∧ F 7 = (.int .i64 s_l1.2) ∧ F 8 = v19390 ∧ F 20 = v22 ∧ F 21 = (.int .i64 (x19.Points.length : Int)) ∧ F 22 = (.int .i64 s_l1.2) ∧ F 28 = (.int .i64 (x19385.length : Int)) ∧ F 29 = (.int .i64 s_l2.2) ∧ w.cell? ⟨b19388, q19389, none⟩ = some v19390 ∧ Hp w0 [Ent.blk b29 56 #[(.int .i64 x19.Boats), v22, v24], Ent.own 61 S27431 v22 s_j1, Ent.own 61 S23 v24 x19.Codes, Ent.blk b17 31 #[(.int .i64 x9.Boats), (.int .i64 x9.Scheme), v12], Ent.own 46 S11 v12 x9.Races, Ent.blk b8 56 #[(.int .i64 0), (.slice none 0 0), (.slice none 0 0)], Ent.blk b6 31 #[(.int .i64 a0.Boats), (.int .i64 a0.Scheme), v1], Ent.snap w0 w0.heap.size] w) (fun s_j1 => M.impl_penalizedTable_j1 s_l1 s_l2 s_j1 = some t25801) ?_ ?_
          · refine CW.blockJ (fun (s_j2 : (List (List Int))) (F : Fr) (w : World) => ∃ (S28236 : Nat → Prop), F 1 = v3 ∧ F 2 = (.pointer (some ⟨b6, 0, none⟩)) ∧ F 4 = (.pointer (some ⟨b8, 0, none⟩)) ∧ F 5 = (.pointer (some ⟨b17, 0, none⟩)) ∧ F 6 = (.pointer (some ⟨b29, 0, none⟩)) ∧ F 7 = (.int .i64 s_l1.2) ∧ F 8 = v19390 ∧ F 20 = v22 ∧ F 21 = (.int .i64 (x19.Points.length : Int)) ∧ F 22 = (.int .i64 s_l1.2) ∧ F 28 = (.int .i64 (x19385.length : Int)) ∧ F 29 = (.int .i64 s_l2.2) ∧ w.cell? ⟨b19388, q19389, none⟩ = some v19390 ∧ Hp w0 [Ent.blk b29 56 #[(.int .i64 x19.Boats), v22, v24], Ent.own 61 S28236 v22 s_j2, Ent.own 61 S23 v24 x19.Codes, Ent.blk b17 31 #[(.int .i64 x9.Boats), (.int .i64 x9.Scheme), v12], Ent.own 46 S11 v12 x9.Races, Ent.blk b8 56 #[(.int .i64 0), (.slice none 0 0), (.slice none 0 0)], Ent.blk b6 31 #[(.int .i64 a0.Boats), (.int .i64 a0.Scheme), v1], Ent.snap w0 w0.heap.size] w) (fun s_j2 => M.impl_penalizedTable_j2 s_l1 s_l2 s_j2 = some t25801) ?_ ?_
            · refine CW.seq ?_
              refine CW.regionL ?_
              refine OW.cons (OP.val (v := (.int .i64 s_l2.2)) rfl (x_mv f25834) ?_)
              refine OW.cons (OP.val (v := (.int .i64 s_l2.2)) rfl (x_assign) ?_)
              refine OW.nil ?_
              refine CW.seq ?_
              refine CW.seq ?_
              refine CW.regionL ?_
              refine OW.cons (OP.val (v := (.pointer (some ⟨b29, 2, none⟩))) rfl (x_fieldAddr (fsz := 1) 0 2 2 Try.underlying56 rfl Try_T54 rfl f25827 rfl) ?_)
              refine OW.cons (OP.val (v := v24) rfl (x_load1 Try.underlying54 rfl rfl (hL.cellB 0 rfl rfl)) ?_)
              refine OW.cons (OP.val (v := (.int .i64 s_l1.2)) rfl (x_mv f25828) ?_)
              obtain ⟨wz28262, hL, ho28263⟩ := hL.freeze 2 rfl
              simp only [lC, lD] at hL
              obtain ⟨x28264, ha28265, hm⟩ := bndE hm
              obtain ⟨hz28266, ha28274⟩ := idxE ha28265
              obtain ⟨b28267, q28268, v28269, hix28270, hs28271, hc28272, hr28273⟩ := rdN_at ho28263.1.rdL hz28266 ha28274
              refine OW.cons (OP.val (v := (.pointer (some ⟨b28267, q28268, none⟩))) rfl (x_ix Try.underlying54 Try_T61 rfl rfl hix28270) ?_)
              refine OW.cons (OP.val (v := v28269) rfl (x_load1 Try.underlying61 rfl rfl (hL.cellF 2 rfl hs28271 hc28272)) ?_)
              refine OW.cons (OP.val (v := (.int .i64 s_l2.2)) rfl (x_move) ?_)
              obtain ⟨x28275, ha28276, hm⟩ := bndE hm
              obtain ⟨hz28277, ha28281⟩ := idxE ha28276
              obtain ⟨b28278, q28279, hix28280⟩ := rdL_ix (hL.rdF 2 rfl hr28273) hz28277 ha28281
              refine OW.cons (OP.val (v := (.pointer (some ⟨b28278, q28279, none⟩))) rfl (x_ix Try.underlying61 Try_T2 rfl rfl hix28280) ?_)
              refine OW.cons (OP.val (v := (.int .i64 x28275)) rfl (x_load1 Try.underlying2 rfl rfl (rdF_cells (hL.rdF 2 rfl hr28273) hix28280 ha28281 0 _ rfl)) ?_)
              refine OW.cons (OP.val (v := (.bool (x28275 != 0))) rfl (x_neq rfl rfl) ?_)
              refine OW.nil ?_
              refine CW.condM (t := x28275 != 0) rfl hm (fun hb28282 hm => ?_) (fun hb28282 hm => ?_)
              · refine CW.exit ?_
                refine XJ.hit ?_
                have hc28283 := hL.cellF 1 rfl hs25842 hc25843
                have hL := hL.thaw 1 rfl ho25841
                have hL := hL.thaw 2 rfl ho28263
                exact ⟨s_l2.1, hm, ⟨S25800, f25823, f25824, f25825, f25826, f25827, f25828, f25829, f25830, f25831, f25832, f25833, f25834, hc28283, hL⟩⟩
              · refine CW.skip ?_
                refine CW.seq ?_
                refine CW.regionL ?_
                refine OW.cons (OP.val (v := (.int .i64 0)) rfl (x_assign) ?_)
                refine OW.nil ?_
                refine CW.seq ?_
                refine CW.seq ?_
                refine CW.regionL ?_
                refine OW.cons (OP.val (v := v3) rfl (x_mv f25823) ?_)
                refine OW.cons (OP.val (v := (.int .i64 (a1.length : Int))) rfl (x_lenR Try.underlying33 rfl (hL.rdS 7 rfl h4)) ?_)
                refine OW.cons (OP.val (v := (.int .i64 0)) rfl (x_move) ?_)
                refine OW.nil ?_
                have hL := hL.thaw 2 rfl ho28263
                obtain ⟨o28730, ho28731, hm⟩ := bndE hm
                refine CW.loopB (fun (s_l3 : Int × Int) (F : Fr) (w : World) => F 1 = v3 ∧ F 2 = (.pointer (some ⟨b6, 0, none⟩)) ∧ F 4 = (.pointer (some ⟨b8, 0, none⟩)) ∧ F 5 = (.pointer (some ⟨b17, 0, none⟩)) ∧ F 6 = (.pointer (some ⟨b29, 0, none⟩)) ∧ F 7 = (.int .i64 s_l1.2) ∧ F 8 = v19390 ∧ F 9 = (.int .i64 s_l2.2) ∧ F 10 = (.int .i64 s_l3.1) ∧ F 20 = v22 ∧ F 21 = (.int .i64 (x19.Points.length : Int)) ∧ F 22 = (.int .i64 s_l1.2) ∧ F 28 = (.int .i64 (x19385.length : Int)) ∧ F 29 = (.int .i64 s_l2.2) ∧ F 41 = v3 ∧ F 42 = (.int .i64 (a1.length : Int)) ∧ F 43 = (.int .i64 s_l3.2) ∧ Hp w0 [Ent.blk b29 56 #[(.int .i64 x19.Boats), v22, v24], Ent.frzS wz25840 S25800, Ent.own 61 S23 v24 x19.Codes, Ent.blk b17 31 #[(.int .i64 x9.Boats), (.int .i64 x9.Scheme), v12], Ent.own 46 S11 v12 x9.Races, Ent.blk b8 56 #[(.int .i64 0), (.slice none 0 0), (.slice none 0 0)], Ent.blk b6 31 #[(.int .i64 a0.Boats), (.int .i64 a0.Scheme), v1], Ent.snap w0 w0.heap.size] w) (fun o => outc o (fun x => some (.ret x)) (fun s => M.impl_penalizedTable_a3 a0 x9 s_l1 s_l2 x25836 s) = some t25801) ho28731 hm ⟨f25823, f25824, f25825, f25826, f25827, f25828, f25829, rfl, rfl, f25830, f25831, f25832, f25833, f25834, rfl, rfl, rfl, hL⟩ ?_ ?_
                · intro s_l3 F28732 wd28733 hJ hm
                  have hm := outcE hm
                  have hm : M.impl_penalizedTable_a3 a0 x9 s_l1 s_l2 x25836 s_l3 = some t25801 := hm
                  unfold M.impl_penalizedTable_a3 at hm
                  obtain ⟨f28734, f28735, f28736, f28737, f28738, f28739, f28740, f28741, f28742, f28743, f28744, f28745, f28746, f28747, f28748, f28749, f28750, hL⟩ := hJ
                  refine CW.seq ?_
                  obtain ⟨wz28751, hL, ho28752⟩ := hL.freeze 2 rfl
                  simp only [lC, lD] at hL
                  obtain ⟨wz28753, hL, ho28754⟩ := hL.freeze 4 rfl
                  simp only [lC, lD] at hL
                  refine CW.draw Try_mixed ?_
                  have hL := hL.call (Mod.drew _)
                  refine DW.pre (fuel := 0) (fin := (((((((((((Array.replicate 10 false).setIfInBounds 0 true).setIfInBounds 1 true).setIfInBounds 2 true).setIfInBounds 3 true).setIfInBounds 4 true).setIfInBounds 5 true).setIfInBounds 6 true).setIfInBounds 7 true).setIfInBounds 8 true).setIfInBounds 9 true)) (C := fun w' => Mod None_ _ w') [0, 1, 2, 3, 4, 5, 6, 7, 8, 9] (Mod.refl _ _) (by kernel_rfl) (by kernel_rfl) ?_
                  refine QW.cons rfl (QP.val (v := (.pointer (some ⟨b17, 2, none⟩))) rfl (fun w' hm' => x_fieldAddr (fsz := 1) 0 2 2 Try.underlying31 rfl Try_T29 rfl f28737 rfl) ?_)
                  refine QW.cons rfl (QP.val (v := v12) rfl (fun w' hm' => x_load1 Try.underlying29 rfl rfl ((hL.call hm').cellB 3 rfl rfl)) ?_)
                  refine QW.cons rfl (QP.val (v := (.int .i64 s_l1.2)) rfl (fun w' hm' => x_mv f28739) ?_)
                  obtain ⟨x28755, ha28756, hm⟩ := bndE hm
                  obtain ⟨hz28757, ha28765⟩ := idxE ha28756
                  obtain ⟨b28758, q28759, v28760, hix28761, hs28762, hc28763, hr28764⟩ := rdN_at ho28754.1.rdL hz28757 ha28765
                  refine QW.cons rfl (QP.val (v := (.pointer (some ⟨b28758, q28759, none⟩))) rfl (fun w' hm' => x_ix Try.underlying29 Try_T46 rfl rfl hix28761) ?_)
                  refine QW.cons rfl (QP.val (v := (.pointer (some ⟨b28758, q28759, none⟩))) rfl (fun w' hm' => x_fieldAddr (fsz := 1) q28759 0 q28759 Try.underlying46 rfl Try_T44 rfl rfl rfl) ?_)
                  refine QW.cons rfl (QP.val (v := v28760) rfl (fun w' hm' => x_load1 Try.underlying44 rfl rfl ((hL.call hm').cellF 4 rfl hs28762 hc28763)) ?_)
                  refine QW.cons rfl (QP.val (v := (.pointer (some ⟨b6, 1, none⟩))) rfl (fun w' hm' => x_fieldAddr (fsz := 1) 0 1 1 Try.underlying31 rfl Try_T2 rfl f28735 rfl) ?_)
                  refine QW.cons rfl (QP.val (v := (.int .i64 a0.Scheme)) rfl (fun w' hm' => x_load1 Try.underlying2 rfl rfl ((hL.call hm').cellB 6 rfl rfl)) ?_)
                  obtain ⟨x28766, hx28767, hm⟩ := bndE hm
                  refine QW.cons rfl (QP.call (v := (.int .i64 x28766)) rfl (fun w' hm' => x_call (vs := [v28760, (.int .i64 4), (.int .i64 a0.Scheme)]) Try_C75 ⟨rfl, rfl, rfl, trivial⟩) (fun w' hm' => (M.impl_codePoints_ok w' x28755.Finishes ((hL.call hm').rdF 4 rfl hr28764) 4 a0.Scheme hx28767).mono (fun e w'' h => ⟨h.1, hm'.trans h.2.mod⟩)) ?_)
                  refine QW.cons rfl (QP.val (v := (.int .i64 x28766)) rfl (fun w' hm' => x_assign) ?_)
                  refine QW.nil ?_
                  intro wd28768 hmod
                  have hL := hL.call hmod
                  refine DW.done (by kernel_rfl) ?_
                  refine CW.draw Try_mixed ?_
                  have hL := hL.call (Mod.drew _)
                  refine DW.pre (fuel := 1) (fin := (((((((((((((((((Array.replicate 17 false).setIfInBounds 0 true).setIfInBounds 1 true).setIfInBounds 2 true).setIfInBounds 3 true).setIfInBounds 4 true).setIfInBounds 5 true).setIfInBounds 6 true).setIfInBounds 7 true).setIfInBounds 8 true).setIfInBounds 9 true).setIfInBounds 10 true).setIfInBounds 11 true).setIfInBounds 12 true).setIfInBounds 13 true).setIfInBounds 14 true).setIfInBounds 15 true)) (C := fun w' => Mod None_ _ w') [0, 1, 2, 3, 4, 5, 6, 7, 8, 9, 10, 11, 12, 13, 14, 15] (Mod.refl _ _) (by kernel_rfl) (by kernel_rfl) ?_
                  refine QW.cons rfl (QP.val (v := v19390) rfl (fun w' hm' => x_mv f28740) ?_)
                  refine QW.cons rfl (QP.val (v := (.int .i64 s_l2.2)) rfl (fun w' hm' => x_mv f28741) ?_)
                  refine QW.cons rfl (QP.val (v := v19390) rfl (fun w' hm' => x_mv f28740) ?_)
                  refine QW.cons rfl (QP.val (v := (.int .i64 s_l2.2)) rfl (fun w' hm' => x_mv f28741) ?_)
                  obtain ⟨x28769, ha28770, hm⟩ := bndE hm
                  obtain ⟨hz28771, ha28775⟩ := idxE ha28770
                  obtain ⟨b28772, q28773, hix28774⟩ := rdL_ix (hL.rdF 1 rfl hr25844) hz28771 ha28775
                  refine QW.cons rfl (QP.val (v := (.pointer (some ⟨b28772, q28773, none⟩))) rfl (fun w' hm' => x_ix Try.underlying61 Try_T2 rfl rfl hix28774) ?_)
                  refine QW.cons rfl (QP.val (v := (.int .i64 x28769)) rfl (fun w' hm' => x_load1 Try.underlying2 rfl rfl (rdF_cells ((hL.call hm').rdF 1 rfl hr25844) hix28774 ha28775 0 _ rfl)) ?_)
                  refine QW.cons rfl (QP.val (v := (.int .i64 x28766)) rfl (fun w' hm' => x_move) ?_)
                  refine QW.cons rfl (QP.val (v := v19390) rfl (fun w' hm' => x_mv f28740) ?_)
                  refine QW.cons rfl (QP.val (v := (.int .i64 s_l2.2)) rfl (fun w' hm' => x_mv f28741) ?_)
                  obtain ⟨x28776, ha28777, hm⟩ := bndE hm
                  obtain ⟨hz28778, ha28782⟩ := idxE ha28777
                  obtain ⟨b28779, q28780, hix28781⟩ := rdL_ix (hL.rdF 1 rfl hr25844) hz28778 ha28782
                  refine QW.cons rfl (QP.val (v := (.pointer (some ⟨b28779, q28780, none⟩))) rfl (fun w' hm' => x_ix Try.underlying61 Try_T2 rfl rfl hix28781) ?_)
                  refine QW.cons rfl (QP.val (v := (.int .i64 x28776)) rfl (fun w' hm' => x_load1 Try.underlying2 rfl rfl (rdF_cells ((hL.call hm').rdF 1 rfl hr25844) hix28781 ha28782 0 _ rfl)) ?_)
                  refine QW.cons rfl (QP.val (v := (.int .i64 s_l3.1)) rfl (fun w' hm' => x_mv f28742) ?_)
                  refine QW.cons rfl (QP.val (v := (.int .i64 (w64 (x28776 + s_l3.1)))) rfl (fun w' hm' => x_add rfl rfl) ?_)
                  refine QW.cons rfl (QP.val (v := (.int .i64 (min x28766 (w64 (x28776 + s_l3.1))))) rfl (fun w' hm' => x_min2 rfl rfl) ?_)
                  refine QW.cons rfl (QP.val (v := (.int .i64 (max x28769 (min x28766 (w64 (x28776 + s_l3.1)))))) rfl (fun w' hm' => x_max2 rfl rfl) ?_)
                  obtain ⟨x28783, ha28784, hm⟩ := bndE hm
                  obtain ⟨hz28785, ha28789⟩ := idxE ha28784
                  obtain ⟨b28786, q28787, hix28788⟩ := rdL_ix (hL.rdF 1 rfl hr25844) hz28785 ha28789
                  refine QW.cons rfl (QP.val (v := (.pointer (some ⟨b28786, q28787, none⟩))) rfl (fun w' hm' => x_ix Try.underlying61 Try_T2 rfl rfl hix28788) ?_)
                  refine QW.nil ?_
                  intro wd28790 hmod
                  have hL := hL.call hmod
                  have hc28792 := hL.cellF 1 rfl hs25842 hc25843
                  have hL := hL.thaw 1 rfl ho25841
                  simp only [lC, lD] at hL
                  refine DW.only 16 rfl (by kernel_rfl) (S_inRowC (α := Int) (x25836.set (s_l2.2 : Int).toNat (max x28769 (min x28766 (w64 (x28776 + s_l3.1))))) (x25836.set (s_l2.2 : Int).toNat (max x28769 (min x28766 (w64 (x28776 + s_l3.1))))) rfl hL 1 rfl hix19391 ha25839 hc28792 (fun E2 S1 hL hK => S_storeX (j := 0) (max x28769 (min x28766 (w64 (x28776 + s_l3.1)))) hL 0 rfl Try_T2 hix28788 ha28789 rfl rfl rfl rfl rfl rfl hK) ?_)
                  intro wd28791 S28793 hL hc28794 ha28795
                  simp only [lC, lD] at hL
                  obtain ⟨wz28796, hL, ho28797, hs28798, hc28799, hr28800⟩ := hL.freezeAt (α := Int) 1 rfl hix19391 ha28795 hc28794
                  simp only [lC, lD] at hL
                  refine DW.done (by kernel_rfl) ?_
                  have hc28801 := hL.cellF 1 rfl hs28798 hc28799
                  have hL := hL.thaw 1 rfl ho28797
                  have hL := hL.thaw 2 rfl ho28752
                  have hL := hL.thaw 4 rfl ho28754
                  exact ⟨s_l2.1.set (s_l1.2 : Int).toNat (x25836.set (s_l2.2 : Int).toNat (max x28769 (min x28766 (w64 (x28776 + s_l3.1))))), hm, ⟨S28793, f28734, f28735, f28736, f28737, f28738, f28739, f28740, f28743, f28744, f28745, f28746, f28747, hc28801, hL⟩⟩
                · intro s_l3 F28802 wd28803 t28728 hJ hm hr28729
                  unfold M.impl_penalizedTable_l3 at hm
                  obtain ⟨f28804, f28805, f28806, f28807, f28808, f28809, f28810, f28811, f28812, f28813, f28814, f28815, f28816, f28817, f28818, f28819, f28820, hL⟩ := hJ
                  refine CW.seq ?_
                  refine CW.regionL ?_
                  refine OW.cons (OP.val (v := (.bool (decide (s_l3.2 < (a1.length : Int))))) rfl (x_lss f28820 f28819) ?_)
                  refine OW.nil ?_
                  refine CW.seq ?_
                  refine CW.condM (t := decide (s_l3.2 < (a1.length : Int))) rfl hm (fun hb28821 hm => ?_) (fun hb28821 hm => ?_)
                  · refine CW.skip ?_
                    refine CW.seqJ (fun (s_j3 : Int) (F : Fr) (w : World) => F 1 = v3 ∧ F 2 = (.pointer (some ⟨b6, 0, none⟩)) ∧ F 4 = (.pointer (some ⟨b8, 0, none⟩)) ∧ F 5 = (.pointer (some ⟨b17, 0, none⟩)) ∧ F 6 = (.pointer (some ⟨b29, 0, none⟩)) ∧ F 7 = (.int .i64 s_l1.2) ∧ F 8 = v19390 ∧ F 9 = (.int .i64 s_l2.2) ∧ F 10 = (.int .i64 s_j3) ∧ F 20 = v22 ∧ F 21 = (.int .i64 (x19.Points.length : Int)) ∧ F 22 = (.int .i64 s_l1.2) ∧ F 28 = (.int .i64 (x19385.length : Int)) ∧ F 29 = (.int .i64 s_l2.2) ∧ F 41 = v3 ∧ F 42 = (.int .i64 (a1.length : Int)) ∧ F 43 = (.int .i64 s_l3.2) ∧ Hp w0 [Ent.blk b29 56 #[(.int .i64 x19.Boats), v22, v24], Ent.frzS wz25840 S25800, Ent.own 61 S23 v24 x19.Codes, Ent.blk b17 31 #[(.int .i64 x9.Boats), (.int .i64 x9.Scheme), v12], Ent.own 46 S11 v12 x9.Races, Ent.blk b8 56 #[(.int .i64 0), (.slice none 0 0), (.slice none 0 0)], Ent.blk b6 31 #[(.int .i64 a0.Boats), (.int .i64 a0.Scheme), v1], Ent.snap w0 w0.heap.size] w) (fun s_j3 => M.impl_penalizedTable_j3 s_l3 s_j3 = some t28728) ?_ ?_
                    · refine CW.blockJ (fun (s_j4 : Int) (F : Fr) (w : World) => F 1 = v3 ∧ F 2 = (.pointer (some ⟨b6, 0, none⟩)) ∧ F 4 = (.pointer (some ⟨b8, 0, none⟩)) ∧ F 5 = (.pointer (some ⟨b17, 0, none⟩)) ∧ F 6 = (.pointer (some ⟨b29, 0, none⟩)) ∧ F 7 = (.int .i64 s_l1.2) ∧ F 8 = v19390 ∧ F 9 = (.int .i64 s_l2.2) ∧ F 10 = (.int .i64 s_j4) ∧ F 20 = v22 ∧ F 21 = (.int .i64 (x19.Points.length : Int)) ∧ F 22 = (.int .i64 s_l1.2) ∧ F 28 = (.int .i64 (x19385.length : Int)) ∧ F 29 = (.int .i64 s_l2.2) ∧ F 41 = v3 ∧ F 42 = (.int .i64 (a1.length : Int)) ∧ F 43 = (.int .i64 s_l3.2) ∧ Hp w0 [Ent.blk b29 56 #[(.int .i64 x19.Boats), v22, v24], Ent.frzS wz25840 S25800, Ent.own 61 S23 v24 x19.Codes, Ent.blk b17 31 #[(.int .i64 x9.Boats), (.int .i64 x9.Scheme), v12], Ent.own 46 S11 v12 x9.Races, Ent.blk b8 56 #[(.int .i64 0), (.slice none 0 0), (.slice none 0 0)], Ent.blk b6 31 #[(.int .i64 a0.Boats), (.int .i64 a0.Scheme), v1], Ent.snap w0 w0.heap.size] w) (fun s_j4 => M.impl_penalizedTable_j4 s_l3 s_j4 = some t28728) ?_ ?_
                      · refine CW.seq ?_
                        refine CW.regionL ?_
                        obtain ⟨x29002, ha29003, hm⟩ := bndE hm
                        obtain ⟨hz29004, ha29008⟩ := idxE ha29003
                        obtain ⟨b29005, q29006, hix29007⟩ := rdL_ix (hL.rdS 7 rfl h4) hz29004 ha29008
                        refine OW.cons (OP.val (v := (.pointer (some ⟨b29005, q29006, none⟩))) rfl (x_ix Try.underlying33 Try_T48 f28818 f28820 hix29007) ?_)
                        refine OW.cons (OP.val (v := (.agg #[(.int .i64 x29002.Race), (.int .i64 x29002.Boat), (.int .i64 x29002.Kind), (.int .i64 x29002.Value)])) rfl (x_loadN (cs := [(.int .i64 x29002.Race), (.int .i64 x29002.Boat), (.int .i64 x29002.Kind), (.int .i64 x29002.Value)]) Try.underlying48 Try_T48 rfl rfl (rdF_cells (hL.rdS 7 rfl h4) hix29007 ha29008)) ?_)
                        refine OW.cons (S_alloc (cs := #[(.int .i64 0), (.int .i64 0), (.int .i64 0), (.int .i64 0)]) hL Try_T48 rfl rfl ?_)
                        intro wd29009 b29010 hL
                        refine OW.cons (S_storeN (l := [(.int .i64 x29002.Race), (.int .i64 x29002.Boat), (.int .i64 x29002.Kind), (.int .i64 x29002.Value)]) (cs' := #[(.int .i64 x29002.Race), (.int .i64 x29002.Boat), (.int .i64 x29002.Kind), (.int .i64 x29002.Value)]) hL 0 rfl Try_T48 rfl rfl (List.forall_mem_cons.2 ⟨rfl, (List.forall_mem_cons.2 ⟨rfl, (List.forall_mem_cons.2 ⟨rfl, (List.forall_mem_cons.2 ⟨rfl, (fun _ h => by cases h)⟩)⟩)⟩)⟩) rfl (Nat.le_of_ble_eq_true rfl) rfl ?_)
                        intro wd29011 hL
                        refine OW.nil ?_
                        refine CW.seqJ (fun (s_j5 : Bool) (F : Fr) (w : World) => F 1 = v3 ∧ F 2 = (.pointer (some ⟨b6, 0, none⟩)) ∧ F 4 = (.pointer (some ⟨b8, 0, none⟩)) ∧ F 5 = (.pointer (some ⟨b17, 0, none⟩)) ∧ F 6 = (.pointer (some ⟨b29, 0, none⟩)) ∧ F 7 = (.int .i64 s_l1.2) ∧ F 8 = v19390 ∧ F 9 = (.int .i64 s_l2.2) ∧ F 10 = (.int .i64 s_l3.1) ∧ F 12 = (.pointer (some ⟨b29010, 0, none⟩)) ∧ F 20 = v22 ∧ F 21 = (.int .i64 (x19.Points.length : Int)) ∧ F 22 = (.int .i64 s_l1.2) ∧ F 28 = (.int .i64 (x19385.length : Int)) ∧ F 29 = (.int .i64 s_l2.2) ∧ F 41 = v3 ∧ F 42 = (.int .i64 (a1.length : Int)) ∧ F 43 = (.int .i64 s_l3.2) ∧ F 61 = (.bool s_j5) ∧ Hp w0 [Ent.blk b29010 48 #[(.int .i64 x29002.Race), (.int .i64 x29002.Boat), (.int .i64 x29002.Kind), (.int .i64 x29002.Value)], Ent.blk b29 56 #[(.int .i64 x19.Boats), v22, v24], Ent.frzS wz25840 S25800, Ent.own 61 S23 v24 x19.Codes, Ent.blk b17 31 #[(.int .i64 x9.Boats), (.int .i64 x9.Scheme), v12], Ent.own 46 S11 v12 x9.Races, Ent.blk b8 56 #[(.int .i64 0), (.slice none 0 0), (.slice none 0 0)], Ent.blk b6 31 #[(.int .i64 a0.Boats), (.int .i64 a0.Scheme), v1], Ent.snap w0 w0.heap.size] w) (fun s_j5 => M.impl_penalizedTable_j5 a0 s_l3 x29002 s_j5 = some t28728) ?_ ?_
                        · refine CW.regionL ?_
                          refine OW.cons (OP.val (v := (.pointer (some ⟨b29010, 2, none⟩))) rfl (x_fieldAddr (fsz := 1) 0 2 2 Try.underlying48 rfl Try_T2 rfl rfl rfl) ?_)
                          refine OW.cons (OP.val (v := (.int .i64 x29002.Kind)) rfl (x_load1 Try.underlying2 rfl rfl (hL.cellB 0 rfl rfl)) ?_)
                          refine OW.cons (OP.val (v := (.bool (x29002.Kind == 3))) rfl (x_eql rfl rfl) ?_)
                          refine OW.cons (OP.val (v := (.bool (x29002.Kind == 3))) rfl (x_move) ?_)
                          refine ifB_elim hm (fun hb29041 hm => ?_) (fun hb29041 hm => ?_)
                          · refine OW.cons (OP.yes' rfl rfl hb29041 (OP.val (v := (.pointer (some ⟨b29010, 0, none⟩))) rfl (x_fieldAddr (fsz := 1) 0 0 0 Try.underlying48 rfl Try_T2 rfl rfl rfl) ?_))
                            refine OW.cons (OP.yes' rfl rfl hb29041 (OP.val (v := (.int .i64 x29002.Race)) rfl (x_load1 Try.underlying2 rfl rfl (hL.cellB 0 rfl rfl)) ?_))
                            refine OW.cons (OP.yes' rfl rfl hb29041 (OP.val (v := (.int .i64 s_l1.2)) rfl (x_mv f28809) ?_))
                            refine OW.cons (OP.yes' rfl rfl hb29041 (OP.val (v := (.bool (x29002.Race == s_l1.2))) rfl (x_eql rfl rfl) ?_))
                            refine OW.cons (OP.val (v := (.bool (x29002.Race == s_l1.2))) rfl (x_pickT' rfl hb29041 rfl) ?_)
                            refine OW.cons (OP.val (v := (.bool (x29002.Race == s_l1.2))) rfl (x_move) ?_)
                            refine ifB_elim hm (fun hb29042 hm => ?_) (fun hb29042 hm => ?_)
                            · refine OW.cons (OP.yes' rfl rfl hb29042 (OP.val (v := (.pointer (some ⟨b29010, 1, none⟩))) rfl (x_fieldAddr (fsz := 1) 0 1 1 Try.underlying48 rfl Try_T2 rfl rfl rfl) ?_))
                              refine OW.cons (OP.yes' rfl rfl hb29042 (OP.val (v := (.int .i64 x29002.Boat)) rfl (x_load1 Try.underlying2 rfl rfl (hL.cellB 0 rfl rfl)) ?_))
                              refine OW.cons (OP.yes' rfl rfl hb29042 (OP.val (v := (.int .i64 s_l2.2)) rfl (x_mv f28811) ?_))
                              refine OW.cons (OP.yes' rfl rfl hb29042 (OP.val (v := (.bool (x29002.Boat == s_l2.2))) rfl (x_eql rfl rfl) ?_))
                              refine OW.cons (OP.val (v := (.bool (x29002.Boat == s_l2.2))) rfl (x_pickT' rfl hb29042 rfl) ?_)
                              refine OW.nil ?_
                              exact ⟨x29002.Boat == s_l2.2, hm, ⟨f28804, f28805, f28806, f28807, f28808, f28809, f28810, f28811, f28812, rfl, f28813, f28814, f28815, f28816, f28817, f28818, f28819, f28820, rfl, hL⟩⟩
                            · refine OW.cons (OP.no' rfl rfl hb29042 rfl ?_)
                              refine OW.cons (OP.no' rfl rfl hb29042 rfl ?_)
                              refine OW.cons (OP.no' rfl rfl hb29042 rfl ?_)
                              refine OW.cons (OP.no' rfl rfl hb29042 rfl ?_)
                              refine OW.cons (OP.val (v := (.bool false)) rfl (x_pickF' rfl hb29042 rfl) ?_)
                              refine OW.nil ?_
                              exact ⟨false, hm, ⟨f28804, f28805, f28806, f28807, f28808, f28809, f28810, f28811, f28812, rfl, f28813, f28814, f28815, f28816, f28817, f28818, f28819, f28820, rfl, hL⟩⟩
                          · refine OW.cons (OP.no' rfl rfl hb29041 rfl ?_)
                            refine OW.cons (OP.no' rfl rfl hb29041 rfl ?_)
                            refine OW.cons (OP.no' rfl rfl hb29041 rfl ?_)
                            refine OW.cons (OP.no' rfl rfl hb29041 rfl ?_)
                            refine OW.cons (OP.val (v := (.bool false)) rfl (x_pickF' rfl hb29041 rfl) ?_)
                            refine OW.cons (OP.val (v := (.bool false)) rfl (x_move) ?_)
                            refine OW.cons (OP.no' rfl rfl rfl rfl ?_)
                            refine OW.cons (OP.no' rfl rfl rfl rfl ?_)
                            refine OW.cons (OP.no' rfl rfl rfl rfl ?_)
                            refine OW.cons (OP.no' rfl rfl rfl rfl ?_)
                            refine OW.cons (OP.val (v := (.bool false)) rfl (x_pickF' rfl rfl rfl) ?_)
                            refine OW.nil ?_
                            exact ⟨false, hm, ⟨f28804, f28805, f28806, f28807, f28808, f28809, f28810, f28811, f28812, rfl, f28813, f28814, f28815, f28816, f28817, f28818, f28819, f28820, rfl, hL⟩⟩
                        · intro s_j5 F29014 wd29015 hJ hm
                          unfold M.impl_penalizedTable_j5 at hm
                          obtain ⟨f29016, f29017, f29018, f29019, f29020, f29021, f29022, f29023, f29024, f29025, f29026, f29027, f29028, f29029, f29030, f29031, f29032, f29033, f29034, hL⟩ := hJ
                          refine CW.condM (t := s_j5) f29034 hm (fun hb29035 hm => ?_) (fun hb29035 hm => ?_)
                          · refine CW.regionL ?_
                            refine OW.cons (OP.val (v := (.int .i64 s_l3.1)) rfl (x_mv f29024) ?_)
                            refine OW.cons (OP.val (v := (.pointer (some ⟨b6, 0, none⟩))) rfl (x_fieldAddr (fsz := 1) 0 0 0 Try.underlying31 rfl Try_T2 rfl f29017 rfl) ?_)
                            refine OW.cons (OP.val (v := (.int .i64 a0.Boats)) rfl (x_load1 Try.underlying2 rfl rfl (hL.cellB 7 rfl rfl)) ?_)
                            refine OW.cons (OP.val (v := (.pointer (some ⟨b29010, 3, none⟩))) rfl (x_fieldAddr (fsz := 1) 0 3 3 Try.underlying48 rfl Try_T2 rfl f29025 rfl) ?_)
                            refine OW.cons (OP.val (v := (.int .i64 x29002.Value)) rfl (x_load1 Try.underlying2 rfl rfl (hL.cellB 0 rfl rfl)) ?_)
                            obtain ⟨x29036, hx29037, hm⟩ := bndE hm
                            refine OW.cons (OP.call rfl (x_call (vs := [(.int .i64 a0.Boats), (.int .i64 x29002.Value)]) Try_C74 ⟨rfl, rfl, trivial⟩) (M.impl_percentPoints_ok _ a0.Boats x29002.Value hx29037) ?_)
                            rintro e29038 wd29039 ⟨rfl, hF29040⟩
                            refine ⟨_, rfl, ?_⟩
                            have hL := hL.pushAll hF29040
                            simp only [lA, lB, lC, lD] at hL
                            refine OW.cons (OP.val (v := (.int .i64 (w64 (s_l3.1 + x29036)))) rfl (x_add rfl rfl) ?_)
                            refine OW.cons (OP.val (v := (.int .i64 (w64 (s_l3.1 + x29036)))) rfl (x_assign) ?_)
                            refine OW.nil ?_
                            have hL := hL.sel [1, 2, 3, 4, 5, 6, 7, 8] (by decide) rfl
                            exact ⟨w64 (s_l3.1 + x29036), hm, ⟨f29016, f29017, f29018, f29019, f29020, f29021, f29022, f29023, rfl, f29026, f29027, f29028, f29029, f29030, f29031, f29032, f29033, hL⟩⟩
                          · refine CW.skip ?_
                            have hL := hL.sel [1, 2, 3, 4, 5, 6, 7, 8] (by decide) rfl
                            exact ⟨s_l3.1, hm, ⟨f29016, f29017, f29018, f29019, f29020, f29021, f29022, f29023, f29024, f29026, f29027, f29028, f29029, f29030, f29031, f29032, f29033, hL⟩⟩
                      · intro s_j4 F28983 wd28984 hJ hm
                        unfold M.impl_penalizedTable_j4 at hm
                        obtain ⟨f28985, f28986, f28987, f28988, f28989, f28990, f28991, f28992, f28993, f28994, f28995, f28996, f28997, f28998, f28999, f29000, f29001, hL⟩ := hJ
                        exact ⟨s_j4, hm, ⟨f28985, f28986, f28987, f28988, f28989, f28990, f28991, f28992, f28993, f28994, f28995, f28996, f28997, f28998, f28999, f29000, f29001, hL⟩⟩
                    · intro s_j3 F28923 wd28924 hJ hm
                      unfold M.impl_penalizedTable_j3 at hm
                      obtain ⟨f28925, f28926, f28927, f28928, f28929, f28930, f28931, f28932, f28933, f28934, f28935, f28936, f28937, f28938, f28939, f28940, f28941, hL⟩ := hJ
                      refine CW.regionL ?_
                      refine OW.cons (OP.val (v := (.int .i64 (w64 (s_l3.2 + 1)))) rfl (x_add f28941 rfl) ?_)
                      refine OW.cons (OP.val (v := (.int .i64 (w64 (s_l3.2 + 1)))) rfl (x_move) ?_)
                      refine OW.nil ?_
                      obtain rfl := Option.some.inj hm
                      exact ⟨_, rfl, ⟨f28925, f28926, f28927, f28928, f28929, f28930, f28931, f28932, f28933, f28934, f28935, f28936, f28937, f28938, f28939, f28940, rfl, hL⟩⟩
                  · refine CW.exit ?_
                    refine XJ.hit ?_
                    obtain rfl := Option.some.inj hm
                    exact ⟨_, rfl, ⟨f28804, f28805, f28806, f28807, f28808, f28809, f28810, f28811, f28812, f28813, f28814, f28815, f28816, f28817, f28818, f28819, f28820, hL⟩⟩
            · intro s_j2 F28237 wd28238 hJ hm
              unfold M.impl_penalizedTable_j2 at hm
              obtain ⟨S28236, f28239, f28240, f28241, f28242, f28243, f28244, f28245, f28246, f28247, f28248, f28249, f28250, hc28251, hL⟩ := hJ
              obtain ⟨x28252, ha28253, hm⟩ := bndE hm
              obtain ⟨hz28254, ha28255⟩ := idxE ha28253
              obtain ⟨wz28256, hL, ho28257, hs28258, hc28259, hr28260⟩ := hL.freezeAt (α := Int) 1 rfl hix19391 ha28255 hc28251
              simp only [lC, lD] at hL
              have hc28261 := hL.cellF 1 rfl hs28258 hc28259
              have hL := hL.thaw 1 rfl ho28257
              exact ⟨s_j2, hm, ⟨S28236, f28239, f28240, f28241, f28242, f28243, f28244, f28245, f28246, f28247, f28248, f28249, f28250, hc28261, hL⟩⟩
          · intro s_j1 F27432 wd27433 hJ hm
            unfold M.impl_penalizedTable_j1 at hm
            obtain ⟨S27431, f27434, f27435, f27436, f27437, f27438, f27439, f27440, f27441, f27442, f27443, f27444, f27445, hc27446, hL⟩ := hJ
            obtain ⟨x27447, ha27448, hm⟩ := bndE hm
            obtain ⟨hz27449, ha27450⟩ := idxE ha27448
            obtain ⟨wz27451, hL, ho27452, hs27453, hc27454, hr27455⟩ := hL.freezeAt (α := Int) 1 rfl hix19391 ha27450 hc27446
            simp only [lC, lD] at hL
            refine CW.regionL ?_
            refine OW.cons (OP.val (v := (.int .i64 (w64 (s_l2.2 + 1)))) rfl (x_add f27445 rfl) ?_)
            refine OW.cons (OP.val (v := (.int .i64 (w64 (s_l2.2 + 1)))) rfl (x_move) ?_)
            refine OW.nil ?_
            have hc27456 := hL.cellF 1 rfl hs27453 hc27454
            have hL := hL.thaw 1 rfl ho27452
            obtain rfl := Option.some.inj hm
            exact ⟨_, rfl, ⟨S27431, f27434, f27435, f27436, f27437, f27438, f27439, f27440, f27441, f27442, f27443, f27444, rfl, hc27456, hL⟩⟩
        · refine CW.exit ?_
          refine XJ.hit ?_
          have hc29043 := hL.cellF 1 rfl hs25842 hc25843
          have hL := hL.thaw 1 rfl ho25841
          obtain rfl := Option.some.inj hm
          exact ⟨_, rfl, ⟨S25800, f25823, f25824, f25825, f25826, f25827, f25828, f25829, f25830, f25831, f25832, f25833, f25834, hc29043, hL⟩⟩
    · refine CW.exit ?_
      refine XJ.hit ?_
      obtain rfl := Option.some.inj hm
      exact ⟨_, rfl, ⟨S19356, f19374, f19375, f19376, f19377, f19378, f19379, f19380, f19381, hL⟩⟩

theorem M.impl_PenalizedTable_ok (w0 : World) (a0 : Series) {v1 : Value} (h2 : rdL (· < w0.heap.size) w0 v1 a0.Races) (a1 : List Penalty) {v3 : Value} (h4 : rdL (· < w0.heap.size) w0 v3 a1) {r : Table × Int} (hm : M.impl_PenalizedTable a0 a1 = some r) :
    Calls Try.prog 26 #[(.agg #[(.int .i64 a0.Boats), (.int .i64 a0.Scheme), v1]), v3] w0 fun e w' => ∃ (rv0 : Value) (rS0 : Nat → Prop), ∃ (rv1 : Value) (rS1 : Nat → Prop), e = .returned (.tuple #[(.agg #[(.int .i64 r.1.Boats), rv0, rv1]), (.int .i64 r.2)]) ∧ Fresh w0 w' [Ent.own 61 rS0 rv0 r.1.Points, Ent.own 61 rS1 rv1 r.1.Codes] := by
  unfold M.impl_PenalizedTable at hm
  refine calls_CW (args := [(.agg #[(.int .i64 a0.Boats), (.int .i64 a0.Scheme), v1]), v3]) Try.func26 rfl rfl rfl ?_
  have hL := Hp.start w0
  refine CW.seq ?_
  refine CW.regionL ?_
  refine OW.cons (S_box (cs := #[(.int .i64 a0.Boats), (.int .i64 a0.Scheme), v1]) hL rfl rfl rfl ?_)
  intro wd5 b6 hL
  refine OW.cons (S_alloc (cs := #[(.int .i64 0), (.slice none 0 0), (.slice none 0 0)]) hL Try_T56 rfl rfl ?_)
  intro wd7 b8 hL
  refine OW.cons (OP.val (v := (.int .i64 0)) rfl (x_assign) ?_)
  refine OW.nil ?_
  refine CW.seq ?_
  refine CW.seq ?_
  refine CW.regionL ?_
  refine OW.cons (OP.val (v := (.agg #[(.int .i64 a0.Boats), (.int .i64 a0.Scheme), v1])) rfl (x_loadN (cs := [(.int .i64 a0.Boats), (.int .i64 a0.Scheme), v1]) Try.underlying31 Try_T31 rfl rfl (hL.cellsB 1 rfl (o := 0) (l := [(.int .i64 a0.Boats), (.int .i64 a0.Scheme), v1]) (by intro j u hj; exact (by simpa using hj)))) ?_)
  refine OW.cons (OP.val (v := v3) rfl (x_move) ?_)
  obtain ⟨x9, hx10, hm⟩ := bndE hm
  refine OW.cons (OP.call rfl (x_call (vs := [(.agg #[(.int .i64 a0.Boats), (.int .i64 a0.Scheme), v1]), v3]) Try_C43 ⟨rfl, rfl, trivial⟩) (M.impl_penaltyCode_ok _ a0 (hL.rdS 2 rfl h2) a1 (hL.rdS 2 rfl h4) hx10) ?_)
  rintro e11 wd12 ⟨rfl, hF13⟩
  refine ⟨_, rfl, ?_⟩
  have hL := hL.pushAll hF13
  simp only [lA, lB, lC, lD] at hL
  refine OW.cons (OP.val (v := (.int .i64 x9)) rfl (x_assign) ?_)
  refine OW.nil ?_
  refine CW.seq ?_
  refine CW.regionL ?_
  refine OW.cons (OP.val (v := (.int .i64 x9)) rfl (x_move) ?_)
  refine OW.cons (OP.val (v := (.bool (x9 != 0))) rfl (x_neq rfl rfl) ?_)
  refine OW.nil ?_
  refine CW.condM (t := x9 != 0) rfl hm (fun hb14 hm => ?_) (fun hb14 hm => ?_)
  · refine CW.seq ?_
    refine CW.regionL ?_
    refine OW.cons (OP.val (v := (.agg #[(.int .i64 0), (.slice none 0 0), (.slice none 0 0)])) rfl (x_build Try_B56 (ps := []) trivial (by simp [Instr.fill, cells_int, cells_bool, cells_string, cells_agg, cells_slice, cells_pointer])) ?_)
    refine OW.cons (OP.val (v := (.int .i64 x9)) rfl (x_move) ?_)
    refine OW.cons (S_storeN (l := [(.int .i64 0), (.slice none 0 0), (.slice none 0 0)]) (cs' := #[(.int .i64 0), (.slice none 0 0), (.slice none 0 0)]) hL 0 rfl Try_T56 rfl rfl (List.forall_mem_cons.2 ⟨rfl, (List.forall_mem_cons.2 ⟨rfl, (List.forall_mem_cons.2 ⟨rfl, (fun _ h => by cases h)⟩)⟩)⟩) rfl (Nat.le_of_ble_eq_true rfl) rfl ?_)
    intro wd15 hL
    refine OW.cons (OP.val (v := (.int .i64 x9)) rfl (x_assign) ?_)
    refine OW.nil ?_
    refine CW.ret ?_
    have hL := hL.pushNil (List Int) 61
    have hL := hL.pushNil (List Int) 61
    obtain rfl := Option.some.inj hm
    exact RRct rfl rfl (run_loadBlk Try.underlying56 Try_T56 (hL.get 2 rfl) rfl) rfl ⟨(.slice none 0 0), None_, (.slice none 0 0), None_, rfl, hL.fresh 4 rfl [1, 0] (by decide) (by decide) rfl⟩
  · refine CW.skip ?_
    refine CW.seq ?_
    refine CW.regionL ?_
    refine OW.cons (OP.val (v := (.agg #[(.int .i64 a0.Boats), (.int .i64 a0.Scheme), v1])) rfl (x_loadN (cs := [(.int .i64 a0.Boats), (.int .i64 a0.Scheme), v1]) Try.underlying31 Try_T31 rfl rfl (hL.cellsB 1 rfl (o := 0) (l := [(.int .i64 a0.Boats), (.int .i64 a0.Scheme), v1]) (by intro j u hj; exact (by simpa using hj)))) ?_)
    refine OW.cons (OP.val (v := v3) rfl (x_move) ?_)
    obtain ⟨x16, hx17, hm⟩ := bndE hm
    refine OW.cons (OP.call rfl (x_call (vs := [(.agg #[(.int .i64 a0.Boats), (.int .i64 a0.Scheme), v1]), v3]) Try_C53 ⟨rfl, rfl, trivial⟩) (M.impl_penalizedTable_ok _ a0 (hL.rdS 2 rfl h2) a1 (hL.rdS 2 rfl h4) hx17) ?_)
    rintro e22 wd23 ⟨v19, S18, v21, S20, rfl, hF24⟩
    refine ⟨_, rfl, ?_⟩
    have hL := hL.pushAll hF24
    simp only [lA, lB, lC, lD] at hL
    refine OW.cons (S_storeN (l := [(.int .i64 x16.Boats), v19, v21]) (cs' := #[(.int .i64 x16.Boats), v19, v21]) hL 2 rfl Try_T56 rfl rfl (List.forall_mem_cons.2 ⟨rfl, (List.forall_mem_cons.2 ⟨rdL_one (hL.rdO 0 rfl), (List.forall_mem_cons.2 ⟨rdL_one (hL.rdO 1 rfl), (fun _ h => by cases h)⟩)⟩)⟩) rfl (Nat.le_of_ble_eq_true rfl) rfl ?_)
    intro wd25 hL
    refine OW.cons (OP.val (v := (.int .i64 0)) rfl (x_assign) ?_)
    refine OW.nil ?_
    refine CW.ret ?_
    obtain rfl := Option.some.inj hm
    exact RRct rfl rfl (run_loadBlk Try.underlying56 Try_T56 (hL.get 2 rfl) rfl) rfl ⟨v19, S18, v21, S20, rfl, hL.fresh 4 rfl [0, 1] (by decide) (by decide) rfl⟩

theorem M.spec_l26Place_ok (w0 : World) (a0 : Race) {v1 : Value} (h2 : rdL (· < w0.heap.size) w0 v1 a0.Finishes) (a1 : List Int) {v3 : Value} (h4 : rdL (· < w0.heap.size) w0 v3 a1) (a2 : Int) {r : Int × Int} (hm : M.spec_l26Place a0 a1 a2 = some r) :
    Calls Try.prog 99 #[(.agg #[v1]), v3, (.int .i64 a2)] w0 fun e w' => e = .returned (.tuple #[(.int .i64 r.1), (.int .i64 r.2)]) ∧ Fresh w0 w' [] := by
  unfold M.spec_l26Place at hm
  refine calls_CW (args := [(.agg #[v1]), v3, (.int .i64 a2)]) Try.func99 rfl rfl rfl ?_
  have hL := Hp.start w0
  refine CW.seq ?_
  refine CW.regionL ?_
  refine OW.cons (S_box (cs := #[v1]) hL rfl rfl rfl ?_)
  intro wd5 b6 hL
  refine OW.cons (OP.val (v := (.int .i64 0)) rfl (x_assign) ?_)
  refine OW.cons (OP.val (v := (.int .i64 0)) rfl (x_assign) ?_)
  refine OW.nil ?_
  refine CW.seq ?_
  refine CW.regionL ?_
  refine OW.cons (OP.val (v := (.int .i64 1)) rfl (x_assign) ?_)
  refine OW.nil ?_
  refine CW.seq ?_
  refine CW.regionL ?_
  refine OW.cons (OP.val (v := (.int .i64 0)) rfl (x_assign) ?_)
  refine OW.nil ?_
  refine CW.seq ?_
  refine CW.seq ?_
  refine CW.regionL ?_
  refine OW.cons (OP.val (v := (.int .i64 0)) rfl (x_assign) ?_)
  refine OW.nil ?_
  obtain ⟨o819, ho820, hm⟩ := bndE hm
  refine CW.loopB (fun (s_l1 : Int × Int × Int) (F : Fr) (w : World) => F 1 = v3 ∧ F 2 = (.int .i64 a2) ∧ F 3 = (.pointer (some ⟨b6, 0, none⟩)) ∧ F 8 = (.int .i64 s_l1.1) ∧ F 9 = (.int .i64 s_l1.2.1) ∧ F 10 = (.int .i64 s_l1.2.2) ∧ Hp w0 [Ent.blk b6 46 #[v1], Ent.snap w0 w0.heap.size] w) (fun o => outc o (fun x => some x) (fun s => M.spec_l26Place_a1 s) = some r) ho820 hm ⟨rfl, rfl, rfl, rfl, rfl, rfl, hL⟩ ?_ ?_
  · intro s_l1 F821 wd822 hJ hm
    have hm := outcE hm
    have hm : M.spec_l26Place_a1 s_l1 = some r := hm
    unfold M.spec_l26Place_a1 at hm
    obtain ⟨f823, f824, f825, f826, f827, f828, hL⟩ := hJ
    refine CW.seq ?_
    refine CW.regionL ?_
    refine OW.cons (OP.val (v := (.int .i64 s_l1.1)) rfl (x_mv f826) ?_)
    refine OW.cons (OP.val (v := (.int .i64 s_l1.2.1)) rfl (x_mv f827) ?_)
    refine OW.cons (OP.val (v := (.int .i64 s_l1.1)) rfl (x_assign) ?_)
    refine OW.cons (OP.val (v := (.int .i64 s_l1.2.1)) rfl (x_assign) ?_)
    refine OW.nil ?_
    refine CW.ret ?_
    obtain rfl := Option.some.inj hm
    exact RR2 rfl rfl rfl ⟨rfl, hL.fresh 1 rfl [] (by decide) (by decide) rfl⟩
  · intro s_l1 F829 wd830 t817 hJ hm hr818
    unfold M.spec_l26Place_l1 at hm
    obtain ⟨f831, f832, f833, f834, f835, f836, hL⟩ := hJ
    refine CW.seq ?_
    refine CW.seq ?_
    refine CW.regionL ?_
    refine OW.cons (OP.val (v := (.int .i64 s_l1.2.2)) rfl (x_mv f836) ?_)
    refine OW.cons (OP.val (v := (.pointer (some ⟨b6, 0, none⟩))) rfl (x_fieldAddr (fsz := 1) 0 0 0 Try.underlying46 rfl Try_T44 rfl f833 rfl) ?_)
    refine OW.cons (OP.val (v := v1) rfl (x_load1 Try.underlying44 rfl rfl (hL.cellB 0 rfl rfl)) ?_)
    refine OW.cons (OP.val (v := (.int .i64 (a0.Finishes.length : Int))) rfl (x_lenR Try.underlying44 rfl (hL.rdS 1 rfl h2)) ?_)
    refine OW.cons (OP.val (v := (.bool (decide (s_l1.2.2 < (a0.Finishes.length : Int))))) rfl (x_lss rfl rfl) ?_)
    refine OW.nil ?_
    refine CW.condM (t := decide (s_l1.2.2 < (a0.Finishes.length : Int))) rfl hm (fun hb837 hm => ?_) (fun hb837 hm => ?_)
    · refine CW.skip ?_
      refine CW.seqJ (fun (s_j1 : Int × Int) (F : Fr) (w : World) => F 1 = v3 ∧ F 2 = (.int .i64 a2) ∧ F 3 = (.pointer (some ⟨b6, 0, none⟩)) ∧ F 8 = (.int .i64 s_j1.1) ∧ F 9 = (.int .i64 s_j1.2) ∧ F 10 = (.int .i64 s_l1.2.2) ∧ Hp w0 [Ent.blk b6 46 #[v1], Ent.snap w0 w0.heap.size] w) (fun s_j1 => M.spec_l26Place_j1 s_l1 s_j1 = some t817) ?_ ?_
      · refine CW.blockJ (fun (s_j2 : Int × Int) (F : Fr) (w : World) => F 1 = v3 ∧ F 2 = (.int .i64 a2) ∧ F 3 = (.pointer (some ⟨b6, 0, none⟩)) ∧ F 8 = (.int .i64 s_j2.1) ∧ F 9 = (.int .i64 s_j2.2) ∧ F 10 = (.int .i64 s_l1.2.2) ∧ Hp w0 [Ent.blk b6 46 #[v1], Ent.snap w0 w0.heap.size] w) (fun s_j2 => M.spec_l26Place_j2 s_l1 s_j2 = some t817) ?_ ?_
        · refine CW.seq ?_
          refine CW.regionL ?_
          refine OW.cons (OP.val (v := (.pointer (some ⟨b6, 0, none⟩))) rfl (x_fieldAddr (fsz := 1) 0 0 0 Try.underlying46 rfl Try_T44 rfl f833 rfl) ?_)
          refine OW.cons (OP.val (v := v1) rfl (x_load1 Try.underlying44 rfl rfl (hL.cellB 0 rfl rfl)) ?_)
          refine OW.cons (OP.val (v := (.int .i64 s_l1.2.2)) rfl (x_mv f836) ?_)
          obtain ⟨x1147, ha1148, hm⟩ := bndE hm
          obtain ⟨hz1149, ha1153⟩ := idxE ha1148
          obtain ⟨b1150, q1151, hix1152⟩ := rdL_ix (hL.rdS 1 rfl h2) hz1149 ha1153
          refine OW.cons (OP.val (v := (.pointer (some ⟨b1150, q1151, none⟩))) rfl (x_ix Try.underlying44 Try_T50 rfl rfl hix1152) ?_)
          refine OW.cons (OP.val (v := (.agg #[(.int .i64 x1147.Boat), (.int .i64 x1147.Code), (.int .i64 x1147.Time)])) rfl (x_loadN (cs := [(.int .i64 x1147.Boat), (.int .i64 x1147.Code), (.int .i64 x1147.Time)]) Try.underlying50 Try_T50 rfl rfl (rdF_cells (hL.rdS 1 rfl h2) hix1152 ha1153)) ?_)
          refine OW.cons (S_alloc (cs := #[(.int .i64 0), (.int .i64 0), (.int .i64 0)]) hL Try_T50 rfl rfl ?_)
          intro wd1154 b1155 hL
          refine OW.cons (S_storeN (l := [(.int .i64 x1147.Boat), (.int .i64 x1147.Code), (.int .i64 x1147.Time)]) (cs' := #[(.int .i64 x1147.Boat), (.int .i64 x1147.Code), (.int .i64 x1147.Time)]) hL 0 rfl Try_T50 rfl rfl (List.forall_mem_cons.2 ⟨rfl, (List.forall_mem_cons.2 ⟨rfl, (List.forall_mem_cons.2 ⟨rfl, (fun _ h => by cases h)⟩)⟩)⟩) rfl (Nat.le_of_ble_eq_true rfl) rfl ?_)
          intro wd1156 hL
          refine OW.nil ?_
          refine CW.seq ?_
          refine CW.seqJ (fun (s_j3 : Bool) (F : Fr) (w : World) => F 1 = v3 ∧ F 2 = (.int .i64 a2) ∧ F 3 = (.pointer (some ⟨b6, 0, none⟩)) ∧ F 8 = (.int .i64 s_l1.1) ∧ F 9 = (.int .i64 s_l1.2.1) ∧ F 10 = (.int .i64 s_l1.2.2) ∧ F 11 = (.pointer (some ⟨b1155, 0, none⟩)) ∧ F 37 = (.bool s_j3) ∧ Hp w0 [Ent.blk b1155 50 #[(.int .i64 x1147.Boat), (.int .i64 x1147.Code), (.int .i64 x1147.Time)], Ent.blk b6 46 #[v1], Ent.snap w0 w0.heap.size] w) (fun s_j3 => M.spec_l26Place_j3 a0 a2 s_l1 x1147 s_j3 = some t817) ?_ ?_
          · refine CW.draw Try_mixed ?_
            have hL := hL.call (Mod.drew _)
            refine DW.pre (fuel := 0) (fin := (((((((((((((((Array.replicate 14 false).setIfInBounds 0 true).setIfInBounds 1 true).setIfInBounds 2 true).setIfInBounds 3 true).setIfInBounds 4 true).setIfInBounds 5 true).setIfInBounds 6 true).setIfInBounds 7 true).setIfInBounds 8 true).setIfInBounds 9 true).setIfInBounds 10 true).setIfInBounds 11 true).setIfInBounds 12 true).setIfInBounds 13 true)) (C := fun w' => Mod None_ _ w') [0, 1, 2, 3, 4, 5, 6, 7, 8, 9, 10, 11, 12, 13] (Mod.refl _ _) (by kernel_rfl) (by kernel_rfl) ?_
            refine QW.cons rfl (QP.val (v := (.agg #[(.int .i64 x1147.Boat), (.int .i64 x1147.Code), (.int .i64 x1147.Time)])) rfl (fun w' hm' => x_loadN (cs := [(.int .i64 x1147.Boat), (.int .i64 x1147.Code), (.int .i64 x1147.Time)]) Try.underlying50 Try_T50 rfl rfl ((hL.call hm').cellsB 0 rfl (o := 0) (l := [(.int .i64 x1147.Boat), (.int .i64 x1147.Code), (.int .i64 x1147.Time)]) (by intro j u hj; exact (by simpa using hj)))) ?_)
            obtain ⟨x1223, hx1224, hm⟩ := bndE hm
            refine QW.cons rfl (QP.call (v := (.bool x1223)) rfl (fun w' hm' => x_call (vs := [(.agg #[(.int .i64 x1147.Boat), (.int .i64 x1147.Code), (.int .i64 x1147.Time)])]) Try_C70 ⟨rfl, trivial⟩) (fun w' hm' => (M.spec_l26Done_ok w' x1147 hx1224).mono (fun e w'' h => ⟨h.1, hm'.trans h.2.mod⟩)) ?_)
            refine QW.cons rfl (QP.val (v := (.bool (!x1223))) rfl (fun w' hm' => x_not rfl) ?_)
            refine QW.cons rfl (QP.val (v := (.bool (!x1223))) rfl (fun w' hm' => x_move) ?_)
            refine ifB_elim hm (fun hb1225 hm => ?_) (fun hb1225 hm => ?_)
            · refine QW.cons rfl (QP.no' rfl rfl hb1225 rfl ?_)
              refine QW.cons rfl (QP.no' rfl rfl hb1225 rfl ?_)
              refine QW.cons rfl (QP.no' rfl rfl hb1225 rfl ?_)
              refine QW.cons rfl (QP.no' rfl rfl hb1225 rfl ?_)
              refine QW.cons rfl (QP.no' rfl rfl hb1225 rfl ?_)
              refine QW.cons rfl (QP.no' rfl rfl hb1225 rfl ?_)
              refine QW.cons rfl (QP.no' rfl rfl hb1225 rfl ?_)
              refine QW.cons rfl (QP.no' rfl rfl hb1225 rfl ?_)
              refine QW.cons rfl (QP.no' rfl rfl hb1225 rfl ?_)
              refine QW.cons rfl (QP.val (v := (.bool true)) rfl (fun w' hm' => x_pickT' rfl hb1225 rfl) ?_)
              refine QW.nil ?_
              intro wd1226 hmod
              have hL := hL.call hmod
              refine DW.done (by kernel_rfl) ?_
              exact ⟨true, hm, ⟨f831, f832, f833, f834, f835, f836, rfl, rfl, hL⟩⟩
            · refine QW.cons rfl (QP.yes' rfl rfl hb1225 (QP.val (v := v3) rfl (fun w' hm' => x_mv f831) ?_))
              refine QW.cons rfl (QP.yes' rfl rfl hb1225 (QP.val (v := (.int .i64 s_l1.2.2)) rfl (fun w' hm' => x_mv f836) ?_))
              obtain ⟨x1227, ha1228, hm⟩ := bndE hm
              obtain ⟨hz1229, ha1233⟩ := idxE ha1228
              obtain ⟨b1230, q1231, hix1232⟩ := rdL_ix (hL.rdS 2 rfl h4) hz1229 ha1233
              refine QW.cons rfl (QP.yes' rfl rfl hb1225 (QP.val (v := (.pointer (some ⟨b1230, q1231, none⟩))) rfl (fun w' hm' => x_ix Try.underlying61 Try_T2 rfl rfl hix1232) ?_))
              refine QW.cons rfl (QP.yes' rfl rfl hb1225 (QP.val (v := (.int .i64 x1227)) rfl (fun w' hm' => x_load1 Try.underlying2 rfl rfl (rdF_cells ((hL.call hm').rdS 2 rfl h4) hix1232 ha1233 0 _ rfl)) ?_))
              refine QW.cons rfl (QP.yes' rfl rfl hb1225 (QP.val (v := v3) rfl (fun w' hm' => x_mv f831) ?_))
              refine QW.cons rfl (QP.yes' rfl rfl hb1225 (QP.val (v := (.int .i64 a2)) rfl (fun w' hm' => x_mv f832) ?_))
              obtain ⟨x1234, ha1235, hm⟩ := bndE hm
              obtain ⟨hz1236, ha1240⟩ := idxE ha1235
              obtain ⟨b1237, q1238, hix1239⟩ := rdL_ix (hL.rdS 2 rfl h4) hz1236 ha1240
              refine QW.cons rfl (QP.yes' rfl rfl hb1225 (QP.val (v := (.pointer (some ⟨b1237, q1238, none⟩))) rfl (fun w' hm' => x_ix Try.underlying61 Try_T2 rfl rfl hix1239) ?_))
              refine QW.cons rfl (QP.yes' rfl rfl hb1225 (QP.val (v := (.int .i64 x1234)) rfl (fun w' hm' => x_load1 Try.underlying2 rfl rfl (rdF_cells ((hL.call hm').rdS 2 rfl h4) hix1239 ha1240 0 _ rfl)) ?_))
              refine QW.cons rfl (QP.yes' rfl rfl hb1225 (QP.val (v := (.bool (x1227 != x1234))) rfl (fun w' hm' => x_neq rfl rfl) ?_))
              refine QW.cons rfl (QP.val (v := (.bool (x1227 != x1234))) rfl (fun w' hm' => x_pickF' rfl hb1225 rfl) ?_)
              refine QW.nil ?_
              intro wd1241 hmod
              have hL := hL.call hmod
              refine DW.done (by kernel_rfl) ?_
              exact ⟨x1227 != x1234, hm, ⟨f831, f832, f833, f834, f835, f836, rfl, rfl, hL⟩⟩
          · intro s_j3 F1176 wd1177 hJ hm
            unfold M.spec_l26Place_j3 at hm
            obtain ⟨f1178, f1179, f1180, f1181, f1182, f1183, f1184, f1185, hL⟩ := hJ
            refine CW.condM (t := s_j3) f1185 hm (fun hb1186 hm => ?_) (fun hb1186 hm => ?_)
            · refine CW.exit ?_
              refine XJ.hit ?_
              have hL := hL.sel [1, 2] (by decide) rfl
              exact ⟨(s_l1.1, s_l1.2.1), hm, ⟨f1178, f1179, f1180, f1181, f1182, f1183, hL⟩⟩
            · refine CW.skip ?_
              refine CW.seqJ (fun (s_j4 : Int) (F : Fr) (w : World) => F 1 = v3 ∧ F 2 = (.int .i64 a2) ∧ F 3 = (.pointer (some ⟨b6, 0, none⟩)) ∧ F 8 = (.int .i64 s_j4) ∧ F 9 = (.int .i64 s_l1.2.1) ∧ F 10 = (.int .i64 s_l1.2.2) ∧ F 11 = (.pointer (some ⟨b1155, 0, none⟩)) ∧ Hp w0 [Ent.blk b1155 50 #[(.int .i64 x1147.Boat), (.int .i64 x1147.Code), (.int .i64 x1147.Time)], Ent.blk b6 46 #[v1], Ent.snap w0 w0.heap.size] w) (fun s_j4 => M.spec_l26Place_j4 a0 a2 s_l1 x1147 s_j4 = some t817) ?_ ?_
              · refine CW.seq ?_
                refine CW.draw Try_mixed ?_
                have hL := hL.call (Mod.drew _)
                refine DW.pre (fuel := 0) (fin := ((((((((((Array.replicate 9 false).setIfInBounds 0 true).setIfInBounds 1 true).setIfInBounds 2 true).setIfInBounds 3 true).setIfInBounds 4 true).setIfInBounds 5 true).setIfInBounds 6 true).setIfInBounds 7 true).setIfInBounds 8 true)) (C := fun w' => Mod None_ _ w') [0, 1, 2, 3, 4, 5, 6, 7, 8] (Mod.refl _ _) (by kernel_rfl) (by kernel_rfl) ?_
                refine QW.cons rfl (QP.val (v := (.pointer (some ⟨b1155, 2, none⟩))) rfl (fun w' hm' => x_fieldAddr (fsz := 1) 0 2 2 Try.underlying50 rfl Try_T2 rfl f1184 rfl) ?_)
                refine QW.cons rfl (QP.val (v := (.int .i64 x1147.Time)) rfl (fun w' hm' => x_load1 Try.underlying2 rfl rfl ((hL.call hm').cellB 0 rfl rfl)) ?_)
                refine QW.cons rfl (QP.val (v := (.pointer (some ⟨b6, 0, none⟩))) rfl (fun w' hm' => x_fieldAddr (fsz := 1) 0 0 0 Try.underlying46 rfl Try_T44 rfl f1180 rfl) ?_)
                refine QW.cons rfl (QP.val (v := v1) rfl (fun w' hm' => x_load1 Try.underlying44 rfl rfl ((hL.call hm').cellB 1 rfl rfl)) ?_)
                refine QW.cons rfl (QP.val (v := (.int .i64 a2)) rfl (fun w' hm' => x_mv f1179) ?_)
                obtain ⟨x1214, ha1215, hm⟩ := bndE hm
                obtain ⟨hz1216, ha1220⟩ := idxE ha1215
                obtain ⟨b1217, q1218, hix1219⟩ := rdL_ix (hL.rdS 2 rfl h2) hz1216 ha1220
                refine QW.cons rfl (QP.val (v := (.pointer (some ⟨b1217, q1218, none⟩))) rfl (fun w' hm' => x_ix Try.underlying44 Try_T50 rfl rfl hix1219) ?_)
                refine QW.cons rfl (QP.val (v := (.pointer (some ⟨b1217, q1218 + 2, none⟩))) rfl (fun w' hm' => x_fieldAddr (fsz := 1) q1218 2 (q1218 + 2) Try.underlying50 rfl Try_T2 rfl rfl rfl) ?_)
                refine QW.cons rfl (QP.val (v := (.int .i64 x1214.Time)) rfl (fun w' hm' => x_load1 Try.underlying2 rfl rfl (rdF_cells ((hL.call hm').rdS 2 rfl h2) hix1219 ha1220 2 _ rfl)) ?_)
                refine QW.cons rfl (QP.val (v := (.bool (decide (x1147.Time < x1214.Time)))) rfl (fun w' hm' => x_lss rfl rfl) ?_)
                refine QW.nil ?_
                intro wd1221 hmod
                have hL := hL.call hmod
                refine DW.done (by kernel_rfl) ?_
                refine CW.condM (t := decide (x1147.Time < x1214.Time)) rfl hm (fun hb1222 hm => ?_) (fun hb1222 hm => ?_)
                · refine CW.regionL ?_
                  refine OW.cons (OP.val (v := (.int .i64 s_l1.1)) rfl (x_mv f1181) ?_)
                  refine OW.cons (OP.val (v := (.int .i64 (w64 (s_l1.1 + 1)))) rfl (x_add rfl rfl) ?_)
                  refine OW.cons (OP.val (v := (.int .i64 (w64 (s_l1.1 + 1)))) rfl (x_assign) ?_)
                  refine OW.nil ?_
                  exact ⟨w64 (s_l1.1 + 1), hm, ⟨f1178, f1179, f1180, rfl, f1182, f1183, f1184, hL⟩⟩
                · refine CW.skip ?_
                  exact ⟨s_l1.1, hm, ⟨f1178, f1179, f1180, f1181, f1182, f1183, f1184, hL⟩⟩
              · intro s_j4 F1196 wd1197 hJ hm
                unfold M.spec_l26Place_j4 at hm
                obtain ⟨f1198, f1199, f1200, f1201, f1202, f1203, f1204, hL⟩ := hJ
                refine CW.seq ?_
                refine CW.draw Try_mixed ?_
                have hL := hL.call (Mod.drew _)
                refine DW.pre (fuel := 0) (fin := ((((((((((Array.replicate 9 false).setIfInBounds 0 true).setIfInBounds 1 true).setIfInBounds 2 true).setIfInBounds 3 true).setIfInBounds 4 true).setIfInBounds 5 true).setIfInBounds 6 true).setIfInBounds 7 true).setIfInBounds 8 true)) (C := fun w' => Mod None_ _ w') [0, 1, 2, 3, 4, 5, 6, 7, 8] (Mod.refl _ _) (by kernel_rfl) (by kernel_rfl) ?_
                refine QW.cons rfl (QP.val (v := (.pointer (some ⟨b1155, 2, none⟩))) rfl (fun w' hm' => x_fieldAddr (fsz := 1) 0 2 2 Try.underlying50 rfl Try_T2 rfl f1204 rfl) ?_)
                refine QW.cons rfl (QP.val (v := (.int .i64 x1147.Time)) rfl (fun w' hm' => x_load1 Try.underlying2 rfl rfl ((hL.call hm').cellB 0 rfl rfl)) ?_)
                refine QW.cons rfl (QP.val (v := (.pointer (some ⟨b6, 0, none⟩))) rfl (fun w' hm' => x_fieldAddr (fsz := 1) 0 0 0 Try.underlying46 rfl Try_T44 rfl f1200 rfl) ?_)
                refine QW.cons rfl (QP.val (v := v1) rfl (fun w' hm' => x_load1 Try.underlying44 rfl rfl ((hL.call hm').cellB 1 rfl rfl)) ?_)
                refine QW.cons rfl (QP.val (v := (.int .i64 a2)) rfl (fun w' hm' => x_mv f1199) ?_)
                obtain ⟨x1205, ha1206, hm⟩ := bndE hm
                obtain ⟨hz1207, ha1211⟩ := idxE ha1206
                obtain ⟨b1208, q1209, hix1210⟩ := rdL_ix (hL.rdS 2 rfl h2) hz1207 ha1211
                refine QW.cons rfl (QP.val (v := (.pointer (some ⟨b1208, q1209, none⟩))) rfl (fun w' hm' => x_ix Try.underlying44 Try_T50 rfl rfl hix1210) ?_)
                refine QW.cons rfl (QP.val (v := (.pointer (some ⟨b1208, q1209 + 2, none⟩))) rfl (fun w' hm' => x_fieldAddr (fsz := 1) q1209 2 (q1209 + 2) Try.underlying50 rfl Try_T2 rfl rfl rfl) ?_)
                refine QW.cons rfl (QP.val (v := (.int .i64 x1205.Time)) rfl (fun w' hm' => x_load1 Try.underlying2 rfl rfl (rdF_cells ((hL.call hm').rdS 2 rfl h2) hix1210 ha1211 2 _ rfl)) ?_)
                refine QW.cons rfl (QP.val (v := (.bool (x1147.Time == x1205.Time))) rfl (fun w' hm' => x_eql rfl rfl) ?_)
                refine QW.nil ?_
                intro wd1212 hmod
                have hL := hL.call hmod
                refine DW.done (by kernel_rfl) ?_
                refine CW.condM (t := x1147.Time == x1205.Time) rfl hm (fun hb1213 hm => ?_) (fun hb1213 hm => ?_)
                · refine CW.regionL ?_
                  refine OW.cons (OP.val (v := (.int .i64 s_l1.2.1)) rfl (x_mv f1202) ?_)
                  refine OW.cons (OP.val (v := (.int .i64 (w64 (s_l1.2.1 + 1)))) rfl (x_add rfl rfl) ?_)
                  refine OW.cons (OP.val (v := (.int .i64 (w64 (s_l1.2.1 + 1)))) rfl (x_assign) ?_)
                  refine OW.nil ?_
                  have hL := hL.sel [1, 2] (by decide) rfl
                  exact ⟨(s_j4, w64 (s_l1.2.1 + 1)), hm, ⟨f1198, f1199, f1200, f1201, rfl, f1203, hL⟩⟩
                · refine CW.skip ?_
                  have hL := hL.sel [1, 2] (by decide) rfl
                  exact ⟨(s_j4, s_l1.2.1), hm, ⟨f1198, f1199, f1200, f1201, f1202, f1203, hL⟩⟩
        · intro s_j2 F1139 wd1140 hJ hm
          unfold M.spec_l26Place_j2 at hm
          obtain ⟨f1141, f1142, f1143, f1144, f1145, f1146, hL⟩ := hJ
          exact ⟨(s_j2.1, s_j2.2), hm, ⟨f1141, f1142, f1143, f1144, f1145, f1146, hL⟩⟩
      · intro s_j1 F1036 wd1037 hJ hm
        unfold M.spec_l26Place_j1 at hm
        obtain ⟨f1038, f1039, f1040, f1041, f1042, f1043, hL⟩ := hJ
        refine CW.regionL ?_
        refine OW.cons (OP.val (v := (.int .i64 s_l1.2.2)) rfl (x_mv f1043) ?_)
        refine OW.cons (OP.val (v := (.int .i64 (w64 (s_l1.2.2 + 1)))) rfl (x_add rfl rfl) ?_)
        refine OW.cons (OP.val (v := (.int .i64 (w64 (s_l1.2.2 + 1)))) rfl (x_assign) ?_)
        refine OW.nil ?_
        obtain rfl := Option.some.inj hm
        exact ⟨_, rfl, ⟨f1038, f1039, f1040, f1041, f1042, rfl, hL⟩⟩
    · refine CW.exit ?_
      refine XJ.hit ?_
      obtain rfl := Option.some.inj hm
      exact ⟨_, rfl, ⟨f831, f832, f833, f834, f835, f836, hL⟩⟩

theorem M.spec_l26Points_ok (w0 : World) (a0 : Race) {v1 : Value} (h2 : rdL (· < w0.heap.size) w0 v1 a0.Finishes) (a1 : Int) {r : (List Int)} (hm : M.spec_l26Points a0 a1 = some r) :
    Calls Try.prog 94 #[(.agg #[v1]), (.int .i64 a1)] w0 fun e w' => ∃ (rv0 : Value) (rS0 : Nat → Prop), e = .returned rv0 ∧ Fresh w0 w' [Ent.own 2 rS0 rv0 r] := by
  unfold M.spec_l26Points at hm
  refine calls_CW (args := [(.agg #[v1]), (.int .i64 a1)]) Try.func94 rfl rfl rfl ?_
  have hL := Hp.start w0
  refine CW.seq ?_
  refine CW.regionL ?_
  refine OW.cons (S_box (cs := #[v1]) hL rfl rfl rfl ?_)
  intro wd3 b4 hL
  refine OW.cons (OP.val (v := (.slice none 0 0)) rfl (x_assign) ?_)
  refine OW.nil ?_
  refine CW.seq ?_
  refine CW.regionL ?_
  refine OW.cons (OP.val (v := (.pointer (some ⟨b4, 0, none⟩))) rfl (x_fieldAddr (fsz := 1) 0 0 0 Try.underlying46 rfl Try_T44 rfl rfl rfl) ?_)
  refine OW.cons (OP.val (v := v1) rfl (x_load1 Try.underlying44 rfl rfl (hL.cellB 0 rfl rfl)) ?_)
  refine OW.cons (OP.val (v := (.int .i64 (a0.Finishes.length : Int))) rfl (x_lenR Try.underlying44 rfl (hL.rdS 1 rfl h2)) ?_)
  refine OW.cons (OP.val (v := (.int .i64 (a0.Finishes.length : Int))) rfl (x_assign) ?_)
  refine OW.nil ?_
  refine CW.seq ?_
  refine CW.regionL ?_
  refine OW.cons (OP.val (v := (.int .i64 0)) rfl (x_assign) ?_)
  refine OW.nil ?_
  refine CW.seq ?_
  refine CW.seq ?_
  refine CW.regionL ?_
  refine OW.cons (OP.val (v := (.int .i64 0)) rfl (x_assign) ?_)
  refine OW.nil ?_
  obtain ⟨o115, ho116, hm⟩ := bndE hm
  refine CW.loopB (fun (s_l1 : Int × Int) (F : Fr) (w : World) => F 1 = (.int .i64 a1) ∧ F 2 = (.pointer (some ⟨b4, 0, none⟩)) ∧ F 5 = (.int .i64 (a0.Finishes.length : Int)) ∧ F 6 = (.int .i64 s_l1.1) ∧ F 7 = (.int .i64 s_l1.2) ∧ Hp w0 [Ent.blk b4 46 #[v1], Ent.snap w0 w0.heap.size] w) (fun o => outc o (fun x => some x) (fun s => M.spec_l26Points_a1 a0 a1 s) = some r) ho116 hm ⟨rfl, rfl, rfl, rfl, rfl, hL⟩ ?_ ?_
  · intro s_l1 F117 wd118 hJ hm
    have hm := outcE hm
    have hm : M.spec_l26Points_a1 a0 a1 s_l1 = some r := hm
    unfold M.spec_l26Points_a1 at hm
    obtain ⟨f119, f120, f121, f122, f123, hL⟩ := hJ
    refine CW.seq ?_
    refine CW.regionL ?_
    refine OW.cons (OP.val (v := (.int .i64 (a0.Finishes.length : Int))) rfl (x_mv f121) ?_)
    obtain ⟨hc127, hm⟩ := chkE hm
    refine OW.cons (S_make (α := Int) 0 hL Try.underlying61 Try_T2 rfl rfl rfl hc127 (by decide) rfl ?_)
    intro wd124 v125 S126 hL
    refine OW.cons (OP.val (v := v125) rfl (x_assign) ?_)
    refine OW.nil ?_
    refine CW.seq ?_
    refine CW.regionL ?_
    refine OW.cons (OP.val (v := (.int .i64 (a0.Finishes.length : Int))) rfl (x_mv f121) ?_)
    obtain ⟨hc131, hm⟩ := chkE hm
    refine OW.cons (S_make (α := Int) 0 hL Try.underlying61 Try_T2 rfl rfl rfl hc131 (by decide) rfl ?_)
    intro wd128 v129 S130 hL
    refine OW.cons (OP.val (v := v129) rfl (x_assign) ?_)
    refine OW.nil ?_
    refine CW.seq ?_
    refine CW.seq ?_
    refine CW.regionL ?_
    refine OW.cons (OP.val (v := (.int .i64 0)) rfl (x_assign) ?_)
    refine OW.nil ?_
    obtain ⟨o1038, ho1039, hm⟩ := bndE hm
    refine CW.loopB (fun (s_l2 : (List Int) × Int) (F : Fr) (w : World) => ∃ (S1035 : Nat → Prop), F 1 = (.int .i64 a1) ∧ F 2 = (.pointer (some ⟨b4, 0, none⟩)) ∧ F 5 = (.int .i64 (a0.Finishes.length : Int)) ∧ F 6 = (.int .i64 s_l1.1) ∧ F 8 = v125 ∧ F 9 = v129 ∧ F 10 = (.int .i64 s_l2.2) ∧ Hp w0 [Ent.own 2 S130 v129 (List.replicate ((a0.Finishes.length : Int)).toNat (0 : Int)), Ent.own 2 S1035 v125 s_l2.1, Ent.blk b4 46 #[v1], Ent.snap w0 w0.heap.size] w) (fun o => outc o (fun x => some x) (fun s => M.spec_l26Points_a2 s) = some r) ho1039 hm ⟨S126, f119, f120, f121, f122, rfl, rfl, rfl, hL⟩ ?_ ?_
    · intro s_l2 F1040 wd1041 hJ hm
      have hm := outcE hm
      have hm : M.spec_l26Points_a2 s_l2 = some r := hm
      unfold M.spec_l26Points_a2 at hm
      obtain ⟨S1035, f1042, f1043, f1044, f1045, f1046, f1047, f1048, hL⟩ := hJ
      refine CW.seq ?_
      refine CW.regionL ?_
      refine OW.cons (OP.val (v := v125) rfl (x_mv f1046) ?_)
      refine OW.cons (OP.val (v := v125) rfl (x_assign) ?_)
      refine OW.nil ?_
      refine CW.ret ?_
      obtain rfl := Option.some.inj hm
      exact RR1 rfl rfl ⟨v125, S1035, rfl, hL.fresh 3 rfl [1] (by decide) (by decide) rfl⟩
    · intro s_l2 F1049 wd1050 t1036 hJ hm hr1037
      unfold M.spec_l26Points_l2 at hm
      obtain ⟨S1035, f1051, f1052, f1053, f1054, f1055, f1056, f1057, hL⟩ := hJ
      refine CW.seq ?_
      refine CW.seq ?_
      refine CW.regionL ?_
      refine OW.cons (OP.val (v := (.int .i64 s_l2.2)) rfl (x_mv f1057) ?_)
      refine OW.cons (OP.val (v := v125) rfl (x_mv f1055) ?_)
      refine OW.cons (OP.val (v := (.int .i64 (s_l2.1.length : Int))) rfl (x_lenR Try.underlying61 rfl (hL.rdO 1 rfl)) ?_)
      refine OW.cons (OP.val (v := (.bool (decide (s_l2.2 < (s_l2.1.length : Int))))) rfl (x_lss rfl rfl) ?_)
      refine OW.nil ?_
      refine CW.condM (t := decide (s_l2.2 < (s_l2.1.length : Int))) rfl hm (fun hb1058 hm => ?_) (fun hb1058 hm => ?_)
      · refine CW.skip ?_
        refine CW.seqJ (fun (s_j1 : (List Int)) (F : Fr) (w : World) => ∃ (S1279 : Nat → Prop), F 1 = (.int .i64 a1) ∧ F 2 = (.pointer (some ⟨b4, 0, none⟩)) ∧ F 5 = (.int .i64 (a0.Finishes.length : Int)) ∧ F 6 = (.int .i64 s_l1.1) ∧ F 8 = v125 ∧ F 9 = v129 ∧ F 10 = (.int .i64 s_l2.2) ∧ Hp w0 [Ent.own 2 S130 v129 (List.replicate ((a0.Finishes.length : Int)).toNat (0 : Int)), Ent.own 2 S1279 v125 s_j1, Ent.blk b4 46 #[v1], Ent.snap w0 w0.heap.size] w) (fun s_j1 => M.spec_l26Points_j1 s_l2 s_j1 = some t1036) ?_ ?_
        · refine CW.blockJ (fun (s_j2 : (List Int)) (F : Fr) (w : World) => ∃ (S1394 : Nat → Prop), F 1 = (.int .i64 a1) ∧ F 2 = (.pointer (some ⟨b4, 0, none⟩)) ∧ F 5 = (.int .i64 (a0.Finishes.length : Int)) ∧ F 6 = (.int .i64 s_l1.1) ∧ F 8 = v125 ∧ F 9 = v129 ∧ F 10 = (.int .i64 s_l2.2) ∧ Hp w0 [Ent.own 2 S130 v129 (List.replicate ((a0.Finishes.length : Int)).toNat (0 : Int)), Ent.own 2 S1394 v125 s_j2, Ent.blk b4 46 #[v1], Ent.snap w0 w0.heap.size] w) (fun s_j2 => M.spec_l26Points_j2 s_l2 s_j2 = some t1036) ?_ ?_
          · refine CW.seq ?_
            refine CW.regionL ?_
            refine OW.cons (OP.val (v := (.pointer (some ⟨b4, 0, none⟩))) rfl (x_fieldAddr (fsz := 1) 0 0 0 Try.underlying46 rfl Try_T44 rfl f1052 rfl) ?_)
            refine OW.cons (OP.val (v := v1) rfl (x_load1 Try.underlying44 rfl rfl (hL.cellB 2 rfl rfl)) ?_)
            refine OW.cons (OP.val (v := (.int .i64 s_l2.2)) rfl (x_mv f1057) ?_)
            obtain ⟨x1404, ha1405, hm⟩ := bndE hm
            obtain ⟨hz1406, ha1410⟩ := idxE ha1405
            obtain ⟨b1407, q1408, hix1409⟩ := rdL_ix (hL.rdS 3 rfl h2) hz1406 ha1410
            refine OW.cons (OP.val (v := (.pointer (some ⟨b1407, q1408, none⟩))) rfl (x_ix Try.underlying44 Try_T50 rfl rfl hix1409) ?_)
            refine OW.cons (OP.val (v := (.pointer (some ⟨b1407, q1408 + 1, none⟩))) rfl (x_fieldAddr (fsz := 1) q1408 1 (q1408 + 1) Try.underlying50 rfl Try_T2 rfl rfl rfl) ?_)
            refine OW.cons (OP.val (v := (.int .i64 x1404.Code)) rfl (x_load1 Try.underlying2 rfl rfl (rdF_cells (hL.rdS 3 rfl h2) hix1409 ha1410 1 _ rfl)) ?_)
            refine OW.cons (OP.val (v := (.int .i64 x1404.Code)) rfl (x_assign) ?_)
            refine OW.nil ?_
            refine CW.blockJ (fun (s_j3 : (List Int)) (F : Fr) (w : World) => ∃ (S1455 : Nat → Prop), F 1 = (.int .i64 a1) ∧ F 2 = (.pointer (some ⟨b4, 0, none⟩)) ∧ F 5 = (.int .i64 (a0.Finishes.length : Int)) ∧ F 6 = (.int .i64 s_l1.1) ∧ F 8 = v125 ∧ F 9 = v129 ∧ F 10 = (.int .i64 s_l2.2) ∧ Hp w0 [Ent.own 2 S130 v129 (List.replicate ((a0.Finishes.length : Int)).toNat (0 : Int)), Ent.own 2 S1455 v125 s_j3, Ent.blk b4 46 #[v1], Ent.snap w0 w0.heap.size] w) (fun s_j3 => M.spec_l26Points_j3 s_l2 s_j3 = some t1036) ?_ ?_
            · refine CW.seq ?_
              refine CW.regionL ?_
              refine OW.cons (OP.val (v := (.int .i64 x1404.Code)) rfl (x_move) ?_)
              refine OW.cons (OP.val (v := (.bool (x1404.Code == 0))) rfl (x_eql rfl rfl) ?_)
              refine OW.cons (OP.val (v := (.bool (x1404.Code == 0))) rfl (x_assign) ?_)
              refine OW.nil ?_
              refine CW.condM (t := x1404.Code == 0) rfl hm (fun hb1465 hm => ?_) (fun hb1465 hm => ?_)
              · refine CW.seq ?_
                refine CW.regionL ?_
                refine OW.cons (OP.val (v := (.agg #[v1])) rfl (x_loadN (cs := [v1]) Try.underlying46 Try_T46 rfl f1052 (hL.cellsB 2 rfl (o := 0) (l := [v1]) (by intro j u hj; exact (by simpa using hj)))) ?_)
                refine OW.cons (OP.val (v := v129) rfl (x_mv f1056) ?_)
                refine OW.cons (OP.val (v := (.int .i64 s_l2.2)) rfl (x_mv f1057) ?_)
                obtain ⟨x1466, hx1467, hm⟩ := bndE hm
                refine OW.cons (OP.call rfl (x_call (vs := [(.agg #[v1]), v129, (.int .i64 s_l2.2)]) Try_C99 ⟨rfl, rfl, rfl, trivial⟩) (M.spec_l26Place_ok _ a0 (hL.rdS 3 rfl h2) (List.replicate ((a0.Finishes.length : Int)).toNat (0 : Int)) (hL.rdO 0 rfl) s_l2.2 hx1467) ?_)
                rintro e1468 wd1469 ⟨rfl, hF1470⟩
                refine ⟨_, rfl, ?_⟩
                have hL := hL.pushAll hF1470
                simp only [lA, lB, lC, lD] at hL
                refine OW.cons (OP.val (v := (.tuple #[(.int .i64 x1466.1), (.int .i64 x1466.2)])) rfl (x_move) ?_)
                refine OW.cons (OP.val (v := (.int .i64 x1466.1)) rfl (x_extract rfl rfl) ?_)
                refine OW.cons (OP.val (v := (.int .i64 x1466.2)) rfl (x_extract rfl rfl) ?_)
                refine OW.cons (OP.val (v := (.int .i64 x1466.1)) rfl (x_assign) ?_)
                refine OW.cons (OP.val (v := (.int .i64 x1466.2)) rfl (x_assign) ?_)
                refine OW.nil ?_
                refine CW.regionL ?_
                refine OW.cons (OP.val (v := v125) rfl (x_mv f1055) ?_)
                refine OW.cons (OP.val (v := (.int .i64 s_l2.2)) rfl (x_mv f1057) ?_)
                refine OW.cons (OP.val (v := (.int .i64 x1466.1)) rfl (x_move) ?_)
                refine OW.cons (OP.val (v := (.int .i64 (w64 (2 * x1466.1)))) rfl (x_mul rfl rfl) ?_)
                refine OW.cons (OP.val (v := (.int .i64 x1466.2)) rfl (x_move) ?_)
                refine OW.cons (OP.val (v := (.int .i64 (w64 ((w64 (2 * x1466.1)) + x1466.2)))) rfl (x_add rfl rfl) ?_)
                refine OW.cons (OP.val (v := (.int .i64 (w64 ((w64 ((w64 (2 * x1466.1)) + x1466.2)) - 1)))) rfl (x_sub rfl rfl) ?_)
                refine OW.cons (OP.val (v := (.int .i64 (w64 (5 * (w64 ((w64 ((w64 (2 * x1466.1)) + x1466.2)) - 1)))))) rfl (x_mul rfl rfl) ?_)
                obtain ⟨x1471, ha1472, hm⟩ := bndE hm
                obtain ⟨hz1473, ha1477⟩ := idxE ha1472
                obtain ⟨b1474, q1475, hix1476⟩ := rdL_ix (hL.rdO 1 rfl) hz1473 ha1477
                refine OW.cons (OP.val (v := (.pointer (some ⟨b1474, q1475, none⟩))) rfl (x_ix Try.underlying61 Try_T2 rfl rfl hix1476) ?_)
                refine OW.cons (S_storeX (j := 0) (w64 (5 * (w64 ((w64 ((w64 (2 * x1466.1)) + x1466.2)) - 1)))) hL 1 rfl Try_T2 hix1476 ha1477 rfl rfl rfl rfl rfl rfl ?_)
                intro wd1478 hL
                refine OW.nil ?_
                exact ⟨s_l2.1.set (s_l2.2 : Int).toNat (w64 (5 * (w64 ((w64 ((w64 (2 * x1466.1)) + x1466.2)) - 1)))), hm, ⟨S1035, f1051, f1052, f1053, f1054, f1055, f1056, f1057, hL⟩⟩
              · refine CW.seq ?_
                refine CW.regionL ?_
                refine OW.cons (OP.val (v := (.int .i64 x1404.Code)) rfl (x_move) ?_)
                refine OW.cons (OP.val (v := (.bool (x1404.Code == 9))) rfl (x_eql rfl rfl) ?_)
                refine OW.cons (OP.val (v := (.bool (x1404.Code == 9))) rfl (x_assign) ?_)
                refine OW.nil ?_
                refine CW.condM (t := x1404.Code == 9) rfl hm (fun hb1479 hm => ?_) (fun hb1479 hm => ?_)
                · refine CW.skip ?_
                  exact ⟨s_l2.1, hm, ⟨S1035, f1051, f1052, f1053, f1054, f1055, f1056, f1057, hL⟩⟩
                · refine CW.seqJ (fun (s_j4 : Bool) (F : Fr) (w : World) => F 1 = (.int .i64 a1) ∧ F 2 = (.pointer (some ⟨b4, 0, none⟩)) ∧ F 5 = (.int .i64 (a0.Finishes.length : Int)) ∧ F 6 = (.int .i64 s_l1.1) ∧ F 8 = v125 ∧ F 9 = v129 ∧ F 10 = (.int .i64 s_l2.2) ∧ F 77 = (.bool s_j4) ∧ Hp w0 [Ent.own 2 S130 v129 (List.replicate ((a0.Finishes.length : Int)).toNat (0 : Int)), Ent.own 2 S1035 v125 s_l2.1, Ent.blk b4 46 #[v1], Ent.snap w0 w0.heap.size] w) (fun s_j4 => M.spec_l26Points_j4 a0 s_l1 s_l2 s_j4 = some t1036) ?_ ?_
                  · refine CW.regionL ?_
                    refine OW.cons (OP.val (v := (.int .i64 x1404.Code)) rfl (x_move) ?_)
                    refine OW.cons (OP.val (v := (.bool (x1404.Code == 1))) rfl (x_eql rfl rfl) ?_)
                    refine OW.cons (OP.val (v := (.bool (x1404.Code == 1))) rfl (x_move) ?_)
                    refine ifB_elim hm (fun hb1508 hm => ?_) (fun hb1508 hm => ?_)
                    · refine OW.cons (OP.no' rfl rfl hb1508 rfl ?_)
                      refine OW.cons (OP.no' rfl rfl hb1508 rfl ?_)
                      refine OW.cons (OP.val (v := (.bool true)) rfl (x_pickT' rfl hb1508 rfl) ?_)
                      refine OW.cons (OP.val (v := (.bool true)) rfl (x_assign) ?_)
                      refine OW.nil ?_
                      exact ⟨true, hm, ⟨f1051, f1052, f1053, f1054, f1055, f1056, f1057, rfl, hL⟩⟩
                    · refine OW.cons (OP.yes' rfl rfl hb1508 (OP.val (v := (.int .i64 a1)) rfl (x_mv f1051) ?_))
                      refine OW.cons (OP.yes' rfl rfl hb1508 (OP.val (v := (.bool (a1 == 0))) rfl (x_eql rfl rfl) ?_))
                      refine OW.cons (OP.val (v := (.bool (a1 == 0))) rfl (x_pickF' rfl hb1508 rfl) ?_)
                      refine OW.cons (OP.val (v := (.bool (a1 == 0))) rfl (x_assign) ?_)
                      refine OW.nil ?_
                      exact ⟨a1 == 0, hm, ⟨f1051, f1052, f1053, f1054, f1055, f1056, f1057, rfl, hL⟩⟩
                  · intro s_j4 F1481 wd1482 hJ hm
                    unfold M.spec_l26Points_j4 at hm
                    obtain ⟨f1483, f1484, f1485, f1486, f1487, f1488, f1489, f1490, hL⟩ := hJ
                    refine CW.condM (t := s_j4) f1490 hm (fun hb1491 hm => ?_) (fun hb1491 hm => ?_)
                    · refine CW.regionL ?_
                      refine OW.cons (OP.val (v := v125) rfl (x_mv f1487) ?_)
                      refine OW.cons (OP.val (v := (.int .i64 s_l2.2)) rfl (x_mv f1489) ?_)
                      refine OW.cons (OP.val (v := (.int .i64 (a0.Finishes.length : Int))) rfl (x_mv f1485) ?_)
                      refine OW.cons (OP.val (v := (.int .i64 (w64 ((a0.Finishes.length : Int) + 1)))) rfl (x_add rfl rfl) ?_)
                      refine OW.cons (OP.val (v := (.int .i64 (w64 (10 * (w64 ((a0.Finishes.length : Int) + 1)))))) rfl (x_mul rfl rfl) ?_)
                      obtain ⟨x1492, ha1493, hm⟩ := bndE hm
                      obtain ⟨hz1494, ha1498⟩ := idxE ha1493
                      obtain ⟨b1495, q1496, hix1497⟩ := rdL_ix (hL.rdO 1 rfl) hz1494 ha1498
                      refine OW.cons (OP.val (v := (.pointer (some ⟨b1495, q1496, none⟩))) rfl (x_ix Try.underlying61 Try_T2 rfl rfl hix1497) ?_)
                      refine OW.cons (S_storeX (j := 0) (w64 (10 * (w64 ((a0.Finishes.length : Int) + 1)))) hL 1 rfl Try_T2 hix1497 ha1498 rfl rfl rfl rfl rfl rfl ?_)
                      intro wd1499 hL
                      refine OW.nil ?_
                      exact ⟨s_l2.1.set (s_l2.2 : Int).toNat (w64 (10 * (w64 ((a0.Finishes.length : Int) + 1)))), hm, ⟨S1035, f1483, f1484, f1485, f1486, f1487, f1488, f1489, hL⟩⟩
                    · refine CW.regionL ?_
                      refine OW.cons (OP.val (v := v125) rfl (x_mv f1487) ?_)
                      refine OW.cons (OP.val (v := (.int .i64 s_l2.2)) rfl (x_mv f1489) ?_)
                      refine OW.cons (OP.val (v := (.int .i64 s_l1.1)) rfl (x_mv f1486) ?_)
                      refine OW.cons (OP.val (v := (.int .i64 (w64 (s_l1.1 + 1)))) rfl (x_add rfl rfl) ?_)
                      refine OW.cons (OP.val (v := (.int .i64 (w64 (10 * (w64 (s_l1.1 + 1)))))) rfl (x_mul rfl rfl) ?_)
                      obtain ⟨x1500, ha1501, hm⟩ := bndE hm
                      obtain ⟨hz1502, ha1506⟩ := idxE ha1501
                      obtain ⟨b1503, q1504, hix1505⟩ := rdL_ix (hL.rdO 1 rfl) hz1502 ha1506
                      refine OW.cons (OP.val (v := (.pointer (some ⟨b1503, q1504, none⟩))) rfl (x_ix Try.underlying61 Try_T2 rfl rfl hix1505) ?_)
                      refine OW.cons (S_storeX (j := 0) (w64 (10 * (w64 (s_l1.1 + 1)))) hL 1 rfl Try_T2 hix1505 ha1506 rfl rfl rfl rfl rfl rfl ?_)
                      intro wd1507 hL
                      refine OW.nil ?_
                      exact ⟨s_l2.1.set (s_l2.2 : Int).toNat (w64 (10 * (w64 (s_l1.1 + 1)))), hm, ⟨S1035, f1483, f1484, f1485, f1486, f1487, f1488, f1489, hL⟩⟩
            · intro s_j3 F1456 wd1457 hJ hm
              unfold M.spec_l26Points_j3 at hm
              obtain ⟨S1455, f1458, f1459, f1460, f1461, f1462, f1463, f1464, hL⟩ := hJ
              exact ⟨s_j3, hm, ⟨S1455, f1458, f1459, f1460, f1461, f1462, f1463, f1464, hL⟩⟩
          · intro s_j2 F1395 wd1396 hJ hm
            unfold M.spec_l26Points_j2 at hm
            obtain ⟨S1394, f1397, f1398, f1399, f1400, f1401, f1402, f1403, hL⟩ := hJ
            exact ⟨s_j2, hm, ⟨S1394, f1397, f1398, f1399, f1400, f1401, f1402, f1403, hL⟩⟩
        · intro s_j1 F1280 wd1281 hJ hm
          unfold M.spec_l26Points_j1 at hm
          obtain ⟨S1279, f1282, f1283, f1284, f1285, f1286, f1287, f1288, hL⟩ := hJ
          refine CW.regionL ?_
          refine OW.cons (OP.val (v := (.int .i64 s_l2.2)) rfl (x_mv f1288) ?_)
          refine OW.cons (OP.val (v := (.int .i64 (w64 (s_l2.2 + 1)))) rfl (x_add rfl rfl) ?_)
          refine OW.cons (OP.val (v := (.int .i64 (w64 (s_l2.2 + 1)))) rfl (x_assign) ?_)
          refine OW.nil ?_
          obtain rfl := Option.some.inj hm
          exact ⟨_, rfl, ⟨S1279, f1282, f1283, f1284, f1285, f1286, f1287, rfl, hL⟩⟩
      · refine CW.exit ?_
        refine XJ.hit ?_
        obtain rfl := Option.some.inj hm
        exact ⟨_, rfl, ⟨S1035, f1051, f1052, f1053, f1054, f1055, f1056, f1057, hL⟩⟩
  · intro s_l1 F1509 wd1510 t113 hJ hm hr114
    unfold M.spec_l26Points_l1 at hm
    obtain ⟨f1511, f1512, f1513, f1514, f1515, hL⟩ := hJ
    refine CW.seq ?_
    refine CW.seq ?_
    refine CW.regionL ?_
    refine OW.cons (OP.val (v := (.int .i64 s_l1.2)) rfl (x_mv f1515) ?_)
    refine OW.cons (OP.val (v := (.pointer (some ⟨b4, 0, none⟩))) rfl (x_fieldAddr (fsz := 1) 0 0 0 Try.underlying46 rfl Try_T44 rfl f1512 rfl) ?_)
    refine OW.cons (OP.val (v := v1) rfl (x_load1 Try.underlying44 rfl rfl (hL.cellB 0 rfl rfl)) ?_)
    refine OW.cons (OP.val (v := (.int .i64 (a0.Finishes.length : Int))) rfl (x_lenR Try.underlying44 rfl (hL.rdS 1 rfl h2)) ?_)
    refine OW.cons (OP.val (v := (.bool (decide (s_l1.2 < (a0.Finishes.length : Int))))) rfl (x_lss rfl rfl) ?_)
    refine OW.nil ?_
    refine CW.condM (t := decide (s_l1.2 < (a0.Finishes.length : Int))) rfl hm (fun hb1516 hm => ?_) (fun hb1516 hm => ?_)
    · refine CW.skip ?_
      refine CW.seqJ (fun (s_j5 : Int) (F : Fr) (w : World) => F 1 = (.int .i64 a1) ∧ F 2 = (.pointer (some ⟨b4, 0, none⟩)) ∧ F 5 = (.int .i64 (a0.Finishes.length : Int)) ∧ F 6 = (.int .i64 s_j5) ∧ F 7 = (.int .i64 s_l1.2) ∧ Hp w0 [Ent.blk b4 46 #[v1], Ent.snap w0 w0.heap.size] w) (fun s_j5 => M.spec_l26Points_j5 s_l1 s_j5 = some t113) ?_ ?_
      · refine CW.blockJ (fun (s_j6 : Int) (F : Fr) (w : World) => F 1 = (.int .i64 a1) ∧ F 2 = (.pointer (some ⟨b4, 0, none⟩)) ∧ F 5 = (.int .i64 (a0.Finishes.length : Int)) ∧ F 6 = (.int .i64 s_j6) ∧ F 7 = (.int .i64 s_l1.2) ∧ Hp w0 [Ent.blk b4 46 #[v1], Ent.snap w0 w0.heap.size] w) (fun s_j6 => M.spec_l26Points_j6 s_l1 s_j6 = some t113) ?_ ?_
        · refine CW.seq ?_
          refine CW.regionL ?_
          refine OW.cons (OP.val (v := (.pointer (some ⟨b4, 0, none⟩))) rfl (x_fieldAddr (fsz := 1) 0 0 0 Try.underlying46 rfl Try_T44 rfl f1512 rfl) ?_)
          refine OW.cons (OP.val (v := v1) rfl (x_load1 Try.underlying44 rfl rfl (hL.cellB 0 rfl rfl)) ?_)
          refine OW.cons (OP.val (v := (.int .i64 s_l1.2)) rfl (x_mv f1515) ?_)
          obtain ⟨x1562, ha1563, hm⟩ := bndE hm
          obtain ⟨hz1564, ha1568⟩ := idxE ha1563
          obtain ⟨b1565, q1566, hix1567⟩ := rdL_ix (hL.rdS 1 rfl h2) hz1564 ha1568
          refine OW.cons (OP.val (v := (.pointer (some ⟨b1565, q1566, none⟩))) rfl (x_ix Try.underlying44 Try_T50 rfl rfl hix1567) ?_)
          refine OW.cons (OP.val (v := (.pointer (some ⟨b1565, q1566 + 1, none⟩))) rfl (x_fieldAddr (fsz := 1) q1566 1 (q1566 + 1) Try.underlying50 rfl Try_T2 rfl rfl rfl) ?_)
          refine OW.cons (OP.val (v := (.int .i64 x1562.Code)) rfl (x_load1 Try.underlying2 rfl rfl (rdF_cells (hL.rdS 1 rfl h2) hix1567 ha1568 1 _ rfl)) ?_)
          refine OW.cons (OP.val (v := (.bool (x1562.Code != 1))) rfl (x_neq rfl rfl) ?_)
          refine OW.nil ?_
          refine CW.condM (t := x1562.Code != 1) rfl hm (fun hb1569 hm => ?_) (fun hb1569 hm => ?_)
          · refine CW.regionL ?_
            refine OW.cons (OP.val (v := (.int .i64 s_l1.1)) rfl (x_mv f1514) ?_)
            refine OW.cons (OP.val (v := (.int .i64 (w64 (s_l1.1 + 1)))) rfl (x_add rfl rfl) ?_)
            refine OW.cons (OP.val (v := (.int .i64 (w64 (s_l1.1 + 1)))) rfl (x_assign) ?_)
            refine OW.nil ?_
            exact ⟨w64 (s_l1.1 + 1), hm, ⟨f1511, f1512, f1513, rfl, f1515, hL⟩⟩
          · refine CW.skip ?_
            exact ⟨s_l1.1, hm, ⟨f1511, f1512, f1513, f1514, f1515, hL⟩⟩
        · intro s_j6 F1555 wd1556 hJ hm
          unfold M.spec_l26Points_j6 at hm
          obtain ⟨f1557, f1558, f1559, f1560, f1561, hL⟩ := hJ
          exact ⟨s_j6, hm, ⟨f1557, f1558, f1559, f1560, f1561, hL⟩⟩
      · intro s_j5 F1540 wd1541 hJ hm
        unfold M.spec_l26Points_j5 at hm
        obtain ⟨f1542, f1543, f1544, f1545, f1546, hL⟩ := hJ
        refine CW.regionL ?_
        refine OW.cons (OP.val (v := (.int .i64 s_l1.2)) rfl (x_mv f1546) ?_)
        refine OW.cons (OP.val (v := (.int .i64 (w64 (s_l1.2 + 1)))) rfl (x_add rfl rfl) ?_)
        refine OW.cons (OP.val (v := (.int .i64 (w64 (s_l1.2 + 1)))) rfl (x_assign) ?_)
        refine OW.nil ?_
        obtain rfl := Option.some.inj hm
        exact ⟨_, rfl, ⟨f1542, f1543, f1544, f1545, rfl, hL⟩⟩
    · refine CW.exit ?_
      refine XJ.hit ?_
      obtain rfl := Option.some.inj hm
      exact ⟨_, rfl, ⟨f1511, f1512, f1513, f1514, f1515, hL⟩⟩

end Go.Proofs.Ytgelmamcinlahaa
