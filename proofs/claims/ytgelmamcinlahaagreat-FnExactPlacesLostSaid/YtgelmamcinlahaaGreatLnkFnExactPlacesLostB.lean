/- Links: each Go function returns what its model computes and leaves what was there. Printed by my generator. -/
import Derived.Test.YtgelmamcinlahaaGreatLnkFnExactPlacesLostA
namespace Go.Proofs.YtgelmamcinlahaaGreat
set_option maxRecDepth 10000
open Go Go.RowKit Go.ChangeShapes Go.WideShapes
set_option linter.unusedVariables false
set_option linter.unusedSimpArgs false

theorem M.spec_TableOf_ok (w0 : World) (a0 : Series) {v1 : Value} (h2 : rdL (· < w0.heap.size) w0 v1 a0.Races) {r : Table × Int} (hm : M.spec_TableOf a0 = some r) :
    Calls Tryz.prog 35 #[(.agg #[(.int .i64 a0.Boats), (.int .i64 a0.Scheme), v1])] w0 fun e w' => ∃ (rv0 : Value) (rS0 : Nat → Prop), ∃ (rv1 : Value) (rS1 : Nat → Prop), e = .returned (.tuple #[(.agg #[(.int .i64 r.1.Boats), rv0, rv1]), (.int .i64 r.2)]) ∧ Fresh w0 w' [Ent.own 26 rS0 rv0 r.1.Points, Ent.own 26 rS1 rv1 r.1.Codes] := by
 unfold M.spec_TableOf at hm
 refine calls_CW (args := [(.agg #[(.int .i64 a0.Boats), (.int .i64 a0.Scheme), v1])]) Tryz.func35 rfl rfl rfl ?_
 have hL := Hp.start w0
 refine CSR ?_
 refine OW.cons (S_box (cs := #[(.int .i64 a0.Boats), (.int .i64 a0.Scheme), v1]) hL rfl rfl rfl ?_)
 intro wd3 b4 hL
 refine OW.cons (S_alloc (cs := #[(.int .i64 0), (.slice none 0 0), (.slice none 0 0)]) hL Tryz_T49 rfl rfl ?_)
 intro wd5 b6 hL
 refine OV (.int .i64 0) rfl (x_assign) ?_
 refine ONS ?_
 refine CSR ?_
 refine OV (.agg #[(.int .i64 a0.Boats), (.int .i64 a0.Scheme), v1]) rfl (x_loadN (cs := [(.int .i64 a0.Boats), (.int .i64 a0.Scheme), v1]) U33 Tryz_T33 rfl rfl (hL.cellsB 1 rfl (o := 0) (l := [(.int .i64 a0.Boats), (.int .i64 a0.Scheme), v1]) (by intro j u hj; exact (by simpa using hj)))) ?_
 obtain ⟨x7, hx8, hm⟩ := bndE hm
 refine OW.cons (OP.call rfl (x_call (vs := [(.agg #[(.int .i64 a0.Boats), (.int .i64 a0.Scheme), v1])]) Tryz_C31 ⟨rfl, trivial⟩) (M.spec_IsSeries_ok _ a0 (hL.rdS 2 rfl h2) hx8) ?_)
 rintro e9 wd10 ⟨rfl, hF11⟩
 refine ⟨_, rfl, ?_⟩
 have hL := hL.pushAll hF11
 simp only [lA, lB, lC, lD] at hL
 refine OV (.bool (!x7)) rfl (x_not rfl) ?_
 refine OW.nil ?_
 refine CW.condM (t := !x7) rfl hm (fun hb12 hm => ?_) (fun hb12 hm => ?_)
 · refine CSR ?_
   refine OV (.agg #[(.int .i64 0), (.slice none 0 0), (.slice none 0 0)]) rfl (x_build Tryz_B49 (ps := []) trivial (by simp [Instr.fill, cells_int, cells_bool, cells_string, cells_agg, cells_slice, cells_pointer])) ?_
   refine OW.cons (S_storeN (l := [(.int .i64 0), (.slice none 0 0), (.slice none 0 0)]) (cs' := #[(.int .i64 0), (.slice none 0 0), (.slice none 0 0)]) hL 0 rfl Tryz_T49 rfl rfl (List.forall_mem_cons.2 ⟨rfl, (List.forall_mem_cons.2 ⟨rfl, (List.forall_mem_cons.2 ⟨rfl, (fun _ h => by cases h)⟩)⟩)⟩) rfl (Nat.le_of_ble_eq_true rfl) rfl ?_)
   intro wd13 hL
   refine OV (.int .i64 1) rfl (x_assign) ?_
   refine OW.nil ?_
   refine CW.ret ?_
   have hL := hL.pushNil (List Int) 26
   have hL := hL.pushNil (List Int) 26
   obtain rfl := Option.some.inj hm
   exact RRct rfl rfl (run_loadBlk U49 Tryz_T49 (hL.get 2 rfl) rfl) rfl ⟨(.slice none 0 0), None_, (.slice none 0 0), None_, rfl, hL.fresh 4 rfl [1, 0] (by decide) (by decide) rfl⟩
 refine CW.skip ?_
 refine CSR ?_
 refine OV (.pointer (some ⟨b4, 0, none⟩)) rfl (x_fieldAddr (fsz := 1) 0 0 0 U33 rfl Tryz_T2 rfl rfl rfl) ?_
 refine OV (.int .i64 a0.Boats) rfl (x_load1 U2 rfl rfl (hL.cellB 1 rfl rfl)) ?_
 refine OW.cons (S_lit0 (α := Int) (List Int) hL U47 Tryz_T26 rfl ?_)
 intro wd14 v15 S16 hL
 refine OW.cons (S_lit0 (α := Int) (List Int) hL U47 Tryz_T26 rfl ?_)
 intro wd17 v18 S19 hL
 refine OV (.agg #[(.int .i64 a0.Boats), v15, v18]) rfl (x_build Tryz_B49 (ps := [(0, (.int .i64 a0.Boats)), (1, v15), (2, v18)]) ⟨⟨rfl, rfl⟩, ⟨rfl, rfl⟩, ⟨rfl, rfl⟩, trivial⟩ (by simp [Instr.fill, cells_int, cells_bool, cells_string, cells_agg, cells_slice, cells_pointer, (rdL_cells (hL.rdO 1 rfl)), (rdL_cells (hL.rdO 0 rfl))])) ?_
 refine OW.cons (S_alloc (cs := #[(.int .i64 0), (.slice none 0 0), (.slice none 0 0)]) hL Tryz_T49 rfl rfl ?_)
 intro wd20 b21 hL
 refine OW.cons (S_storeN (l := [(.int .i64 a0.Boats), v15, v18]) (cs' := #[(.int .i64 a0.Boats), v15, v18]) hL 0 rfl Tryz_T49 rfl rfl (List.forall_mem_cons.2 ⟨rfl, (List.forall_mem_cons.2 ⟨rdL_one (hL.rdO 2 rfl), (List.forall_mem_cons.2 ⟨rdL_one (hL.rdO 1 rfl), (fun _ h => by cases h)⟩)⟩)⟩) rfl (Nat.le_of_ble_eq_true rfl) rfl ?_)
 intro wd22 hL
 refine ONS ?_
 refine CSR ?_
 refine OV (.int .i64 0) rfl (x_assign) ?_
 refine OW.nil ?_
 obtain ⟨o451, ho452, hm⟩ := bndE hm
 have hL := hL.sel [2, 1, 0, 3, 4, 5] (by decide) rfl
 refine CW.loopB (fun (s_l1 : (List (List Int)) × (List (List Int)) × Int) (F : Fr) (w : World) => ∃ (v445 : Value) (S446 : Nat → Prop) (v447 : Value) (S448 : Nat → Prop), F 1 = (.pointer (some ⟨b4, 0, none⟩)) ∧ F 2 = (.pointer (some ⟨b6, 0, none⟩)) ∧ F 4 = (.pointer (some ⟨b21, 0, none⟩)) ∧ F 5 = (.int .i64 s_l1.2.2) ∧ Hp w0 [Ent.own 26 S446 v445 s_l1.1, Ent.own 26 S448 v447 s_l1.2.1, Ent.blk b21 49 #[(.int .i64 a0.Boats), v445, v447], Ent.blk b6 49 #[(.int .i64 0), (.slice none 0 0), (.slice none 0 0)], Ent.blk b4 33 #[(.int .i64 a0.Boats), (.int .i64 a0.Scheme), v1], Ent.snap w0 w0.heap.size] w) (fun o => outc o (fun x => some x) (fun s => M.spec_TableOf_a1 a0 s) = some r) ho452 hm ⟨v15, S16, v18, S19, rfl, rfl, rfl, rfl, hL⟩ ?_ ?_
 · intro s_l1 F453 wd454 hJ hm
   have hm := outcE hm
   have hm : M.spec_TableOf_a1 a0 s_l1 = some r := hm
   unfold M.spec_TableOf_a1 at hm
   obtain ⟨v445, S446, v447, S448, f455, f456, f457, f458, hL⟩ := hJ
   refine CSR ?_
   refine OV (.agg #[(.int .i64 a0.Boats), v445, v447]) rfl (x_loadN (cs := [(.int .i64 a0.Boats), v445, v447]) U49 Tryz_T49 rfl f457 (hL.cellsB 2 rfl (o := 0) (l := [(.int .i64 a0.Boats), v445, v447]) (by intro j u hj; exact (by simpa using hj)))) ?_
   refine OW.cons (S_storeN (l := [(.int .i64 a0.Boats), v445, v447]) (cs' := #[(.int .i64 a0.Boats), v445, v447]) hL 3 rfl Tryz_T49 f456 rfl (List.forall_mem_cons.2 ⟨rfl, (List.forall_mem_cons.2 ⟨rdL_one (hL.rdO 0 rfl), (List.forall_mem_cons.2 ⟨rdL_one (hL.rdO 1 rfl), (fun _ h => by cases h)⟩)⟩)⟩) rfl (Nat.le_of_ble_eq_true rfl) rfl ?_)
   intro wd459 hL
   refine OV (.int .i64 0) rfl (x_assign) ?_
   refine OW.nil ?_
   refine CW.ret ?_
   obtain rfl := Option.some.inj hm
   exact RRct rfl f456 (run_loadBlk U49 Tryz_T49 (hL.get 3 rfl) rfl) rfl ⟨v445, S446, v447, S448, rfl, hL.fresh 5 rfl [0, 1] (by decide) (by decide) rfl⟩
 intro s_l1 F460 wd461 t449 hJ hm hr450
 unfold M.spec_TableOf_l1 at hm
 obtain ⟨v445, S446, v447, S448, f462, f463, f464, f465, hL⟩ := hJ
 refine CW.seq ?_
 refine CSR ?_
 refine OV (.int .i64 s_l1.2.2) rfl (x_mv f465) ?_
 refine OV (.pointer (some ⟨b4, 2, none⟩)) rfl (x_fieldAddr (fsz := 1) 0 2 2 U33 rfl Tryz_T31 rfl f462 rfl) ?_
 refine OV v1 rfl (x_load1 U31 rfl rfl (hL.cellB 4 rfl rfl)) ?_
 refine OV (.int .i64 (a0.Races.length : Int)) rfl (x_lenR U31 rfl (hL.rdS 5 rfl h2)) ?_
 refine OV (.bool (decide (s_l1.2.2 < (a0.Races.length : Int)))) rfl (x_lss rfl rfl) ?_
 refine OW.nil ?_
 refine CW.condM (t := decide (s_l1.2.2 < (a0.Races.length : Int))) rfl hm (fun hb466 hm => ?_) (fun hb466 hm => ?_)
 · refine CW.skip ?_
   refine CW.seq ?_
   refine CW.block ?_
   refine CSR ?_
   refine OW.cons (S_lit ([] : List Int) hL U26 Tryz_T2 rfl (by decide) (by first | (simp [Instr.fill, madeCells, Value.cells, ev, upd, Flat.enc, Flat.sz]; done) | rfl | kernel_rfl) rfl rfl ?_)
   intro wd467 v468 S469 hL
   refine OV v468 rfl (x_assign) ?_
   refine ONS ?_
   refine CSR ?_
   refine OV (.int .i64 0) rfl (x_assign) ?_
   refine OW.nil ?_
   obtain ⟨o550, ho551, hm⟩ := bndE hm
   refine CW.loopB (fun (s_l2 : (List Int) × Int) (F : Fr) (w : World) => ∃ (v546 : Value) (S547 : Nat → Prop), F 1 = (.pointer (some ⟨b4, 0, none⟩)) ∧ F 2 = (.pointer (some ⟨b6, 0, none⟩)) ∧ F 4 = (.pointer (some ⟨b21, 0, none⟩)) ∧ F 5 = (.int .i64 s_l1.2.2) ∧ F 6 = v546 ∧ F 7 = (.int .i64 s_l2.2) ∧ Hp w0 [Ent.own 2 S547 v546 s_l2.1, Ent.own 26 S446 v445 s_l1.1, Ent.own 26 S448 v447 s_l1.2.1, Ent.blk b21 49 #[(.int .i64 a0.Boats), v445, v447], Ent.blk b6 49 #[(.int .i64 0), (.slice none 0 0), (.slice none 0 0)], Ent.blk b4 33 #[(.int .i64 a0.Boats), (.int .i64 a0.Scheme), v1], Ent.snap w0 w0.heap.size] w) (fun o => outc o (fun x => some (.ret x)) (fun s => M.spec_TableOf_a2 a0 s_l1 s) = some t449) ho551 hm ⟨v468, S469, f462, f463, f464, f465, rfl, rfl, hL⟩ ?_ ?_
   · intro s_l2 F552 wd553 hJ hm
     have hm := outcE hm
     have hm : M.spec_TableOf_a2 a0 s_l1 s_l2 = some t449 := hm
     unfold M.spec_TableOf_a2 at hm
     obtain ⟨v546, S547, f554, f555, f556, f557, f558, f559, hL⟩ := hJ
     obtain ⟨wz560, hL, ho561⟩ := hL.freeze 1 rfl
     simp only [lC, lD] at hL
     obtain ⟨wz562, hL, ho563⟩ := hL.freeze 2 rfl
     simp only [lC, lD] at hL
     refine CW.drawH (fun w' => Hp w0 [Ent.blk b6 49 #[(.int .i64 0), (.slice none 0 0), (.slice none 0 0)], Ent.blk b4 33 #[(.int .i64 a0.Boats), (.int .i64 a0.Scheme), v1], Ent.snap w0 w0.heap.size] w') Tryz_mixed ?_
     have hL := hL.call (Mod.drew _)
     have hS := (hL.sel [4, 5, 6] (by decide) rfl)
     refine DH.take 0 rfl (by kernel_rfl) (by kernel_rfl) (by kernel_rfl) rfl rfl hS (YH.val (v := (.pointer (some ⟨b4, 0, none⟩))) (fun w' hS' => x_fieldAddr (fsz := 1) 0 0 0 U33 rfl Tryz_T2 rfl f554 rfl)) ?_
     have hS := (hL.sel [4, 5, 6] (by decide) rfl)
     refine DH.take 1 rfl (by kernel_rfl) (by kernel_rfl) (by kernel_rfl) rfl rfl hS (YH.val (v := (.int .i64 a0.Boats)) (fun w' hS' => x_load1 U2 rfl rfl (hS'.cellB 1 rfl rfl))) ?_
     have hS := (hL.sel [4, 5, 6] (by decide) rfl)
     refine DH.take 2 rfl (by kernel_rfl) (by kernel_rfl) (by kernel_rfl) rfl rfl hS (YH.val (v := (.pointer (some ⟨b21, 1, none⟩))) (fun w' hS' => x_fieldAddr (fsz := 1) 0 1 1 U49 rfl Tryz_T47 rfl f556 rfl)) ?_
     have hS := (hL.sel [4, 5, 6] (by decide) rfl)
     refine DH.take 4 rfl (by kernel_rfl) (by kernel_rfl) (by kernel_rfl) rfl rfl hS (YH.val (v := (.pointer (some ⟨b4, 2, none⟩))) (fun w' hS' => x_fieldAddr (fsz := 1) 0 2 2 U33 rfl Tryz_T31 rfl f554 rfl)) ?_
     have hS := (hL.sel [4, 5, 6] (by decide) rfl)
     refine DH.take 5 rfl (by kernel_rfl) (by kernel_rfl) (by kernel_rfl) rfl rfl hS (YH.val (v := v1) (fun w' hS' => x_load1 U31 rfl rfl (hS'.cellB 1 rfl rfl))) ?_
     have hS := (hL.sel [4, 5, 6] (by decide) rfl)
     refine DH.take 6 rfl (by kernel_rfl) (by kernel_rfl) (by kernel_rfl) rfl rfl hS (YH.val (v := (.int .i64 s_l1.2.2)) (fun w' hS' => x_mv f557)) ?_
     have hS := (hL.sel [4, 5, 6] (by decide) rfl)
     obtain ⟨x597, ha598, hm⟩ := bndE hm
     obtain ⟨hz599, ha607⟩ := idxE ha598
     obtain ⟨b600, q601, v602, hix603, hs604, hc605, hr606⟩ := rdN_at h2 hz599 ha607
     refine DH.take 7 rfl (by kernel_rfl) (by kernel_rfl) (by kernel_rfl) rfl rfl hS (YH.val (v := (.pointer (some ⟨b600, q601, none⟩))) (fun w' hS' => x_ix U31 Tryz_T75 rfl rfl hix603)) ?_
     have hS := (hL.sel [4, 5, 6] (by decide) rfl)
     refine DH.take 8 rfl (by kernel_rfl) (by kernel_rfl) (by kernel_rfl) rfl rfl hS (YH.val (v := (.agg #[v602])) (fun w' hS' => x_loadN (cs := [v602]) U75 Tryz_T75 rfl rfl (by intro j u hj; match j, hj with | 0, hj => (simp at hj; subst hj; exact (hS'.cellS 2 rfl hs604 hc605))))) ?_
     have hS := (hL.sel [4, 5, 6] (by decide) rfl)
     refine DH.take 9 rfl (by kernel_rfl) (by kernel_rfl) (by kernel_rfl) rfl rfl hS (YH.val (v := (.pointer (some ⟨b4, 1, none⟩))) (fun w' hS' => x_fieldAddr (fsz := 1) 0 1 1 U33 rfl Tryz_T2 rfl f554 rfl)) ?_
     have hS := (hL.sel [4, 5, 6] (by decide) rfl)
     refine DH.take 10 rfl (by kernel_rfl) (by kernel_rfl) (by kernel_rfl) rfl rfl hS (YH.val (v := (.int .i64 a0.Scheme)) (fun w' hS' => x_load1 U2 rfl rfl (hS'.cellB 1 rfl rfl))) ?_
     have hS := (hL.sel [4, 5, 6] (by decide) rfl)
     refine DH.take 14 rfl (by kernel_rfl) (by kernel_rfl) (by kernel_rfl) rfl rfl hS (YH.val (v := (.pointer (some ⟨b21, 2, none⟩))) (fun w' hS' => x_fieldAddr (fsz := 1) 0 2 2 U49 rfl Tryz_T47 rfl f556 rfl)) ?_
     have hS := (hL.sel [4, 5, 6] (by decide) rfl)
     refine DH.take 16 rfl (by kernel_rfl) (by kernel_rfl) (by kernel_rfl) rfl rfl hS (YH.val (v := v546) (fun w' hS' => x_mv f558)) ?_
     obtain ⟨x608, hx609, hm⟩ := bndE hm
     obtain ⟨hc621, hm⟩ := chkE hm
     obtain ⟨hc628, hm⟩ := chkE hm
     refine DH.node (listed' := (bma 21 2097151)) (fuel' := 0) (fun (F : Fr) (w : World) => ∃ (v781 : Value) (S782 : Nat → Prop) (v783 : Value) (S784 : Nat → Prop), F 1 = (.pointer (some ⟨b4, 0, none⟩)) ∧ F 2 = (.pointer (some ⟨b6, 0, none⟩)) ∧ F 4 = (.pointer (some ⟨b21, 0, none⟩)) ∧ F 5 = (.int .i64 s_l1.2.2) ∧ Hp w0 [Ent.own 26 S782 v781 (s_l1.2.1 ++ ([s_l2.1] : List (List Int))), Ent.own 26 S784 v783 (s_l1.1 ++ ([x608] : List (List Int))), Ent.blk b21 49 #[(.int .i64 a0.Boats), v783, v781], Ent.blk b6 49 #[(.int .i64 0), (.slice none 0 0), (.slice none 0 0)], Ent.blk b4 33 #[(.int .i64 a0.Boats), (.int .i64 a0.Scheme), v1], Ent.snap w0 w0.heap.size] w) ?_ (fun hN752 => ?_)
     · intro F857 wd858 hJ
       obtain ⟨v781, S782, v783, S784, f859, f860, f861, f862, hL⟩ := hJ
       refine DH.done (by kernel_rfl) ?_
       refine CW.regionL ?_
       refine OV (.int .i64 s_l1.2.2) rfl (x_mv f862) ?_
       refine OV (.int .i64 (w64 (s_l1.2.2 + 1))) rfl (x_add rfl rfl) ?_
       refine OV (.int .i64 (w64 (s_l1.2.2 + 1))) rfl (x_assign) ?_
       refine OW.nil ?_
       have hL := hL.sel [1, 0, 2, 3, 4, 5] (by decide) rfl
       obtain rfl := Option.some.inj hm
       exact ⟨_, rfl, ⟨v783, S784, v781, S782, f859, f860, f861, rfl, hL⟩⟩
     refine DH.node (listed' := (bma 21 1048575)) (fuel' := 1) (fun (F : Fr) (w : World) => ∃ (v785 : Value) (S786 : Nat → Prop) (v787 : Value) (S788 : Nat → Prop), F 1 = (.pointer (some ⟨b4, 0, none⟩)) ∧ F 2 = (.pointer (some ⟨b6, 0, none⟩)) ∧ F 4 = (.pointer (some ⟨b21, 0, none⟩)) ∧ F 5 = (.int .i64 s_l1.2.2) ∧ F 68 = (.agg #[(.int .i64 a0.Boats), v787, v785]) ∧ Hp w0 [Ent.own 26 S786 v785 (s_l1.2.1 ++ ([s_l2.1] : List (List Int))), Ent.own 26 S788 v787 (s_l1.1 ++ ([x608] : List (List Int))), Ent.blk b21 49 #[(.int .i64 a0.Boats), v445, v447], Ent.blk b6 49 #[(.int .i64 0), (.slice none 0 0), (.slice none 0 0)], Ent.blk b4 33 #[(.int .i64 a0.Boats), (.int .i64 a0.Scheme), v1], Ent.snap w0 w0.heap.size] w) ?_ (fun hN753 => ?_)
     · intro F863 wd864 hJ
       obtain ⟨v785, S786, v787, S788, f865, f866, f867, f868, f869, hL⟩ := hJ
       refine DH.only 20 rfl (by kernel_rfl) (S_storeN (l := [(.int .i64 a0.Boats), v787, v785]) (cs' := #[(.int .i64 a0.Boats), v787, v785]) hL 2 rfl Tryz_T49 f867 rfl (List.forall_mem_cons.2 ⟨rfl, (List.forall_mem_cons.2 ⟨rdL_one (hL.rdO 1 rfl), (List.forall_mem_cons.2 ⟨rdL_one (hL.rdO 0 rfl), (fun _ h => by cases h)⟩)⟩)⟩) f869 (Nat.le_of_ble_eq_true rfl) rfl ?_)
       intro wd870 hL
       refine ⟨(hL.sel [3, 4, 5] (by decide) rfl), ?_⟩
       exact DH.relist (listed' := (bma 21 2097151)) (by kernel_rfl) (hN752 _ _ ⟨v785, S786, v787, S788, f865, f866, f867, f868, hL⟩)
     refine DH.node (listed' := (bma 21 262143)) (fuel' := 3) (fun (F : Fr) (w : World) => ∃ (v789 : Value) (S790 : Nat → Prop) (v791 : Value) (S792 : Nat → Prop), F 1 = (.pointer (some ⟨b4, 0, none⟩)) ∧ F 2 = (.pointer (some ⟨b6, 0, none⟩)) ∧ F 4 = (.pointer (some ⟨b21, 0, none⟩)) ∧ F 5 = (.int .i64 s_l1.2.2) ∧ F 50 = (.int .i64 a0.Boats) ∧ F 62 = v791 ∧ F 64 = v447 ∧ F 66 = v789 ∧ Hp w0 [Ent.own 26 S790 v789 ([s_l2.1] : List (List Int)), Ent.own 26 S792 v791 (s_l1.1 ++ ([x608] : List (List Int))), Ent.frzS wz562 S448, Ent.blk b21 49 #[(.int .i64 a0.Boats), v445, v447], Ent.blk b6 49 #[(.int .i64 0), (.slice none 0 0), (.slice none 0 0)], Ent.blk b4 33 #[(.int .i64 a0.Boats), (.int .i64 a0.Scheme), v1], Ent.snap w0 w0.heap.size] w) ?_ (fun hN754 => ?_)
     · intro F871 wd872 hJ
       obtain ⟨v789, S790, v791, S792, f873, f874, f875, f876, f877, f878, f879, f880, hL⟩ := hJ
       have hL := hL.thaw 2 rfl ho563
       have hL := hL.sel [2, 0, 1, 3, 4, 5, 6] (by decide) rfl
       refine DH.only 18 rfl (by kernel_rfl) (S_appendN Int hL U47 Tryz_T26 rfl f879 f880 hc628 (by decide) rfl ?_)
       intro wd881 v882 S883 hL
       refine ⟨(hL.sel [3, 4, 5] (by decide) rfl), ?_⟩
       have hS := (hL.sel [3, 4, 5] (by decide) rfl)
       refine DH.take 19 rfl (by kernel_rfl) (by kernel_rfl) (by kernel_rfl) rfl rfl hS (YH.val (v := (.agg #[(.int .i64 a0.Boats), v791, v882])) (fun w' hS' => x_build Tryz_B49 (ps := [(0, (.int .i64 a0.Boats)), (1, v791), (2, v882)]) ⟨⟨rfl, f877⟩, ⟨rfl, f878⟩, ⟨rfl, rfl⟩, trivial⟩ (by simp [Instr.fill, cells_int, cells_bool, cells_string, cells_agg, cells_slice, cells_pointer, (rdL_cells (hL.rdO 1 rfl)), (rdL_cells (hL.rdO 0 rfl))]))) ?_
       exact DH.relist (listed' := (bma 21 1048575)) (by kernel_rfl) (hN753 _ _ ⟨v882, S883, v791, S792, f873, f874, f875, f876, rfl, hL⟩)
     refine DH.node (listed' := (bma 21 131071)) (fuel' := 4) (fun (F : Fr) (w : World) => ∃ (v793 : Value) (S794 : Nat → Prop), F 1 = (.pointer (some ⟨b4, 0, none⟩)) ∧ F 2 = (.pointer (some ⟨b6, 0, none⟩)) ∧ F 4 = (.pointer (some ⟨b21, 0, none⟩)) ∧ F 5 = (.int .i64 s_l1.2.2) ∧ F 50 = (.int .i64 a0.Boats) ∧ F 62 = v793 ∧ F 64 = v447 ∧ F 65 = v546 ∧ Hp w0 [Ent.own 26 S794 v793 (s_l1.1 ++ ([x608] : List (List Int))), Ent.own 2 S547 v546 s_l2.1, Ent.frzS wz562 S448, Ent.blk b21 49 #[(.int .i64 a0.Boats), v445, v447], Ent.blk b6 49 #[(.int .i64 0), (.slice none 0 0), (.slice none 0 0)], Ent.blk b4 33 #[(.int .i64 a0.Boats), (.int .i64 a0.Scheme), v1], Ent.snap w0 w0.heap.size] w) ?_ (fun hN755 => ?_)
     · intro F884 wd885 hJ
       obtain ⟨v793, S794, f886, f887, f888, f889, f890, f891, f892, f893, hL⟩ := hJ
       have hL := hL.sel [1, 0, 2, 3, 4, 5, 6] (by decide) rfl
       refine DH.only 17 rfl (by kernel_rfl) (S_lit1 s_l2.1 rfl hL U47 Tryz_T26 ((congrArg Value.cells f893).trans (rdL_cells (hL.rdO 0 rfl))) rfl ?_)
       intro wd894 v895 S896 hL
       refine ⟨(hL.sel [4, 5, 6] (by decide) rfl), ?_⟩
       exact DH.relist (listed' := (bma 21 262143)) (by kernel_rfl) (hN754 _ _ ⟨v895, S896, v793, S794, f886, f887, f888, f889, f890, f891, f892, rfl, hL⟩)
     refine DH.node (listed' := (bma 21 229375)) (fuel' := 4) (fun (F : Fr) (w : World) => ∃ (v795 : Value) (S796 : Nat → Prop) (v797 : Value) (S798 : Nat → Prop), F 1 = (.pointer (some ⟨b4, 0, none⟩)) ∧ F 2 = (.pointer (some ⟨b6, 0, none⟩)) ∧ F 4 = (.pointer (some ⟨b21, 0, none⟩)) ∧ F 5 = (.int .i64 s_l1.2.2) ∧ F 50 = (.int .i64 a0.Boats) ∧ F 62 = v797 ∧ F 63 = (.pointer (some ⟨b21, 2, none⟩)) ∧ F 66 = v795 ∧ Hp w0 [Ent.own 26 S796 v795 ([s_l2.1] : List (List Int)), Ent.own 26 S798 v797 (s_l1.1 ++ ([x608] : List (List Int))), Ent.frzS wz562 S448, Ent.blk b21 49 #[(.int .i64 a0.Boats), v445, v447], Ent.blk b6 49 #[(.int .i64 0), (.slice none 0 0), (.slice none 0 0)], Ent.blk b4 33 #[(.int .i64 a0.Boats), (.int .i64 a0.Scheme), v1], Ent.snap w0 w0.heap.size] w) ?_ (fun hN756 => ?_)
     · intro F897 wd898 hJ
       obtain ⟨v795, S796, v797, S798, f899, f900, f901, f902, f903, f904, f905, f906, hL⟩ := hJ
       refine DH.only 15 rfl (by kernel_rfl) (OP.val (v := v447) rfl (x_load1 U47 rfl f905 (hL.cellB 3 rfl rfl)) ?_)
       refine ⟨(hL.sel [4, 5, 6] (by decide) rfl), ?_⟩
       exact DH.relist (listed' := (bma 21 262143)) (by kernel_rfl) (hN754 _ _ ⟨v795, S796, v797, S798, f899, f900, f901, f902, f903, f904, rfl, f906, hL⟩)
     refine DH.node (listed' := (bma 21 253951)) (fuel' := 4) (fun (F : Fr) (w : World) => ∃ (v799 : Value) (S800 : Nat → Prop) (v801 : Value) (S802 : Nat → Prop), F 1 = (.pointer (some ⟨b4, 0, none⟩)) ∧ F 2 = (.pointer (some ⟨b6, 0, none⟩)) ∧ F 4 = (.pointer (some ⟨b21, 0, none⟩)) ∧ F 5 = (.int .i64 s_l1.2.2) ∧ F 50 = (.int .i64 a0.Boats) ∧ F 52 = v445 ∧ F 61 = v801 ∧ F 64 = v447 ∧ F 66 = v799 ∧ Hp w0 [Ent.own 26 S800 v799 ([s_l2.1] : List (List Int)), Ent.own 26 S802 v801 ([x608] : List (List Int)), Ent.frzS wz560 S446, Ent.frzS wz562 S448, Ent.blk b21 49 #[(.int .i64 a0.Boats), v445, v447], Ent.blk b6 49 #[(.int .i64 0), (.slice none 0 0), (.slice none 0 0)], Ent.blk b4 33 #[(.int .i64 a0.Boats), (.int .i64 a0.Scheme), v1], Ent.snap w0 w0.heap.size] w) ?_ (fun hN757 => ?_)
     · intro F907 wd908 hJ
       obtain ⟨v799, S800, v801, S802, f909, f910, f911, f912, f913, f914, f915, f916, f917, hL⟩ := hJ
       have hL := hL.thaw 2 rfl ho561
       have hL := hL.sel [2, 1, 0, 3, 4, 5, 6, 7] (by decide) rfl
       refine DH.only 13 rfl (by kernel_rfl) (S_appendN Int hL U47 Tryz_T26 rfl f914 f915 hc621 (by decide) rfl ?_)
       intro wd918 v919 S920 hL
       refine ⟨(hL.sel [4, 5, 6] (by decide) rfl), ?_⟩
       have hL := hL.sel [1, 0, 2, 3, 4, 5, 6] (by decide) rfl
       exact DH.relist (listed' := (bma 21 262143)) (by kernel_rfl) (hN754 _ _ ⟨v799, S800, v919, S920, f909, f910, f911, f912, f913, rfl, f916, f917, hL⟩)
     refine DH.node (listed' := (bma 21 98303)) (fuel' := 5) (fun (F : Fr) (w : World) => ∃ (v803 : Value) (S804 : Nat → Prop), F 1 = (.pointer (some ⟨b4, 0, none⟩)) ∧ F 2 = (.pointer (some ⟨b6, 0, none⟩)) ∧ F 4 = (.pointer (some ⟨b21, 0, none⟩)) ∧ F 5 = (.int .i64 s_l1.2.2) ∧ F 50 = (.int .i64 a0.Boats) ∧ F 62 = v803 ∧ F 63 = (.pointer (some ⟨b21, 2, none⟩)) ∧ F 65 = v546 ∧ Hp w0 [Ent.own 26 S804 v803 (s_l1.1 ++ ([x608] : List (List Int))), Ent.own 2 S547 v546 s_l2.1, Ent.frzS wz562 S448, Ent.blk b21 49 #[(.int .i64 a0.Boats), v445, v447], Ent.blk b6 49 #[(.int .i64 0), (.slice none 0 0), (.slice none 0 0)], Ent.blk b4 33 #[(.int .i64 a0.Boats), (.int .i64 a0.Scheme), v1], Ent.snap w0 w0.heap.size] w) ?_ (fun hN758 => ?_)
     · intro F921 wd922 hJ
       obtain ⟨v803, S804, f923, f924, f925, f926, f927, f928, f929, f930, hL⟩ := hJ
       refine DH.all (rs := [15, 17]) (by kernel_rfl) (by simp) ?_
       intro i931 hi932
       simp only [List.mem_cons, List.not_mem_nil, or_false] at hi932
       rcases hi932 with rfl | rfl
       · refine ⟨_, rfl, ?_⟩
         refine OP.val (v := v447) rfl (x_load1 U47 rfl f929 (hL.cellB 3 rfl rfl)) ?_
         refine ⟨(hL.sel [4, 5, 6] (by decide) rfl), ?_⟩
         exact DH.relist (listed' := (bma 21 131071)) (by kernel_rfl) (hN755 _ _ ⟨v803, S804, f923, f924, f925, f926, f927, f928, rfl, f930, hL⟩)
       refine ⟨_, rfl, ?_⟩
       have hL := hL.sel [1, 0, 2, 3, 4, 5, 6] (by decide) rfl
       refine S_lit1 s_l2.1 rfl hL U47 Tryz_T26 ((congrArg Value.cells f930).trans (rdL_cells (hL.rdO 0 rfl))) rfl ?_
       intro wd933 v934 S935 hL
       refine ⟨(hL.sel [4, 5, 6] (by decide) rfl), ?_⟩
       exact DH.relist (listed' := (bma 21 229375)) (by kernel_rfl) (hN756 _ _ ⟨v934, S935, v803, S804, f923, f924, f925, f926, f927, f928, f929, rfl, hL⟩)
     refine DH.node (listed' := (bma 21 122879)) (fuel' := 5) (fun (F : Fr) (w : World) => ∃ (v805 : Value) (S806 : Nat → Prop), F 1 = (.pointer (some ⟨b4, 0, none⟩)) ∧ F 2 = (.pointer (some ⟨b6, 0, none⟩)) ∧ F 4 = (.pointer (some ⟨b21, 0, none⟩)) ∧ F 5 = (.int .i64 s_l1.2.2) ∧ F 50 = (.int .i64 a0.Boats) ∧ F 52 = v445 ∧ F 61 = v805 ∧ F 64 = v447 ∧ F 65 = v546 ∧ Hp w0 [Ent.own 26 S806 v805 ([x608] : List (List Int)), Ent.own 2 S547 v546 s_l2.1, Ent.frzS wz560 S446, Ent.frzS wz562 S448, Ent.blk b21 49 #[(.int .i64 a0.Boats), v445, v447], Ent.blk b6 49 #[(.int .i64 0), (.slice none 0 0), (.slice none 0 0)], Ent.blk b4 33 #[(.int .i64 a0.Boats), (.int .i64 a0.Scheme), v1], Ent.snap w0 w0.heap.size] w) ?_ (fun hN759 => ?_)
     · intro F936 wd937 hJ
       obtain ⟨v805, S806, f938, f939, f940, f941, f942, f943, f944, f945, f946, hL⟩ := hJ
       refine DH.all (rs := [13, 17]) (by kernel_rfl) (by simp) ?_
       intro i947 hi948
       simp only [List.mem_cons, List.not_mem_nil, or_false] at hi948
       rcases hi948 with rfl | rfl
       · refine ⟨_, rfl, ?_⟩
         have hL := hL.thaw 2 rfl ho561
         have hL := hL.sel [2, 0, 1, 3, 4, 5, 6, 7] (by decide) rfl
         refine S_appendN Int hL U47 Tryz_T26 rfl f943 f944 hc621 (by decide) rfl ?_
         intro wd949 v950 S951 hL
         refine ⟨(hL.sel [4, 5, 6] (by decide) rfl), ?_⟩
         exact DH.relist (listed' := (bma 21 131071)) (by kernel_rfl) (hN755 _ _ ⟨v950, S951, f938, f939, f940, f941, f942, rfl, f945, f946, hL⟩)
       refine ⟨_, rfl, ?_⟩
       have hL := hL.sel [1, 0, 2, 3, 4, 5, 6, 7] (by decide) rfl
       refine S_lit1 s_l2.1 rfl hL U47 Tryz_T26 ((congrArg Value.cells f946).trans (rdL_cells (hL.rdO 0 rfl))) rfl ?_
       intro wd952 v953 S954 hL
       refine ⟨(hL.sel [5, 6, 7] (by decide) rfl), ?_⟩
       exact DH.relist (listed' := (bma 21 253951)) (by kernel_rfl) (hN757 _ _ ⟨v953, S954, v805, S806, f938, f939, f940, f941, f942, f943, f944, f945, rfl, hL⟩)
     refine DH.node (listed' := (bma 21 221183)) (fuel' := 5) (fun (F : Fr) (w : World) => ∃ (v807 : Value) (S808 : Nat → Prop) (v809 : Value) (S810 : Nat → Prop), F 1 = (.pointer (some ⟨b4, 0, none⟩)) ∧ F 2 = (.pointer (some ⟨b6, 0, none⟩)) ∧ F 4 = (.pointer (some ⟨b21, 0, none⟩)) ∧ F 5 = (.int .i64 s_l1.2.2) ∧ F 50 = (.int .i64 a0.Boats) ∧ F 52 = v445 ∧ F 61 = v809 ∧ F 63 = (.pointer (some ⟨b21, 2, none⟩)) ∧ F 66 = v807 ∧ Hp w0 [Ent.own 26 S808 v807 ([s_l2.1] : List (List Int)), Ent.own 26 S810 v809 ([x608] : List (List Int)), Ent.frzS wz560 S446, Ent.frzS wz562 S448, Ent.blk b21 49 #[(.int .i64 a0.Boats), v445, v447], Ent.blk b6 49 #[(.int .i64 0), (.slice none 0 0), (.slice none 0 0)], Ent.blk b4 33 #[(.int .i64 a0.Boats), (.int .i64 a0.Scheme), v1], Ent.snap w0 w0.heap.size] w) ?_ (fun hN760 => ?_)
     · intro F955 wd956 hJ
       obtain ⟨v807, S808, v809, S810, f957, f958, f959, f960, f961, f962, f963, f964, f965, hL⟩ := hJ
       refine DH.all (rs := [13, 15]) (by kernel_rfl) (by simp) ?_
       intro i966 hi967
       simp only [List.mem_cons, List.not_mem_nil, or_false] at hi967
       rcases hi967 with rfl | rfl
       · refine ⟨_, rfl, ?_⟩
         have hL := hL.thaw 2 rfl ho561
         have hL := hL.sel [2, 1, 0, 3, 4, 5, 6, 7] (by decide) rfl
         refine S_appendN Int hL U47 Tryz_T26 rfl f962 f963 hc621 (by decide) rfl ?_
         intro wd968 v969 S970 hL
         refine ⟨(hL.sel [4, 5, 6] (by decide) rfl), ?_⟩
         have hL := hL.sel [1, 0, 2, 3, 4, 5, 6] (by decide) rfl
         exact DH.relist (listed' := (bma 21 229375)) (by kernel_rfl) (hN756 _ _ ⟨v807, S808, v969, S970, f957, f958, f959, f960, f961, rfl, f964, f965, hL⟩)
       refine ⟨_, rfl, ?_⟩
       refine OP.val (v := v447) rfl (x_load1 U47 rfl f964 (hL.cellB 4 rfl rfl)) ?_
       refine ⟨(hL.sel [5, 6, 7] (by decide) rfl), ?_⟩
       exact DH.relist (listed' := (bma 21 253951)) (by kernel_rfl) (hN757 _ _ ⟨v807, S808, v809, S810, f957, f958, f959, f960, f961, f962, f963, rfl, f965, hL⟩)
     refine DH.node (listed' := (bma 21 249855)) (fuel' := 5) (fun (F : Fr) (w : World) => ∃ (v811 : Value) (S812 : Nat → Prop) (v813 : Value) (S814 : Nat → Prop), F 1 = (.pointer (some ⟨b4, 0, none⟩)) ∧ F 2 = (.pointer (some ⟨b6, 0, none⟩)) ∧ F 4 = (.pointer (some ⟨b21, 0, none⟩)) ∧ F 5 = (.int .i64 s_l1.2.2) ∧ F 50 = (.int .i64 a0.Boats) ∧ F 52 = v445 ∧ F 60 = v813 ∧ F 64 = v447 ∧ F 66 = v811 ∧ Hp w0 [Ent.own 26 S812 v811 ([s_l2.1] : List (List Int)), Ent.own 2 S814 v813 x608, Ent.frzS wz560 S446, Ent.frzS wz562 S448, Ent.blk b21 49 #[(.int .i64 a0.Boats), v445, v447], Ent.blk b6 49 #[(.int .i64 0), (.slice none 0 0), (.slice none 0 0)], Ent.blk b4 33 #[(.int .i64 a0.Boats), (.int .i64 a0.Scheme), v1], Ent.snap w0 w0.heap.size] w) ?_ (fun hN761 => ?_)
     · intro F971 wd972 hJ
       obtain ⟨v811, S812, v813, S814, f973, f974, f975, f976, f977, f978, f979, f980, f981, hL⟩ := hJ
       have hL := hL.sel [1, 0, 2, 3, 4, 5, 6, 7] (by decide) rfl
       refine DH.only 12 rfl (by kernel_rfl) (S_lit1 x608 rfl hL U47 Tryz_T26 ((congrArg Value.cells f979).trans (rdL_cells (hL.rdO 0 rfl))) rfl ?_)
       intro wd982 v983 S984 hL
       refine ⟨(hL.sel [5, 6, 7] (by decide) rfl), ?_⟩
       have hL := hL.sel [1, 0, 2, 3, 4, 5, 6, 7] (by decide) rfl
       exact DH.relist (listed' := (bma 21 253951)) (by kernel_rfl) (hN757 _ _ ⟨v811, S812, v983, S984, f973, f974, f975, f976, f977, f978, rfl, f980, f981, hL⟩)
     refine DH.node (listed' := (bma 21 253943)) (fuel' := 5) (fun (F : Fr) (w : World) => ∃ (v815 : Value) (S816 : Nat → Prop) (v817 : Value) (S818 : Nat → Prop), F 1 = (.pointer (some ⟨b4, 0, none⟩)) ∧ F 2 = (.pointer (some ⟨b6, 0, none⟩)) ∧ F 4 = (.pointer (some ⟨b21, 0, none⟩)) ∧ F 5 = (.int .i64 s_l1.2.2) ∧ F 50 = (.int .i64 a0.Boats) ∧ F 51 = (.pointer (some ⟨b21, 1, none⟩)) ∧ F 61 = v817 ∧ F 64 = v447 ∧ F 66 = v815 ∧ Hp w0 [Ent.own 26 S816 v815 ([s_l2.1] : List (List Int)), Ent.own 26 S818 v817 ([x608] : List (List Int)), Ent.frzS wz560 S446, Ent.frzS wz562 S448, Ent.blk b21 49 #[(.int .i64 a0.Boats), v445, v447], Ent.blk b6 49 #[(.int .i64 0), (.slice none 0 0), (.slice none 0 0)], Ent.blk b4 33 #[(.int .i64 a0.Boats), (.int .i64 a0.Scheme), v1], Ent.snap w0 w0.heap.size] w) ?_ (fun hN762 => ?_)
     · intro F985 wd986 hJ
       obtain ⟨v815, S816, v817, S818, f987, f988, f989, f990, f991, f992, f993, f994, f995, hL⟩ := hJ
       refine DH.only 3 rfl (by kernel_rfl) (OP.val (v := v445) rfl (x_load1 U47 rfl f992 (hL.cellB 4 rfl rfl)) ?_)
       refine ⟨(hL.sel [5, 6, 7] (by decide) rfl), ?_⟩
       exact DH.relist (listed' := (bma 21 253951)) (by kernel_rfl) (hN757 _ _ ⟨v815, S816, v817, S818, f987, f988, f989, f990, f991, rfl, f993, f994, f995, hL⟩)
     refine DH.node (listed' := (bma 21 90111)) (fuel' := 6) (fun (F : Fr) (w : World) => ∃ (v819 : Value) (S820 : Nat → Prop), F 1 = (.pointer (some ⟨b4, 0, none⟩)) ∧ F 2 = (.pointer (some ⟨b6, 0, none⟩)) ∧ F 4 = (.pointer (some ⟨b21, 0, none⟩)) ∧ F 5 = (.int .i64 s_l1.2.2) ∧ F 50 = (.int .i64 a0.Boats) ∧ F 52 = v445 ∧ F 61 = v819 ∧ F 63 = (.pointer (some ⟨b21, 2, none⟩)) ∧ F 65 = v546 ∧ Hp w0 [Ent.own 26 S820 v819 ([x608] : List (List Int)), Ent.own 2 S547 v546 s_l2.1, Ent.frzS wz560 S446, Ent.frzS wz562 S448, Ent.blk b21 49 #[(.int .i64 a0.Boats), v445, v447], Ent.blk b6 49 #[(.int .i64 0), (.slice none 0 0), (.slice none 0 0)], Ent.blk b4 33 #[(.int .i64 a0.Boats), (.int .i64 a0.Scheme), v1], Ent.snap w0 w0.heap.size] w) ?_ (fun hN763 => ?_)
     · intro F996 wd997 hJ
       obtain ⟨v819, S820, f998, f999, f1000, f1001, f1002, f1003, f1004, f1005, f1006, hL⟩ := hJ
       refine DH.all (rs := [13, 15, 17]) (by kernel_rfl) (by simp) ?_
       intro i1007 hi1008
       simp only [List.mem_cons, List.not_mem_nil, or_false] at hi1008
       rcases hi1008 with rfl | rfl | rfl
       · refine ⟨_, rfl, ?_⟩
         have hL := hL.thaw 2 rfl ho561
         have hL := hL.sel [2, 0, 1, 3, 4, 5, 6, 7] (by decide) rfl
         refine S_appendN Int hL U47 Tryz_T26 rfl f1003 f1004 hc621 (by decide) rfl ?_
         intro wd1009 v1010 S1011 hL
         refine ⟨(hL.sel [4, 5, 6] (by decide) rfl), ?_⟩
         exact DH.relist (listed' := (bma 21 98303)) (by kernel_rfl) (hN758 _ _ ⟨v1010, S1011, f998, f999, f1000, f1001, f1002, rfl, f1005, f1006, hL⟩)
       · refine ⟨_, rfl, ?_⟩
         refine OP.val (v := v447) rfl (x_load1 U47 rfl f1005 (hL.cellB 4 rfl rfl)) ?_
         refine ⟨(hL.sel [5, 6, 7] (by decide) rfl), ?_⟩
         exact DH.relist (listed' := (bma 21 122879)) (by kernel_rfl) (hN759 _ _ ⟨v819, S820, f998, f999, f1000, f1001, f1002, f1003, f1004, rfl, f1006, hL⟩)
       refine ⟨_, rfl, ?_⟩
       have hL := hL.sel [1, 0, 2, 3, 4, 5, 6, 7] (by decide) rfl
       refine S_lit1 s_l2.1 rfl hL U47 Tryz_T26 ((congrArg Value.cells f1006).trans (rdL_cells (hL.rdO 0 rfl))) rfl ?_
       intro wd1012 v1013 S1014 hL
       refine ⟨(hL.sel [5, 6, 7] (by decide) rfl), ?_⟩
       exact DH.relist (listed' := (bma 21 221183)) (by kernel_rfl) (hN760 _ _ ⟨v1013, S1014, v819, S820, f998, f999, f1000, f1001, f1002, f1003, f1004, f1005, rfl, hL⟩)
     refine DH.node (listed' := (bma 21 118783)) (fuel' := 6) (fun (F : Fr) (w : World) => ∃ (v821 : Value) (S822 : Nat → Prop), F 1 = (.pointer (some ⟨b4, 0, none⟩)) ∧ F 2 = (.pointer (some ⟨b6, 0, none⟩)) ∧ F 4 = (.pointer (some ⟨b21, 0, none⟩)) ∧ F 5 = (.int .i64 s_l1.2.2) ∧ F 50 = (.int .i64 a0.Boats) ∧ F 52 = v445 ∧ F 60 = v821 ∧ F 64 = v447 ∧ F 65 = v546 ∧ Hp w0 [Ent.own 2 S822 v821 x608, Ent.own 2 S547 v546 s_l2.1, Ent.frzS wz560 S446, Ent.frzS wz562 S448, Ent.blk b21 49 #[(.int .i64 a0.Boats), v445, v447], Ent.blk b6 49 #[(.int .i64 0), (.slice none 0 0), (.slice none 0 0)], Ent.blk b4 33 #[(.int .i64 a0.Boats), (.int .i64 a0.Scheme), v1], Ent.snap w0 w0.heap.size] w) ?_ (fun hN764 => ?_)
     · intro F1015 wd1016 hJ
       obtain ⟨v821, S822, f1017, f1018, f1019, f1020, f1021, f1022, f1023, f1024, f1025, hL⟩ := hJ
       refine DH.all (rs := [12, 17]) (by kernel_rfl) (by simp) ?_
       intro i1026 hi1027
       simp only [List.mem_cons, List.not_mem_nil, or_false] at hi1027
       rcases hi1027 with rfl | rfl
       · refine ⟨_, rfl, ?_⟩
         refine S_lit1 x608 rfl hL U47 Tryz_T26 ((congrArg Value.cells f1023).trans (rdL_cells (hL.rdO 0 rfl))) rfl ?_
         intro wd1028 v1029 S1030 hL
         refine ⟨(hL.sel [5, 6, 7] (by decide) rfl), ?_⟩
         exact DH.relist (listed' := (bma 21 122879)) (by kernel_rfl) (hN759 _ _ ⟨v1029, S1030, f1017, f1018, f1019, f1020, f1021, f1022, rfl, f1024, f1025, hL⟩)
       refine ⟨_, rfl, ?_⟩
       have hL := hL.sel [1, 0, 2, 3, 4, 5, 6, 7] (by decide) rfl
       refine S_lit1 s_l2.1 rfl hL U47 Tryz_T26 ((congrArg Value.cells f1025).trans (rdL_cells (hL.rdO 0 rfl))) rfl ?_
       intro wd1031 v1032 S1033 hL
       refine ⟨(hL.sel [5, 6, 7] (by decide) rfl), ?_⟩
       exact DH.relist (listed' := (bma 21 249855)) (by kernel_rfl) (hN761 _ _ ⟨v1032, S1033, v821, S822, f1017, f1018, f1019, f1020, f1021, f1022, f1023, f1024, rfl, hL⟩)
     refine DH.node (listed' := (bma 21 217087)) (fuel' := 6) (fun (F : Fr) (w : World) => ∃ (v823 : Value) (S824 : Nat → Prop) (v825 : Value) (S826 : Nat → Prop), F 1 = (.pointer (some ⟨b4, 0, none⟩)) ∧ F 2 = (.pointer (some ⟨b6, 0, none⟩)) ∧ F 4 = (.pointer (some ⟨b21, 0, none⟩)) ∧ F 5 = (.int .i64 s_l1.2.2) ∧ F 50 = (.int .i64 a0.Boats) ∧ F 52 = v445 ∧ F 60 = v825 ∧ F 63 = (.pointer (some ⟨b21, 2, none⟩)) ∧ F 66 = v823 ∧ Hp w0 [Ent.own 26 S824 v823 ([s_l2.1] : List (List Int)), Ent.own 2 S826 v825 x608, Ent.frzS wz560 S446, Ent.frzS wz562 S448, Ent.blk b21 49 #[(.int .i64 a0.Boats), v445, v447], Ent.blk b6 49 #[(.int .i64 0), (.slice none 0 0), (.slice none 0 0)], Ent.blk b4 33 #[(.int .i64 a0.Boats), (.int .i64 a0.Scheme), v1], Ent.snap w0 w0.heap.size] w) ?_ (fun hN765 => ?_)
     · intro F1034 wd1035 hJ
       obtain ⟨v823, S824, v825, S826, f1036, f1037, f1038, f1039, f1040, f1041, f1042, f1043, f1044, hL⟩ := hJ
       refine DH.all (rs := [12, 15]) (by kernel_rfl) (by simp) ?_
       intro i1045 hi1046
       simp only [List.mem_cons, List.not_mem_nil, or_false] at hi1046
       rcases hi1046 with rfl | rfl
       · refine ⟨_, rfl, ?_⟩
         have hL := hL.sel [1, 0, 2, 3, 4, 5, 6, 7] (by decide) rfl
         refine S_lit1 x608 rfl hL U47 Tryz_T26 ((congrArg Value.cells f1042).trans (rdL_cells (hL.rdO 0 rfl))) rfl ?_
         intro wd1047 v1048 S1049 hL
         refine ⟨(hL.sel [5, 6, 7] (by decide) rfl), ?_⟩
         have hL := hL.sel [1, 0, 2, 3, 4, 5, 6, 7] (by decide) rfl
         exact DH.relist (listed' := (bma 21 221183)) (by kernel_rfl) (hN760 _ _ ⟨v823, S824, v1048, S1049, f1036, f1037, f1038, f1039, f1040, f1041, rfl, f1043, f1044, hL⟩)
       refine ⟨_, rfl, ?_⟩
       refine OP.val (v := v447) rfl (x_load1 U47 rfl f1043 (hL.cellB 4 rfl rfl)) ?_
       refine ⟨(hL.sel [5, 6, 7] (by decide) rfl), ?_⟩
       exact DH.relist (listed' := (bma 21 249855)) (by kernel_rfl) (hN761 _ _ ⟨v823, S824, v825, S826, f1036, f1037, f1038, f1039, f1040, f1041, f1042, rfl, f1044, hL⟩)
     refine DH.node (listed' := (bma 21 247807)) (fuel' := 6) (fun (F : Fr) (w : World) => ∃ (v827 : Value) (S828 : Nat → Prop), F 1 = (.pointer (some ⟨b4, 0, none⟩)) ∧ F 2 = (.pointer (some ⟨b6, 0, none⟩)) ∧ F 4 = (.pointer (some ⟨b21, 0, none⟩)) ∧ F 5 = (.int .i64 s_l1.2.2) ∧ F 50 = (.int .i64 a0.Boats) ∧ F 52 = v445 ∧ F 57 = (.agg #[v602]) ∧ F 59 = (.int .i64 a0.Scheme) ∧ F 64 = v447 ∧ F 66 = v827 ∧ Hp w0 [Ent.own 26 S828 v827 ([s_l2.1] : List (List Int)), Ent.frzS wz560 S446, Ent.frzS wz562 S448, Ent.blk b21 49 #[(.int .i64 a0.Boats), v445, v447], Ent.blk b6 49 #[(.int .i64 0), (.slice none 0 0), (.slice none 0 0)], Ent.blk b4 33 #[(.int .i64 a0.Boats), (.int .i64 a0.Scheme), v1], Ent.snap w0 w0.heap.size] w) ?_ (fun hN766 => ?_)
     · intro F1050 wd1051 hJ
       obtain ⟨v827, S828, f1052, f1053, f1054, f1055, f1056, f1057, f1058, f1059, f1060, f1061, hL⟩ := hJ
       refine DH.only 11 rfl (by kernel_rfl) (OP.call rfl (x_call (vs := [(.agg #[v602]), (.int .i64 a0.Scheme)]) Tryz_C55 ⟨f1058, f1059, trivial⟩) (M.spec_l26Points_ok _ x597 (hL.rdS 6 rfl hr606) a0.Scheme hx609) ?_)
       rintro e1064 wd1065 ⟨v1063, S1062, rfl, hF1066⟩
       refine ⟨_, rfl, ?_⟩
       have hL := hL.pushAll hF1066
       simp only [lA, lB, lC, lD] at hL
       refine ⟨(hL.sel [5, 6, 7] (by decide) rfl), ?_⟩
       have hL := hL.sel [1, 0, 2, 3, 4, 5, 6, 7] (by decide) rfl
       exact DH.relist (listed' := (bma 21 249855)) (by kernel_rfl) (hN761 _ _ ⟨v827, S828, v1063, S1062, f1052, f1053, f1054, f1055, f1056, f1057, rfl, f1060, f1061, hL⟩)
     refine DH.node (listed' := (bma 21 122871)) (fuel' := 6) (fun (F : Fr) (w : World) => ∃ (v829 : Value) (S830 : Nat → Prop), F 1 = (.pointer (some ⟨b4, 0, none⟩)) ∧ F 2 = (.pointer (some ⟨b6, 0, none⟩)) ∧ F 4 = (.pointer (some ⟨b21, 0, none⟩)) ∧ F 5 = (.int .i64 s_l1.2.2) ∧ F 50 = (.int .i64 a0.Boats) ∧ F 51 = (.pointer (some ⟨b21, 1, none⟩)) ∧ F 61 = v829 ∧ F 64 = v447 ∧ F 65 = v546 ∧ Hp w0 [Ent.own 26 S830 v829 ([x608] : List (List Int)), Ent.own 2 S547 v546 s_l2.1, Ent.frzS wz560 S446, Ent.frzS wz562 S448, Ent.blk b21 49 #[(.int .i64 a0.Boats), v445, v447], Ent.blk b6 49 #[(.int .i64 0), (.slice none 0 0), (.slice none 0 0)], Ent.blk b4 33 #[(.int .i64 a0.Boats), (.int .i64 a0.Scheme), v1], Ent.snap w0 w0.heap.size] w) ?_ (fun hN767 => ?_)
     · intro F1067 wd1068 hJ
       obtain ⟨v829, S830, f1069, f1070, f1071, f1072, f1073, f1074, f1075, f1076, f1077, hL⟩ := hJ
       refine DH.all (rs := [3, 17]) (by kernel_rfl) (by simp) ?_
       intro i1078 hi1079
       simp only [List.mem_cons, List.not_mem_nil, or_false] at hi1079
       rcases hi1079 with rfl | rfl
       · refine ⟨_, rfl, ?_⟩
         refine OP.val (v := v445) rfl (x_load1 U47 rfl f1074 (hL.cellB 4 rfl rfl)) ?_
         refine ⟨(hL.sel [5, 6, 7] (by decide) rfl), ?_⟩
         exact DH.relist (listed' := (bma 21 122879)) (by kernel_rfl) (hN759 _ _ ⟨v829, S830, f1069, f1070, f1071, f1072, f1073, rfl, f1075, f1076, f1077, hL⟩)
       refine ⟨_, rfl, ?_⟩
       have hL := hL.sel [1, 0, 2, 3, 4, 5, 6, 7] (by decide) rfl
       refine S_lit1 s_l2.1 rfl hL U47 Tryz_T26 ((congrArg Value.cells f1077).trans (rdL_cells (hL.rdO 0 rfl))) rfl ?_
       intro wd1080 v1081 S1082 hL
       refine ⟨(hL.sel [5, 6, 7] (by decide) rfl), ?_⟩
       exact DH.relist (listed' := (bma 21 253943)) (by kernel_rfl) (hN762 _ _ ⟨v1081, S1082, v829, S830, f1069, f1070, f1071, f1072, f1073, f1074, f1075, f1076, rfl, hL⟩)
     refine DH.node (listed' := (bma 21 221175)) (fuel' := 6) (fun (F : Fr) (w : World) => ∃ (v831 : Value) (S832 : Nat → Prop) (v833 : Value) (S834 : Nat → Prop), F 1 = (.pointer (some ⟨b4, 0, none⟩)) ∧ F 2 = (.pointer (some ⟨b6, 0, none⟩)) ∧ F 4 = (.pointer (some ⟨b21, 0, none⟩)) ∧ F 5 = (.int .i64 s_l1.2.2) ∧ F 50 = (.int .i64 a0.Boats) ∧ F 51 = (.pointer (some ⟨b21, 1, none⟩)) ∧ F 61 = v833 ∧ F 63 = (.pointer (some ⟨b21, 2, none⟩)) ∧ F 66 = v831 ∧ Hp w0 [Ent.own 26 S832 v831 ([s_l2.1] : List (List Int)), Ent.own 26 S834 v833 ([x608] : List (List Int)), Ent.frzS wz560 S446, Ent.frzS wz562 S448, Ent.blk b21 49 #[(.int .i64 a0.Boats), v445, v447], Ent.blk b6 49 #[(.int .i64 0), (.slice none 0 0), (.slice none 0 0)], Ent.blk b4 33 #[(.int .i64 a0.Boats), (.int .i64 a0.Scheme), v1], Ent.snap w0 w0.heap.size] w) ?_ (fun hN768 => ?_)
     · intro F1083 wd1084 hJ
       obtain ⟨v831, S832, v833, S834, f1085, f1086, f1087, f1088, f1089, f1090, f1091, f1092, f1093, hL⟩ := hJ
       refine DH.all (rs := [3, 15]) (by kernel_rfl) (by simp) ?_
       intro i1094 hi1095
       simp only [List.mem_cons, List.not_mem_nil, or_false] at hi1095
       rcases hi1095 with rfl | rfl
       · refine ⟨_, rfl, ?_⟩
         refine OP.val (v := v445) rfl (x_load1 U47 rfl f1090 (hL.cellB 4 rfl rfl)) ?_
         refine ⟨(hL.sel [5, 6, 7] (by decide) rfl), ?_⟩
         exact DH.relist (listed' := (bma 21 221183)) (by kernel_rfl) (hN760 _ _ ⟨v831, S832, v833, S834, f1085, f1086, f1087, f1088, f1089, rfl, f1091, f1092, f1093, hL⟩)
       refine ⟨_, rfl, ?_⟩
       refine OP.val (v := v447) rfl (x_load1 U47 rfl f1092 (hL.cellB 4 rfl rfl)) ?_
       refine ⟨(hL.sel [5, 6, 7] (by decide) rfl), ?_⟩
       exact DH.relist (listed' := (bma 21 253943)) (by kernel_rfl) (hN762 _ _ ⟨v831, S832, v833, S834, f1085, f1086, f1087, f1088, f1089, f1090, f1091, rfl, f1093, hL⟩)
     refine DH.node (listed' := (bma 21 249847)) (fuel' := 6) (fun (F : Fr) (w : World) => ∃ (v835 : Value) (S836 : Nat → Prop) (v837 : Value) (S838 : Nat → Prop), F 1 = (.pointer (some ⟨b4, 0, none⟩)) ∧ F 2 = (.pointer (some ⟨b6, 0, none⟩)) ∧ F 4 = (.pointer (some ⟨b21, 0, none⟩)) ∧ F 5 = (.int .i64 s_l1.2.2) ∧ F 50 = (.int .i64 a0.Boats) ∧ F 51 = (.pointer (some ⟨b21, 1, none⟩)) ∧ F 60 = v837 ∧ F 64 = v447 ∧ F 66 = v835 ∧ Hp w0 [Ent.own 26 S836 v835 ([s_l2.1] : List (List Int)), Ent.own 2 S838 v837 x608, Ent.frzS wz560 S446, Ent.frzS wz562 S448, Ent.blk b21 49 #[(.int .i64 a0.Boats), v445, v447], Ent.blk b6 49 #[(.int .i64 0), (.slice none 0 0), (.slice none 0 0)], Ent.blk b4 33 #[(.int .i64 a0.Boats), (.int .i64 a0.Scheme), v1], Ent.snap w0 w0.heap.size] w) ?_ (fun hN769 => ?_)
     · intro F1096 wd1097 hJ
       obtain ⟨v835, S836, v837, S838, f1098, f1099, f1100, f1101, f1102, f1103, f1104, f1105, f1106, hL⟩ := hJ
       refine DH.all (rs := [3, 12]) (by kernel_rfl) (by simp) ?_
       intro i1107 hi1108
       simp only [List.mem_cons, List.not_mem_nil, or_false] at hi1108
       rcases hi1108 with rfl | rfl
       · refine ⟨_, rfl, ?_⟩
         refine OP.val (v := v445) rfl (x_load1 U47 rfl f1103 (hL.cellB 4 rfl rfl)) ?_
         refine ⟨(hL.sel [5, 6, 7] (by decide) rfl), ?_⟩
         exact DH.relist (listed' := (bma 21 249855)) (by kernel_rfl) (hN761 _ _ ⟨v835, S836, v837, S838, f1098, f1099, f1100, f1101, f1102, rfl, f1104, f1105, f1106, hL⟩)
       refine ⟨_, rfl, ?_⟩
       have hL := hL.sel [1, 0, 2, 3, 4, 5, 6, 7] (by decide) rfl
       refine S_lit1 x608 rfl hL U47 Tryz_T26 ((congrArg Value.cells f1104).trans (rdL_cells (hL.rdO 0 rfl))) rfl ?_
       intro wd1109 v1110 S1111 hL
       refine ⟨(hL.sel [5, 6, 7] (by decide) rfl), ?_⟩
       have hL := hL.sel [1, 0, 2, 3, 4, 5, 6, 7] (by decide) rfl
       exact DH.relist (listed' := (bma 21 253943)) (by kernel_rfl) (hN762 _ _ ⟨v835, S836, v1110, S1111, f1098, f1099, f1100, f1101, f1102, f1103, rfl, f1105, f1106, hL⟩)
     refine DH.node (listed' := (bma 21 86015)) (fuel' := 7) (fun (F : Fr) (w : World) => ∃ (v839 : Value) (S840 : Nat → Prop), F 1 = (.pointer (some ⟨b4, 0, none⟩)) ∧ F 2 = (.pointer (some ⟨b6, 0, none⟩)) ∧ F 4 = (.pointer (some ⟨b21, 0, none⟩)) ∧ F 5 = (.int .i64 s_l1.2.2) ∧ F 50 = (.int .i64 a0.Boats) ∧ F 52 = v445 ∧ F 60 = v839 ∧ F 63 = (.pointer (some ⟨b21, 2, none⟩)) ∧ F 65 = v546 ∧ Hp w0 [Ent.own 2 S840 v839 x608, Ent.own 2 S547 v546 s_l2.1, Ent.frzS wz560 S446, Ent.frzS wz562 S448, Ent.blk b21 49 #[(.int .i64 a0.Boats), v445, v447], Ent.blk b6 49 #[(.int .i64 0), (.slice none 0 0), (.slice none 0 0)], Ent.blk b4 33 #[(.int .i64 a0.Boats), (.int .i64 a0.Scheme), v1], Ent.snap w0 w0.heap.size] w) ?_ (fun hN770 => ?_)
     · intro F1112 wd1113 hJ
       obtain ⟨v839, S840, f1114, f1115, f1116, f1117, f1118, f1119, f1120, f1121, f1122, hL⟩ := hJ
       refine DH.all (rs := [12, 15, 17]) (by kernel_rfl) (by simp) ?_
       intro i1123 hi1124
       simp only [List.mem_cons, List.not_mem_nil, or_false] at hi1124
       rcases hi1124 with rfl | rfl | rfl
       · refine ⟨_, rfl, ?_⟩
         refine S_lit1 x608 rfl hL U47 Tryz_T26 ((congrArg Value.cells f1120).trans (rdL_cells (hL.rdO 0 rfl))) rfl ?_
         intro wd1125 v1126 S1127 hL
         refine ⟨(hL.sel [5, 6, 7] (by decide) rfl), ?_⟩
         exact DH.relist (listed' := (bma 21 90111)) (by kernel_rfl) (hN763 _ _ ⟨v1126, S1127, f1114, f1115, f1116, f1117, f1118, f1119, rfl, f1121, f1122, hL⟩)
       · refine ⟨_, rfl, ?_⟩
         refine OP.val (v := v447) rfl (x_load1 U47 rfl f1121 (hL.cellB 4 rfl rfl)) ?_
         refine ⟨(hL.sel [5, 6, 7] (by decide) rfl), ?_⟩
         exact DH.relist (listed' := (bma 21 118783)) (by kernel_rfl) (hN764 _ _ ⟨v839, S840, f1114, f1115, f1116, f1117, f1118, f1119, f1120, rfl, f1122, hL⟩)
       refine ⟨_, rfl, ?_⟩
       have hL := hL.sel [1, 0, 2, 3, 4, 5, 6, 7] (by decide) rfl
       refine S_lit1 s_l2.1 rfl hL U47 Tryz_T26 ((congrArg Value.cells f1122).trans (rdL_cells (hL.rdO 0 rfl))) rfl ?_
       intro wd1128 v1129 S1130 hL
       refine ⟨(hL.sel [5, 6, 7] (by decide) rfl), ?_⟩
       exact DH.relist (listed' := (bma 21 217087)) (by kernel_rfl) (hN765 _ _ ⟨v1129, S1130, v839, S840, f1114, f1115, f1116, f1117, f1118, f1119, f1120, f1121, rfl, hL⟩)
     refine DH.node (listed' := (bma 21 116735)) (fuel' := 7) (fun (F : Fr) (w : World) => F 1 = (.pointer (some ⟨b4, 0, none⟩)) ∧ F 2 = (.pointer (some ⟨b6, 0, none⟩)) ∧ F 4 = (.pointer (some ⟨b21, 0, none⟩)) ∧ F 5 = (.int .i64 s_l1.2.2) ∧ F 50 = (.int .i64 a0.Boats) ∧ F 52 = v445 ∧ F 57 = (.agg #[v602]) ∧ F 59 = (.int .i64 a0.Scheme) ∧ F 64 = v447 ∧ F 65 = v546 ∧ Hp w0 [Ent.own 2 S547 v546 s_l2.1, Ent.frzS wz560 S446, Ent.frzS wz562 S448, Ent.blk b21 49 #[(.int .i64 a0.Boats), v445, v447], Ent.blk b6 49 #[(.int .i64 0), (.slice none 0 0), (.slice none 0 0)], Ent.blk b4 33 #[(.int .i64 a0.Boats), (.int .i64 a0.Scheme), v1], Ent.snap w0 w0.heap.size] w) ?_ (fun hN771 => ?_)
     · intro F1131 wd1132 hJ
       obtain ⟨f1133, f1134, f1135, f1136, f1137, f1138, f1139, f1140, f1141, f1142, hL⟩ := hJ
       refine DH.all (rs := [11, 17]) (by kernel_rfl) (by simp) ?_
       intro i1143 hi1144
       simp only [List.mem_cons, List.not_mem_nil, or_false] at hi1144
       rcases hi1144 with rfl | rfl
       · refine ⟨_, rfl, ?_⟩
         refine OP.call rfl (x_call (vs := [(.agg #[v602]), (.int .i64 a0.Scheme)]) Tryz_C55 ⟨f1139, f1140, trivial⟩) (M.spec_l26Points_ok _ x597 (hL.rdS 6 rfl hr606) a0.Scheme hx609) ?_
         rintro e1147 wd1148 ⟨v1146, S1145, rfl, hF1149⟩
         refine ⟨_, rfl, ?_⟩
         have hL := hL.pushAll hF1149
         simp only [lA, lB, lC, lD] at hL
         refine ⟨(hL.sel [5, 6, 7] (by decide) rfl), ?_⟩
         exact DH.relist (listed' := (bma 21 118783)) (by kernel_rfl) (hN764 _ _ ⟨v1146, S1145, f1133, f1134, f1135, f1136, f1137, f1138, rfl, f1141, f1142, hL⟩)
       refine ⟨_, rfl, ?_⟩
       refine S_lit1 s_l2.1 rfl hL U47 Tryz_T26 ((congrArg Value.cells f1142).trans (rdL_cells (hL.rdO 0 rfl))) rfl ?_
       intro wd1150 v1151 S1152 hL
       refine ⟨(hL.sel [4, 5, 6] (by decide) rfl), ?_⟩
       exact DH.relist (listed' := (bma 21 247807)) (by kernel_rfl) (hN766 _ _ ⟨v1151, S1152, f1133, f1134, f1135, f1136, f1137, f1138, f1139, f1140, f1141, rfl, hL⟩)
     refine DH.node (listed' := (bma 21 215039)) (fuel' := 7) (fun (F : Fr) (w : World) => ∃ (v841 : Value) (S842 : Nat → Prop), F 1 = (.pointer (some ⟨b4, 0, none⟩)) ∧ F 2 = (.pointer (some ⟨b6, 0, none⟩)) ∧ F 4 = (.pointer (some ⟨b21, 0, none⟩)) ∧ F 5 = (.int .i64 s_l1.2.2) ∧ F 50 = (.int .i64 a0.Boats) ∧ F 52 = v445 ∧ F 57 = (.agg #[v602]) ∧ F 59 = (.int .i64 a0.Scheme) ∧ F 63 = (.pointer (some ⟨b21, 2, none⟩)) ∧ F 66 = v841 ∧ Hp w0 [Ent.own 26 S842 v841 ([s_l2.1] : List (List Int)), Ent.frzS wz560 S446, Ent.frzS wz562 S448, Ent.blk b21 49 #[(.int .i64 a0.Boats), v445, v447], Ent.blk b6 49 #[(.int .i64 0), (.slice none 0 0), (.slice none 0 0)], Ent.blk b4 33 #[(.int .i64 a0.Boats), (.int .i64 a0.Scheme), v1], Ent.snap w0 w0.heap.size] w) ?_ (fun hN772 => ?_)
     · intro F1153 wd1154 hJ
       obtain ⟨v841, S842, f1155, f1156, f1157, f1158, f1159, f1160, f1161, f1162, f1163, f1164, hL⟩ := hJ
       refine DH.all (rs := [11, 15]) (by kernel_rfl) (by simp) ?_
       intro i1165 hi1166
       simp only [List.mem_cons, List.not_mem_nil, or_false] at hi1166
       rcases hi1166 with rfl | rfl
       · refine ⟨_, rfl, ?_⟩
         refine OP.call rfl (x_call (vs := [(.agg #[v602]), (.int .i64 a0.Scheme)]) Tryz_C55 ⟨f1161, f1162, trivial⟩) (M.spec_l26Points_ok _ x597 (hL.rdS 6 rfl hr606) a0.Scheme hx609) ?_
         rintro e1169 wd1170 ⟨v1168, S1167, rfl, hF1171⟩
         refine ⟨_, rfl, ?_⟩
         have hL := hL.pushAll hF1171
         simp only [lA, lB, lC, lD] at hL
         refine ⟨(hL.sel [5, 6, 7] (by decide) rfl), ?_⟩
         have hL := hL.sel [1, 0, 2, 3, 4, 5, 6, 7] (by decide) rfl
         exact DH.relist (listed' := (bma 21 217087)) (by kernel_rfl) (hN765 _ _ ⟨v841, S842, v1168, S1167, f1155, f1156, f1157, f1158, f1159, f1160, rfl, f1163, f1164, hL⟩)
       refine ⟨_, rfl, ?_⟩
       refine OP.val (v := v447) rfl (x_load1 U47 rfl f1163 (hL.cellB 3 rfl rfl)) ?_
       refine ⟨(hL.sel [4, 5, 6] (by decide) rfl), ?_⟩
       exact DH.relist (listed' := (bma 21 247807)) (by kernel_rfl) (hN766 _ _ ⟨v841, S842, f1155, f1156, f1157, f1158, f1159, f1160, f1161, f1162, rfl, f1164, hL⟩)
     refine DH.node (listed' := (bma 21 90103)) (fuel' := 7) (fun (F : Fr) (w : World) => ∃ (v843 : Value) (S844 : Nat → Prop), F 1 = (.pointer (some ⟨b4, 0, none⟩)) ∧ F 2 = (.pointer (some ⟨b6, 0, none⟩)) ∧ F 4 = (.pointer (some ⟨b21, 0, none⟩)) ∧ F 5 = (.int .i64 s_l1.2.2) ∧ F 50 = (.int .i64 a0.Boats) ∧ F 51 = (.pointer (some ⟨b21, 1, none⟩)) ∧ F 61 = v843 ∧ F 63 = (.pointer (some ⟨b21, 2, none⟩)) ∧ F 65 = v546 ∧ Hp w0 [Ent.own 26 S844 v843 ([x608] : List (List Int)), Ent.own 2 S547 v546 s_l2.1, Ent.frzS wz560 S446, Ent.frzS wz562 S448, Ent.blk b21 49 #[(.int .i64 a0.Boats), v445, v447], Ent.blk b6 49 #[(.int .i64 0), (.slice none 0 0), (.slice none 0 0)], Ent.blk b4 33 #[(.int .i64 a0.Boats), (.int .i64 a0.Scheme), v1], Ent.snap w0 w0.heap.size] w) ?_ (fun hN773 => ?_)
     · intro F1172 wd1173 hJ
       obtain ⟨v843, S844, f1174, f1175, f1176, f1177, f1178, f1179, f1180, f1181, f1182, hL⟩ := hJ
       refine DH.all (rs := [3, 15, 17]) (by kernel_rfl) (by simp) ?_
       intro i1183 hi1184
       simp only [List.mem_cons, List.not_mem_nil, or_false] at hi1184
       rcases hi1184 with rfl | rfl | rfl
       · refine ⟨_, rfl, ?_⟩
         refine OP.val (v := v445) rfl (x_load1 U47 rfl f1179 (hL.cellB 4 rfl rfl)) ?_
         refine ⟨(hL.sel [5, 6, 7] (by decide) rfl), ?_⟩
         exact DH.relist (listed' := (bma 21 90111)) (by kernel_rfl) (hN763 _ _ ⟨v843, S844, f1174, f1175, f1176, f1177, f1178, rfl, f1180, f1181, f1182, hL⟩)
       · refine ⟨_, rfl, ?_⟩
         refine OP.val (v := v447) rfl (x_load1 U47 rfl f1181 (hL.cellB 4 rfl rfl)) ?_
         refine ⟨(hL.sel [5, 6, 7] (by decide) rfl), ?_⟩
         exact DH.relist (listed' := (bma 21 122871)) (by kernel_rfl) (hN767 _ _ ⟨v843, S844, f1174, f1175, f1176, f1177, f1178, f1179, f1180, rfl, f1182, hL⟩)
       refine ⟨_, rfl, ?_⟩
       have hL := hL.sel [1, 0, 2, 3, 4, 5, 6, 7] (by decide) rfl
       refine S_lit1 s_l2.1 rfl hL U47 Tryz_T26 ((congrArg Value.cells f1182).trans (rdL_cells (hL.rdO 0 rfl))) rfl ?_
       intro wd1185 v1186 S1187 hL
       refine ⟨(hL.sel [5, 6, 7] (by decide) rfl), ?_⟩
       exact DH.relist (listed' := (bma 21 221175)) (by kernel_rfl) (hN768 _ _ ⟨v1186, S1187, v843, S844, f1174, f1175, f1176, f1177, f1178, f1179, f1180, f1181, rfl, hL⟩)
     refine DH.node (listed' := (bma 21 118775)) (fuel' := 7) (fun (F : Fr) (w : World) => ∃ (v845 : Value) (S846 : Nat → Prop), F 1 = (.pointer (some ⟨b4, 0, none⟩)) ∧ F 2 = (.pointer (some ⟨b6, 0, none⟩)) ∧ F 4 = (.pointer (some ⟨b21, 0, none⟩)) ∧ F 5 = (.int .i64 s_l1.2.2) ∧ F 50 = (.int .i64 a0.Boats) ∧ F 51 = (.pointer (some ⟨b21, 1, none⟩)) ∧ F 60 = v845 ∧ F 64 = v447 ∧ F 65 = v546 ∧ Hp w0 [Ent.own 2 S846 v845 x608, Ent.own 2 S547 v546 s_l2.1, Ent.frzS wz560 S446, Ent.frzS wz562 S448, Ent.blk b21 49 #[(.int .i64 a0.Boats), v445, v447], Ent.blk b6 49 #[(.int .i64 0), (.slice none 0 0), (.slice none 0 0)], Ent.blk b4 33 #[(.int .i64 a0.Boats), (.int .i64 a0.Scheme), v1], Ent.snap w0 w0.heap.size] w) ?_ (fun hN774 => ?_)
     · intro F1188 wd1189 hJ
       obtain ⟨v845, S846, f1190, f1191, f1192, f1193, f1194, f1195, f1196, f1197, f1198, hL⟩ := hJ
       refine DH.all (rs := [3, 12, 17]) (by kernel_rfl) (by simp) ?_
       intro i1199 hi1200
       simp only [List.mem_cons, List.not_mem_nil, or_false] at hi1200
       rcases hi1200 with rfl | rfl | rfl
       · refine ⟨_, rfl, ?_⟩
         refine OP.val (v := v445) rfl (x_load1 U47 rfl f1195 (hL.cellB 4 rfl rfl)) ?_
         refine ⟨(hL.sel [5, 6, 7] (by decide) rfl), ?_⟩
         exact DH.relist (listed' := (bma 21 118783)) (by kernel_rfl) (hN764 _ _ ⟨v845, S846, f1190, f1191, f1192, f1193, f1194, rfl, f1196, f1197, f1198, hL⟩)
       · refine ⟨_, rfl, ?_⟩
         refine S_lit1 x608 rfl hL U47 Tryz_T26 ((congrArg Value.cells f1196).trans (rdL_cells (hL.rdO 0 rfl))) rfl ?_
         intro wd1201 v1202 S1203 hL
         refine ⟨(hL.sel [5, 6, 7] (by decide) rfl), ?_⟩
         exact DH.relist (listed' := (bma 21 122871)) (by kernel_rfl) (hN767 _ _ ⟨v1202, S1203, f1190, f1191, f1192, f1193, f1194, f1195, rfl, f1197, f1198, hL⟩)
       refine ⟨_, rfl, ?_⟩
       have hL := hL.sel [1, 0, 2, 3, 4, 5, 6, 7] (by decide) rfl
       refine S_lit1 s_l2.1 rfl hL U47 Tryz_T26 ((congrArg Value.cells f1198).trans (rdL_cells (hL.rdO 0 rfl))) rfl ?_
       intro wd1204 v1205 S1206 hL
       refine ⟨(hL.sel [5, 6, 7] (by decide) rfl), ?_⟩
       exact DH.relist (listed' := (bma 21 249847)) (by kernel_rfl) (hN769 _ _ ⟨v1205, S1206, v845, S846, f1190, f1191, f1192, f1193, f1194, f1195, f1196, f1197, rfl, hL⟩)
     refine DH.node (listed' := (bma 21 217079)) (fuel' := 7) (fun (F : Fr) (w : World) => ∃ (v847 : Value) (S848 : Nat → Prop) (v849 : Value) (S850 : Nat → Prop), F 1 = (.pointer (some ⟨b4, 0, none⟩)) ∧ F 2 = (.pointer (some ⟨b6, 0, none⟩)) ∧ F 4 = (.pointer (some ⟨b21, 0, none⟩)) ∧ F 5 = (.int .i64 s_l1.2.2) ∧ F 50 = (.int .i64 a0.Boats) ∧ F 51 = (.pointer (some ⟨b21, 1, none⟩)) ∧ F 60 = v849 ∧ F 63 = (.pointer (some ⟨b21, 2, none⟩)) ∧ F 66 = v847 ∧ Hp w0 [Ent.own 26 S848 v847 ([s_l2.1] : List (List Int)), Ent.own 2 S850 v849 x608, Ent.frzS wz560 S446, Ent.frzS wz562 S448, Ent.blk b21 49 #[(.int .i64 a0.Boats), v445, v447], Ent.blk b6 49 #[(.int .i64 0), (.slice none 0 0), (.slice none 0 0)], Ent.blk b4 33 #[(.int .i64 a0.Boats), (.int .i64 a0.Scheme), v1], Ent.snap w0 w0.heap.size] w) ?_ (fun hN775 => ?_)
     · intro F1207 wd1208 hJ
       obtain ⟨v847, S848, v849, S850, f1209, f1210, f1211, f1212, f1213, f1214, f1215, f1216, f1217, hL⟩ := hJ
       refine DH.all (rs := [3, 12, 15]) (by kernel_rfl) (by simp) ?_
       intro i1218 hi1219
       simp only [List.mem_cons, List.not_mem_nil, or_false] at hi1219
       rcases hi1219 with rfl | rfl | rfl
       · refine ⟨_, rfl, ?_⟩
         refine OP.val (v := v445) rfl (x_load1 U47 rfl f1214 (hL.cellB 4 rfl rfl)) ?_
         refine ⟨(hL.sel [5, 6, 7] (by decide) rfl), ?_⟩
         exact DH.relist (listed' := (bma 21 217087)) (by kernel_rfl) (hN765 _ _ ⟨v847, S848, v849, S850, f1209, f1210, f1211, f1212, f1213, rfl, f1215, f1216, f1217, hL⟩)
       · refine ⟨_, rfl, ?_⟩
         have hL := hL.sel [1, 0, 2, 3, 4, 5, 6, 7] (by decide) rfl
         refine S_lit1 x608 rfl hL U47 Tryz_T26 ((congrArg Value.cells f1215).trans (rdL_cells (hL.rdO 0 rfl))) rfl ?_
         intro wd1220 v1221 S1222 hL
         refine ⟨(hL.sel [5, 6, 7] (by decide) rfl), ?_⟩
         have hL := hL.sel [1, 0, 2, 3, 4, 5, 6, 7] (by decide) rfl
         exact DH.relist (listed' := (bma 21 221175)) (by kernel_rfl) (hN768 _ _ ⟨v847, S848, v1221, S1222, f1209, f1210, f1211, f1212, f1213, f1214, rfl, f1216, f1217, hL⟩)
       refine ⟨_, rfl, ?_⟩
       refine OP.val (v := v447) rfl (x_load1 U47 rfl f1216 (hL.cellB 4 rfl rfl)) ?_
       refine ⟨(hL.sel [5, 6, 7] (by decide) rfl), ?_⟩
       exact DH.relist (listed' := (bma 21 249847)) (by kernel_rfl) (hN769 _ _ ⟨v847, S848, v849, S850, f1209, f1210, f1211, f1212, f1213, f1214, f1215, rfl, f1217, hL⟩)
     refine DH.node (listed' := (bma 21 247799)) (fuel' := 7) (fun (F : Fr) (w : World) => ∃ (v851 : Value) (S852 : Nat → Prop), F 1 = (.pointer (some ⟨b4, 0, none⟩)) ∧ F 2 = (.pointer (some ⟨b6, 0, none⟩)) ∧ F 4 = (.pointer (some ⟨b21, 0, none⟩)) ∧ F 5 = (.int .i64 s_l1.2.2) ∧ F 50 = (.int .i64 a0.Boats) ∧ F 51 = (.pointer (some ⟨b21, 1, none⟩)) ∧ F 57 = (.agg #[v602]) ∧ F 59 = (.int .i64 a0.Scheme) ∧ F 64 = v447 ∧ F 66 = v851 ∧ Hp w0 [Ent.own 26 S852 v851 ([s_l2.1] : List (List Int)), Ent.frzS wz560 S446, Ent.frzS wz562 S448, Ent.blk b21 49 #[(.int .i64 a0.Boats), v445, v447], Ent.blk b6 49 #[(.int .i64 0), (.slice none 0 0), (.slice none 0 0)], Ent.blk b4 33 #[(.int .i64 a0.Boats), (.int .i64 a0.Scheme), v1], Ent.snap w0 w0.heap.size] w) ?_ (fun hN776 => ?_)
     · intro F1223 wd1224 hJ
       obtain ⟨v851, S852, f1225, f1226, f1227, f1228, f1229, f1230, f1231, f1232, f1233, f1234, hL⟩ := hJ
       refine DH.all (rs := [3, 11]) (by kernel_rfl) (by simp) ?_
       intro i1235 hi1236
       simp only [List.mem_cons, List.not_mem_nil, or_false] at hi1236
       rcases hi1236 with rfl | rfl
       · refine ⟨_, rfl, ?_⟩
         refine OP.val (v := v445) rfl (x_load1 U47 rfl f1230 (hL.cellB 3 rfl rfl)) ?_
         refine ⟨(hL.sel [4, 5, 6] (by decide) rfl), ?_⟩
         exact DH.relist (listed' := (bma 21 247807)) (by kernel_rfl) (hN766 _ _ ⟨v851, S852, f1225, f1226, f1227, f1228, f1229, rfl, f1231, f1232, f1233, f1234, hL⟩)
       refine ⟨_, rfl, ?_⟩
       refine OP.call rfl (x_call (vs := [(.agg #[v602]), (.int .i64 a0.Scheme)]) Tryz_C55 ⟨f1231, f1232, trivial⟩) (M.spec_l26Points_ok _ x597 (hL.rdS 6 rfl hr606) a0.Scheme hx609) ?_
       rintro e1239 wd1240 ⟨v1238, S1237, rfl, hF1241⟩
       refine ⟨_, rfl, ?_⟩
       have hL := hL.pushAll hF1241
       simp only [lA, lB, lC, lD] at hL
       refine ⟨(hL.sel [5, 6, 7] (by decide) rfl), ?_⟩
       have hL := hL.sel [1, 0, 2, 3, 4, 5, 6, 7] (by decide) rfl
       exact DH.relist (listed' := (bma 21 249847)) (by kernel_rfl) (hN769 _ _ ⟨v851, S852, v1238, S1237, f1225, f1226, f1227, f1228, f1229, f1230, rfl, f1233, f1234, hL⟩)
     refine DH.node (listed' := (bma 21 83967)) (fuel' := 8) (fun (F : Fr) (w : World) => F 1 = (.pointer (some ⟨b4, 0, none⟩)) ∧ F 2 = (.pointer (some ⟨b6, 0, none⟩)) ∧ F 4 = (.pointer (some ⟨b21, 0, none⟩)) ∧ F 5 = (.int .i64 s_l1.2.2) ∧ F 50 = (.int .i64 a0.Boats) ∧ F 52 = v445 ∧ F 57 = (.agg #[v602]) ∧ F 59 = (.int .i64 a0.Scheme) ∧ F 63 = (.pointer (some ⟨b21, 2, none⟩)) ∧ F 65 = v546 ∧ Hp w0 [Ent.own 2 S547 v546 s_l2.1, Ent.frzS wz560 S446, Ent.frzS wz562 S448, Ent.blk b21 49 #[(.int .i64 a0.Boats), v445, v447], Ent.blk b6 49 #[(.int .i64 0), (.slice none 0 0), (.slice none 0 0)], Ent.blk b4 33 #[(.int .i64 a0.Boats), (.int .i64 a0.Scheme), v1], Ent.snap w0 w0.heap.size] w) ?_ (fun hN777 => ?_)
     · intro F1242 wd1243 hJ
       obtain ⟨f1244, f1245, f1246, f1247, f1248, f1249, f1250, f1251, f1252, f1253, hL⟩ := hJ
       refine DH.all (rs := [11, 15, 17]) (by kernel_rfl) (by simp) ?_
       intro i1254 hi1255
       simp only [List.mem_cons, List.not_mem_nil, or_false] at hi1255
       rcases hi1255 with rfl | rfl | rfl
       · refine ⟨_, rfl, ?_⟩
         refine OP.call rfl (x_call (vs := [(.agg #[v602]), (.int .i64 a0.Scheme)]) Tryz_C55 ⟨f1250, f1251, trivial⟩) (M.spec_l26Points_ok _ x597 (hL.rdS 6 rfl hr606) a0.Scheme hx609) ?_
         rintro e1258 wd1259 ⟨v1257, S1256, rfl, hF1260⟩
         refine ⟨_, rfl, ?_⟩
         have hL := hL.pushAll hF1260
         simp only [lA, lB, lC, lD] at hL
         refine ⟨(hL.sel [5, 6, 7] (by decide) rfl), ?_⟩
         exact DH.relist (listed' := (bma 21 86015)) (by kernel_rfl) (hN770 _ _ ⟨v1257, S1256, f1244, f1245, f1246, f1247, f1248, f1249, rfl, f1252, f1253, hL⟩)
       · refine ⟨_, rfl, ?_⟩
         refine OP.val (v := v447) rfl (x_load1 U47 rfl f1252 (hL.cellB 3 rfl rfl)) ?_
         refine ⟨(hL.sel [4, 5, 6] (by decide) rfl), ?_⟩
         exact DH.relist (listed' := (bma 21 116735)) (by kernel_rfl) (hN771 _ _ ⟨f1244, f1245, f1246, f1247, f1248, f1249, f1250, f1251, rfl, f1253, hL⟩)
       refine ⟨_, rfl, ?_⟩
       refine S_lit1 s_l2.1 rfl hL U47 Tryz_T26 ((congrArg Value.cells f1253).trans (rdL_cells (hL.rdO 0 rfl))) rfl ?_
       intro wd1261 v1262 S1263 hL
       refine ⟨(hL.sel [4, 5, 6] (by decide) rfl), ?_⟩
       exact DH.relist (listed' := (bma 21 215039)) (by kernel_rfl) (hN772 _ _ ⟨v1262, S1263, f1244, f1245, f1246, f1247, f1248, f1249, f1250, f1251, f1252, rfl, hL⟩)
     refine DH.node (listed' := (bma 21 86007)) (fuel' := 8) (fun (F : Fr) (w : World) => ∃ (v853 : Value) (S854 : Nat → Prop), F 1 = (.pointer (some ⟨b4, 0, none⟩)) ∧ F 2 = (.pointer (some ⟨b6, 0, none⟩)) ∧ F 4 = (.pointer (some ⟨b21, 0, none⟩)) ∧ F 5 = (.int .i64 s_l1.2.2) ∧ F 50 = (.int .i64 a0.Boats) ∧ F 51 = (.pointer (some ⟨b21, 1, none⟩)) ∧ F 60 = v853 ∧ F 63 = (.pointer (some ⟨b21, 2, none⟩)) ∧ F 65 = v546 ∧ Hp w0 [Ent.own 2 S854 v853 x608, Ent.own 2 S547 v546 s_l2.1, Ent.frzS wz560 S446, Ent.frzS wz562 S448, Ent.blk b21 49 #[(.int .i64 a0.Boats), v445, v447], Ent.blk b6 49 #[(.int .i64 0), (.slice none 0 0), (.slice none 0 0)], Ent.blk b4 33 #[(.int .i64 a0.Boats), (.int .i64 a0.Scheme), v1], Ent.snap w0 w0.heap.size] w) ?_ (fun hN778 => ?_)
     · intro F1264 wd1265 hJ
       obtain ⟨v853, S854, f1266, f1267, f1268, f1269, f1270, f1271, f1272, f1273, f1274, hL⟩ := hJ
       refine DH.all (rs := [3, 12, 15, 17]) (by kernel_rfl) (by simp) ?_
       intro i1275 hi1276
       simp only [List.mem_cons, List.not_mem_nil, or_false] at hi1276
       rcases hi1276 with rfl | rfl | rfl | rfl
       · refine ⟨_, rfl, ?_⟩
         refine OP.val (v := v445) rfl (x_load1 U47 rfl f1271 (hL.cellB 4 rfl rfl)) ?_
         refine ⟨(hL.sel [5, 6, 7] (by decide) rfl), ?_⟩
         exact DH.relist (listed' := (bma 21 86015)) (by kernel_rfl) (hN770 _ _ ⟨v853, S854, f1266, f1267, f1268, f1269, f1270, rfl, f1272, f1273, f1274, hL⟩)
       · refine ⟨_, rfl, ?_⟩
         refine S_lit1 x608 rfl hL U47 Tryz_T26 ((congrArg Value.cells f1272).trans (rdL_cells (hL.rdO 0 rfl))) rfl ?_
         intro wd1277 v1278 S1279 hL
         refine ⟨(hL.sel [5, 6, 7] (by decide) rfl), ?_⟩
         exact DH.relist (listed' := (bma 21 90103)) (by kernel_rfl) (hN773 _ _ ⟨v1278, S1279, f1266, f1267, f1268, f1269, f1270, f1271, rfl, f1273, f1274, hL⟩)
       · refine ⟨_, rfl, ?_⟩
         refine OP.val (v := v447) rfl (x_load1 U47 rfl f1273 (hL.cellB 4 rfl rfl)) ?_
         refine ⟨(hL.sel [5, 6, 7] (by decide) rfl), ?_⟩
         exact DH.relist (listed' := (bma 21 118775)) (by kernel_rfl) (hN774 _ _ ⟨v853, S854, f1266, f1267, f1268, f1269, f1270, f1271, f1272, rfl, f1274, hL⟩)
       refine ⟨_, rfl, ?_⟩
       have hL := hL.sel [1, 0, 2, 3, 4, 5, 6, 7] (by decide) rfl
       refine S_lit1 s_l2.1 rfl hL U47 Tryz_T26 ((congrArg Value.cells f1274).trans (rdL_cells (hL.rdO 0 rfl))) rfl ?_
       intro wd1280 v1281 S1282 hL
       refine ⟨(hL.sel [5, 6, 7] (by decide) rfl), ?_⟩
       exact DH.relist (listed' := (bma 21 217079)) (by kernel_rfl) (hN775 _ _ ⟨v1281, S1282, v853, S854, f1266, f1267, f1268, f1269, f1270, f1271, f1272, f1273, rfl, hL⟩)
     refine DH.node (listed' := (bma 21 116727)) (fuel' := 8) (fun (F : Fr) (w : World) => F 1 = (.pointer (some ⟨b4, 0, none⟩)) ∧ F 2 = (.pointer (some ⟨b6, 0, none⟩)) ∧ F 4 = (.pointer (some ⟨b21, 0, none⟩)) ∧ F 5 = (.int .i64 s_l1.2.2) ∧ F 50 = (.int .i64 a0.Boats) ∧ F 51 = (.pointer (some ⟨b21, 1, none⟩)) ∧ F 57 = (.agg #[v602]) ∧ F 59 = (.int .i64 a0.Scheme) ∧ F 64 = v447 ∧ F 65 = v546 ∧ Hp w0 [Ent.own 2 S547 v546 s_l2.1, Ent.frzS wz560 S446, Ent.frzS wz562 S448, Ent.blk b21 49 #[(.int .i64 a0.Boats), v445, v447], Ent.blk b6 49 #[(.int .i64 0), (.slice none 0 0), (.slice none 0 0)], Ent.blk b4 33 #[(.int .i64 a0.Boats), (.int .i64 a0.Scheme), v1], Ent.snap w0 w0.heap.size] w) ?_ (fun hN779 => ?_)
     · intro F1283 wd1284 hJ
       obtain ⟨f1285, f1286, f1287, f1288, f1289, f1290, f1291, f1292, f1293, f1294, hL⟩ := hJ
       refine DH.all (rs := [3, 11, 17]) (by kernel_rfl) (by simp) ?_
       intro i1295 hi1296
       simp only [List.mem_cons, List.not_mem_nil, or_false] at hi1296
       rcases hi1296 with rfl | rfl | rfl
       · refine ⟨_, rfl, ?_⟩
         refine OP.val (v := v445) rfl (x_load1 U47 rfl f1290 (hL.cellB 3 rfl rfl)) ?_
         refine ⟨(hL.sel [4, 5, 6] (by decide) rfl), ?_⟩
         exact DH.relist (listed' := (bma 21 116735)) (by kernel_rfl) (hN771 _ _ ⟨f1285, f1286, f1287, f1288, f1289, rfl, f1291, f1292, f1293, f1294, hL⟩)
       · refine ⟨_, rfl, ?_⟩
         refine OP.call rfl (x_call (vs := [(.agg #[v602]), (.int .i64 a0.Scheme)]) Tryz_C55 ⟨f1291, f1292, trivial⟩) (M.spec_l26Points_ok _ x597 (hL.rdS 6 rfl hr606) a0.Scheme hx609) ?_
         rintro e1299 wd1300 ⟨v1298, S1297, rfl, hF1301⟩
         refine ⟨_, rfl, ?_⟩
         have hL := hL.pushAll hF1301
         simp only [lA, lB, lC, lD] at hL
         refine ⟨(hL.sel [5, 6, 7] (by decide) rfl), ?_⟩
         exact DH.relist (listed' := (bma 21 118775)) (by kernel_rfl) (hN774 _ _ ⟨v1298, S1297, f1285, f1286, f1287, f1288, f1289, f1290, rfl, f1293, f1294, hL⟩)
       refine ⟨_, rfl, ?_⟩
       refine S_lit1 s_l2.1 rfl hL U47 Tryz_T26 ((congrArg Value.cells f1294).trans (rdL_cells (hL.rdO 0 rfl))) rfl ?_
       intro wd1302 v1303 S1304 hL
       refine ⟨(hL.sel [4, 5, 6] (by decide) rfl), ?_⟩
       exact DH.relist (listed' := (bma 21 247799)) (by kernel_rfl) (hN776 _ _ ⟨v1303, S1304, f1285, f1286, f1287, f1288, f1289, f1290, f1291, f1292, f1293, rfl, hL⟩)
     refine DH.node (listed' := (bma 21 215031)) (fuel' := 8) (fun (F : Fr) (w : World) => ∃ (v855 : Value) (S856 : Nat → Prop), F 1 = (.pointer (some ⟨b4, 0, none⟩)) ∧ F 2 = (.pointer (some ⟨b6, 0, none⟩)) ∧ F 4 = (.pointer (some ⟨b21, 0, none⟩)) ∧ F 5 = (.int .i64 s_l1.2.2) ∧ F 50 = (.int .i64 a0.Boats) ∧ F 51 = (.pointer (some ⟨b21, 1, none⟩)) ∧ F 57 = (.agg #[v602]) ∧ F 59 = (.int .i64 a0.Scheme) ∧ F 63 = (.pointer (some ⟨b21, 2, none⟩)) ∧ F 66 = v855 ∧ Hp w0 [Ent.own 26 S856 v855 ([s_l2.1] : List (List Int)), Ent.frzS wz560 S446, Ent.frzS wz562 S448, Ent.blk b21 49 #[(.int .i64 a0.Boats), v445, v447], Ent.blk b6 49 #[(.int .i64 0), (.slice none 0 0), (.slice none 0 0)], Ent.blk b4 33 #[(.int .i64 a0.Boats), (.int .i64 a0.Scheme), v1], Ent.snap w0 w0.heap.size] w) ?_ (fun hN780 => ?_)
     · intro F1305 wd1306 hJ
       obtain ⟨v855, S856, f1307, f1308, f1309, f1310, f1311, f1312, f1313, f1314, f1315, f1316, hL⟩ := hJ
       refine DH.all (rs := [3, 11, 15]) (by kernel_rfl) (by simp) ?_
       intro i1317 hi1318
       simp only [List.mem_cons, List.not_mem_nil, or_false] at hi1318
       rcases hi1318 with rfl | rfl | rfl
       · refine ⟨_, rfl, ?_⟩
         refine OP.val (v := v445) rfl (x_load1 U47 rfl f1312 (hL.cellB 3 rfl rfl)) ?_
         refine ⟨(hL.sel [4, 5, 6] (by decide) rfl), ?_⟩
         exact DH.relist (listed' := (bma 21 215039)) (by kernel_rfl) (hN772 _ _ ⟨v855, S856, f1307, f1308, f1309, f1310, f1311, rfl, f1313, f1314, f1315, f1316, hL⟩)
       · refine ⟨_, rfl, ?_⟩
         refine OP.call rfl (x_call (vs := [(.agg #[v602]), (.int .i64 a0.Scheme)]) Tryz_C55 ⟨f1313, f1314, trivial⟩) (M.spec_l26Points_ok _ x597 (hL.rdS 6 rfl hr606) a0.Scheme hx609) ?_
         rintro e1321 wd1322 ⟨v1320, S1319, rfl, hF1323⟩
         refine ⟨_, rfl, ?_⟩
         have hL := hL.pushAll hF1323
         simp only [lA, lB, lC, lD] at hL
         refine ⟨(hL.sel [5, 6, 7] (by decide) rfl), ?_⟩
         have hL := hL.sel [1, 0, 2, 3, 4, 5, 6, 7] (by decide) rfl
         exact DH.relist (listed' := (bma 21 217079)) (by kernel_rfl) (hN775 _ _ ⟨v855, S856, v1320, S1319, f1307, f1308, f1309, f1310, f1311, f1312, rfl, f1315, f1316, hL⟩)
       refine ⟨_, rfl, ?_⟩
       refine OP.val (v := v447) rfl (x_load1 U47 rfl f1315 (hL.cellB 3 rfl rfl)) ?_
       refine ⟨(hL.sel [4, 5, 6] (by decide) rfl), ?_⟩
       exact DH.relist (listed' := (bma 21 247799)) (by kernel_rfl) (hN776 _ _ ⟨v855, S856, f1307, f1308, f1309, f1310, f1311, f1312, f1313, f1314, rfl, f1316, hL⟩)
     refine DH.all (rs := [3, 11, 15, 17]) (by kernel_rfl) (by simp) ?_
     intro i1324 hi1325
     simp only [List.mem_cons, List.not_mem_nil, or_false] at hi1325
     rcases hi1325 with rfl | rfl | rfl | rfl
     · refine ⟨_, rfl, ?_⟩
       refine OP.val (v := v445) rfl (x_load1 U47 rfl rfl (hL.cellB 3 rfl rfl)) ?_
       refine ⟨(hL.sel [4, 5, 6] (by decide) rfl), ?_⟩
       exact DH.relist (listed' := (bma 21 83967)) (by kernel_rfl) (hN777 _ _ ⟨f554, f555, f556, f557, rfl, rfl, rfl, rfl, rfl, rfl, hL⟩)
     · refine ⟨_, rfl, ?_⟩
       refine OP.call rfl (x_call (vs := [(.agg #[v602]), (.int .i64 a0.Scheme)]) Tryz_C55 ⟨rfl, rfl, trivial⟩) (M.spec_l26Points_ok _ x597 (hL.rdS 6 rfl hr606) a0.Scheme hx609) ?_
       rintro e1328 wd1329 ⟨v1327, S1326, rfl, hF1330⟩
       refine ⟨_, rfl, ?_⟩
       have hL := hL.pushAll hF1330
       simp only [lA, lB, lC, lD] at hL
       refine ⟨(hL.sel [5, 6, 7] (by decide) rfl), ?_⟩
       exact DH.relist (listed' := (bma 21 86007)) (by kernel_rfl) (hN778 _ _ ⟨v1327, S1326, f554, f555, f556, f557, rfl, rfl, rfl, rfl, rfl, hL⟩)
     · refine ⟨_, rfl, ?_⟩
       refine OP.val (v := v447) rfl (x_load1 U47 rfl rfl (hL.cellB 3 rfl rfl)) ?_
       refine ⟨(hL.sel [4, 5, 6] (by decide) rfl), ?_⟩
       exact DH.relist (listed' := (bma 21 116727)) (by kernel_rfl) (hN779 _ _ ⟨f554, f555, f556, f557, rfl, rfl, rfl, rfl, rfl, rfl, hL⟩)
     refine ⟨_, rfl, ?_⟩
     refine S_lit1 s_l2.1 rfl hL U47 Tryz_T26 ((congrArg Value.cells (show _ = v546 from rfl)).trans (rdL_cells (hL.rdO 0 rfl))) rfl ?_
     intro wd1331 v1332 S1333 hL
     refine ⟨(hL.sel [4, 5, 6] (by decide) rfl), ?_⟩
     exact DH.relist (listed' := (bma 21 215031)) (by kernel_rfl) (hN780 _ _ ⟨v1332, S1333, f554, f555, f556, f557, rfl, rfl, rfl, rfl, rfl, rfl, hL⟩)
   intro s_l2 F1334 wd1335 t548 hJ hm hr549
   unfold M.spec_TableOf_l2 at hm
   obtain ⟨v546, S547, f1336, f1337, f1338, f1339, f1340, f1341, hL⟩ := hJ
   refine CW.seq ?_
   refine CSR ?_
   refine OV (.int .i64 s_l2.2) rfl (x_mv f1341) ?_
   refine OV (.pointer (some ⟨b4, 2, none⟩)) rfl (x_fieldAddr (fsz := 1) 0 2 2 U33 rfl Tryz_T31 rfl f1336 rfl) ?_
   refine OV v1 rfl (x_load1 U31 rfl rfl (hL.cellB 5 rfl rfl)) ?_
   refine OV (.int .i64 s_l1.2.2) rfl (x_mv f1339) ?_
   obtain ⟨x1342, ha1343, hm⟩ := bndE hm
   obtain ⟨hz1344, ha1352⟩ := idxE ha1343
   obtain ⟨b1345, q1346, v1347, hix1348, hs1349, hc1350, hr1351⟩ := rdN_at h2 hz1344 ha1352
   refine OV (.pointer (some ⟨b1345, q1346, none⟩)) rfl (x_ix U31 Tryz_T75 rfl rfl hix1348) ?_
   refine OV (.pointer (some ⟨b1345, q1346, none⟩)) rfl (x_fieldAddr (fsz := 1) q1346 0 q1346 U75 rfl Tryz_T73 rfl rfl rfl) ?_
   refine OV v1347 rfl (x_load1 U73 rfl rfl (hL.cellS 6 rfl hs1349 hc1350)) ?_
   refine OV (.int .i64 (x1342.Finishes.length : Int)) rfl (x_lenR U73 rfl (hL.rdS 6 rfl hr1351)) ?_
   refine OV (.bool (decide (s_l2.2 < (x1342.Finishes.length : Int)))) rfl (x_lss rfl rfl) ?_
   refine OW.nil ?_
   refine CW.condM (t := decide (s_l2.2 < (x1342.Finishes.length : Int))) rfl hm (fun hb1353 hm => ?_) (fun hb1353 hm => ?_)
   · refine CW.skip ?_
     refine CW.seq ?_
     refine CW.block ?_
     refine CW.regionL ?_
     refine OV v546 rfl (x_mv f1340) ?_
     refine OV (.pointer (some ⟨b4, 2, none⟩)) rfl (x_fieldAddr (fsz := 1) 0 2 2 U33 rfl Tryz_T31 rfl f1336 rfl) ?_
     refine OV v1 rfl (x_load1 U31 rfl rfl (hL.cellB 5 rfl rfl)) ?_
     refine OV (.int .i64 s_l1.2.2) rfl (x_mv f1339) ?_
     obtain ⟨x1354, ha1355, hm⟩ := bndE hm
     obtain ⟨hz1356, ha1364⟩ := idxE ha1355
     obtain ⟨b1357, q1358, v1359, hix1360, hs1361, hc1362, hr1363⟩ := rdN_at h2 hz1356 ha1364
     refine OV (.pointer (some ⟨b1357, q1358, none⟩)) rfl (x_ix U31 Tryz_T75 rfl rfl hix1360) ?_
     refine OV (.pointer (some ⟨b1357, q1358, none⟩)) rfl (x_fieldAddr (fsz := 1) q1358 0 q1358 U75 rfl Tryz_T73 rfl rfl rfl) ?_
     refine OV v1359 rfl (x_load1 U73 rfl rfl (hL.cellS 6 rfl hs1361 hc1362)) ?_
     refine OV (.int .i64 s_l2.2) rfl (x_mv f1341) ?_
     obtain ⟨x1365, ha1366, hm⟩ := bndE hm
     obtain ⟨hz1367, ha1371⟩ := idxE ha1366
     obtain ⟨b1368, q1369, hix1370⟩ := rdL_ix (hL.rdS 6 rfl hr1363) hz1367 ha1371
     refine OV (.pointer (some ⟨b1368, q1369, none⟩)) rfl (x_ix U73 Tryz_T79 rfl rfl hix1370) ?_
     refine OV (.pointer (some ⟨b1368, q1369 + 1, none⟩)) rfl (x_fieldAddr (fsz := 1) q1369 1 (q1369 + 1) U79 rfl Tryz_T2 rfl rfl rfl) ?_
     refine OV (.int .i64 x1365.Code) rfl (x_load1 U2 rfl rfl (rdF_cells (hL.rdS 6 rfl hr1363) hix1370 ha1371 1 _ rfl)) ?_
     refine OW.cons (S_lit ([x1365.Code] : List Int) hL U26 Tryz_T2 rfl (by decide) (by first | (simp [Instr.fill, madeCells, Value.cells, ev, upd, Flat.enc, Flat.sz]; done) | rfl | kernel_rfl) rfl rfl ?_)
     intro wd1372 v1373 S1374 hL
     obtain ⟨hc1378, hm⟩ := chkE hm
     refine OW.cons (S_append (ys := ([x1365.Code] : List Int)) hL 1 rfl U26 Tryz_T2 rfl rfl rfl (hL.rdO 0 rfl) hc1378 (by decide) rfl ?_)
     intro wd1375 v1376 S1377 hL
     refine OV v1376 rfl (x_assign) ?_
     refine OW.nil ?_
     refine CW.regionL ?_
     refine OV (.int .i64 s_l2.2) rfl (x_mv f1341) ?_
     refine OV (.int .i64 (w64 (s_l2.2 + 1))) rfl (x_add rfl rfl) ?_
     refine OV (.int .i64 (w64 (s_l2.2 + 1))) rfl (x_assign) ?_
     refine OW.nil ?_
     have hL := hL.sel [1, 2, 3, 4, 5, 6, 7] (by decide) rfl
     obtain rfl := Option.some.inj hm
     exact ⟨_, rfl, ⟨v1376, S1377, f1336, f1337, f1338, f1339, rfl, rfl, hL⟩⟩
   refine CW.exit ?_
   refine XJ.hit ?_
   obtain rfl := Option.some.inj hm
   exact ⟨_, rfl, ⟨v546, S547, f1336, f1337, f1338, f1339, f1340, f1341, hL⟩⟩
 refine CW.exit ?_
 refine XJ.hit ?_
 obtain rfl := Option.some.inj hm
 exact ⟨_, rfl, ⟨v445, S446, v447, S448, f462, f463, f464, f465, hL⟩⟩

theorem M.spec_l21Percent_ok (w0 : World) (a0 : Int) (a1 : Int) {r : Int} (hm : M.spec_l21Percent a0 a1 = some r) :
    Calls Tryz.prog 36 #[(.int .i64 a0), (.int .i64 a1)] w0 fun e w' => e = .returned (.int .i64 r) ∧ Fresh w0 w' [] := by
 unfold M.spec_l21Percent at hm
 refine calls_CW (args := [(.int .i64 a0), (.int .i64 a1)]) Tryz.func36 rfl rfl rfl ?_
 have hL := Hp.start w0
 refine CSR ?_
 refine OV (.int .i64 0) rfl (x_assign) ?_
 refine ONR ?_
 refine OV (.int .i64 a0) rfl (x_move) ?_
 refine OV (.int .i64 (w64 (20 * a0))) rfl (x_mul rfl rfl) ?_
 refine OV (.int .i64 a1) rfl (x_move) ?_
 refine OV (.int .i64 (w64 ((w64 (20 * a0)) * a1))) rfl (x_mul rfl rfl) ?_
 refine OV (.int .i64 (w64 ((w64 ((w64 (20 * a0)) * a1)) + 100))) rfl (x_add rfl rfl) ?_
 refine OV (.int .i64 (w64 ((w64 ((w64 ((w64 (20 * a0)) * a1)) + 100)).tdiv 200))) rfl (x_quo rfl rfl (by decide)) ?_
 refine OV (.int .i64 (w64 ((w64 ((w64 ((w64 (20 * a0)) * a1)) + 100)).tdiv 200))) rfl (x_assign) ?_
 refine OW.nil ?_
 refine CW.ret ?_
 obtain rfl := Option.some.inj hm
 exact RR1 rfl rfl ⟨rfl, hL.fresh 0 rfl [] (by decide) (by decide) rfl⟩

theorem M.spec_l21Worst_ok (w0 : World) (a0 : Series) {v1 : Value} (h2 : rdL (· < w0.heap.size) w0 v1 a0.Races) (a1 : Int) (a2 : Int) {r : Int} (hm : M.spec_l21Worst a0 a1 a2 = some r) :
    Calls Tryz.prog 37 #[(.agg #[(.int .i64 a0.Boats), (.int .i64 a0.Scheme), v1]), (.int .i64 a1), (.int .i64 a2)] w0 fun e w' => e = .returned (.int .i64 r) ∧ Fresh w0 w' [] := by
 unfold M.spec_l21Worst at hm
 refine calls_CW (args := [(.agg #[(.int .i64 a0.Boats), (.int .i64 a0.Scheme), v1]), (.int .i64 a1), (.int .i64 a2)]) Tryz.func37 rfl rfl rfl ?_
 have hL := Hp.start w0
 refine CSR ?_
 refine OW.cons (S_box (cs := #[(.int .i64 a0.Boats), (.int .i64 a0.Scheme), v1]) hL rfl rfl rfl ?_)
 intro wd3 b4 hL
 refine OV (.int .i64 0) rfl (x_assign) ?_
 refine ONR ?_
 refine OW.cons (S_lit ([] : List Finish) hL U73 Tryz_T79 rfl (by decide) (by first | (simp [Instr.fill, madeCells, Value.cells, ev, upd, Flat.enc, Flat.sz]; done) | rfl | kernel_rfl) rfl rfl ?_)
 intro wd5 v6 S7 hL
 refine OV (.pointer (some ⟨b4, 2, none⟩)) rfl (x_fieldAddr (fsz := 1) 0 2 2 U33 rfl Tryz_T31 rfl rfl rfl) ?_
 refine OV v1 rfl (x_load1 U31 rfl rfl (hL.cellB 1 rfl rfl)) ?_
 refine OV (.int .i64 a1) rfl (x_move) ?_
 obtain ⟨x8, ha9, hm⟩ := bndE hm
 obtain ⟨hz10, ha18⟩ := idxE ha9
 obtain ⟨b11, q12, v13, hix14, hs15, hc16, hr17⟩ := rdN_at h2 hz10 ha18
 refine OV (.pointer (some ⟨b11, q12, none⟩)) rfl (x_ix U31 Tryz_T75 rfl rfl hix14) ?_
 refine OV (.pointer (some ⟨b11, q12, none⟩)) rfl (x_fieldAddr (fsz := 1) q12 0 q12 U75 rfl Tryz_T73 rfl rfl rfl) ?_
 refine OV v13 rfl (x_load1 U73 rfl rfl (hL.cellS 2 rfl hs15 hc16)) ?_
 obtain ⟨hc22, hm⟩ := chkE hm
 refine OW.cons (S_append (ys := x8.Finishes) hL 0 rfl U73 Tryz_T79 rfl rfl rfl (hL.rdS 2 rfl hr17) hc22 (by decide) rfl ?_)
 intro wd19 v20 S21 hL
 refine OV v20 rfl (x_assign) ?_
 refine ONR ?_
 refine OV v20 rfl (x_move) ?_
 refine OV (.int .i64 a2) rfl (x_move) ?_
 refine OV (.int .i64 a2) rfl (x_move) ?_
 refine OV (.agg #[(.int .i64 a2), (.int .i64 4), (.int .i64 0)]) rfl (x_build Tryz_B79 (ps := [(0, (.int .i64 a2)), (1, (.int .i64 4))]) ⟨⟨rfl, rfl⟩, ⟨rfl, rfl⟩, trivial⟩ (by simp [Instr.fill, cells_int, cells_bool, cells_string, cells_agg, cells_slice, cells_pointer])) ?_
 obtain ⟨x23, ha24, hm⟩ := bndE hm
 obtain ⟨hz25, ha29⟩ := idxE ha24
 obtain ⟨b26, q27, hix28⟩ := rdL_ix (hL.rdO 0 rfl) hz25 ha29
 refine OV (.pointer (some ⟨b26, q27, none⟩)) rfl (x_ix U73 Tryz_T79 rfl rfl hix28) ?_
 refine OW.cons (S_storeXN (l := [(.int .i64 a2), (.int .i64 4), (.int .i64 0)]) (Finish.mk a2 4 0) hL 0 rfl Tryz_T79 hix28 ha29 rfl rfl rfl ?_)
 intro wd30 hL
 refine ONR ?_
 refine OV v20 rfl (x_move) ?_
 refine OV (.agg #[v20]) rfl (x_build Tryz_B75 (ps := [(0, v20)]) ⟨⟨rfl, rfl⟩, trivial⟩ (by simp [Instr.fill, cells_int, cells_bool, cells_string, cells_agg, cells_slice, cells_pointer, (rdL_cells (hL.rdO 0 rfl))])) ?_
 refine OV (.pointer (some ⟨b4, 1, none⟩)) rfl (x_fieldAddr (fsz := 1) 0 1 1 U33 rfl Tryz_T2 rfl rfl rfl) ?_
 refine OV (.int .i64 a0.Scheme) rfl (x_load1 U2 rfl rfl (hL.cellB 1 rfl rfl)) ?_
 obtain ⟨x31, hx32, hm⟩ := bndE hm
 refine OW.cons (OP.call rfl (x_call (vs := [(.agg #[v20]), (.int .i64 a0.Scheme)]) Tryz_C55 ⟨rfl, rfl, trivial⟩) (M.spec_l26Points_ok _ (Race.mk ((([] : List Finish) ++ x8.Finishes).set (a2 : Int).toNat (Finish.mk a2 4 0))) (hL.rdO 0 rfl) a0.Scheme hx32) ?_)
 rintro e35 wd36 ⟨v34, S33, rfl, hF37⟩
 refine ⟨_, rfl, ?_⟩
 have hL := hL.pushAll hF37
 simp only [lA, lB, lC, lD] at hL
 refine OV (.int .i64 a2) rfl (x_move) ?_
 obtain ⟨x38, ha39, hm⟩ := bndE hm
 obtain ⟨hz40, ha44⟩ := idxE ha39
 obtain ⟨b41, q42, hix43⟩ := rdL_ix (hL.rdO 0 rfl) hz40 ha44
 refine OV (.pointer (some ⟨b41, q42, none⟩)) rfl (x_ix U26 Tryz_T2 rfl rfl hix43) ?_
 refine OV (.int .i64 x38) rfl (x_load1 U2 rfl rfl (rdF_cells (hL.rdO 0 rfl) hix43 ha44 0 _ rfl)) ?_
 refine OV (.int .i64 x38) rfl (x_assign) ?_
 refine OW.nil ?_
 refine CW.ret ?_
 obtain rfl := Option.some.inj hm
 exact RR1 rfl rfl ⟨rfl, hL.fresh 3 rfl [] (by decide) (by decide) rfl⟩

theorem M.spec_l21Table_ok (w0 : World) (a0 : Series) {v1 : Value} (h2 : rdL (· < w0.heap.size) w0 v1 a0.Races) (a1 : List Penalty) {v3 : Value} (h4 : rdL (· < w0.heap.size) w0 v3 a1) {r : Table} (hm : M.spec_l21Table a0 a1 = some r) :
    Calls Tryz.prog 19 #[(.agg #[(.int .i64 a0.Boats), (.int .i64 a0.Scheme), v1]), v3] w0 fun e w' => ∃ (rv0 : Value) (rS0 : Nat → Prop), ∃ (rv1 : Value) (rS1 : Nat → Prop), e = .returned (.agg #[(.int .i64 r.Boats), rv0, rv1]) ∧ Fresh w0 w' [Ent.own 26 rS0 rv0 r.Points, Ent.own 26 rS1 rv1 r.Codes] := by
 unfold M.spec_l21Table at hm
 refine calls_CW (args := [(.agg #[(.int .i64 a0.Boats), (.int .i64 a0.Scheme), v1]), v3]) Tryz.func19 rfl rfl rfl ?_
 have hL := Hp.start w0
 refine CSR ?_
 refine OW.cons (S_box (cs := #[(.int .i64 a0.Boats), (.int .i64 a0.Scheme), v1]) hL rfl rfl rfl ?_)
 intro wd5 b6 hL
 refine OW.cons (S_alloc (cs := #[(.int .i64 0), (.slice none 0 0), (.slice none 0 0)]) hL Tryz_T49 rfl rfl ?_)
 intro wd7 b8 hL
 refine ONR ?_
 refine OV (.agg #[(.int .i64 a0.Boats), (.int .i64 a0.Scheme), v1]) rfl (x_loadN (cs := [(.int .i64 a0.Boats), (.int .i64 a0.Scheme), v1]) U33 Tryz_T33 rfl rfl (hL.cellsB 1 rfl (o := 0) (l := [(.int .i64 a0.Boats), (.int .i64 a0.Scheme), v1]) (by intro j u hj; exact (by simpa using hj)))) ?_
 refine OV v3 rfl (x_move) ?_
 obtain ⟨x9, hx10, hm⟩ := bndE hm
 refine OW.cons (OP.call rfl (x_call (vs := [(.agg #[(.int .i64 a0.Boats), (.int .i64 a0.Scheme), v1]), v3]) Tryz_C34 ⟨rfl, rfl, trivial⟩) (M.spec_l21Series_ok _ a0 (hL.rdS 2 rfl h2) a1 (hL.rdS 2 rfl h4) hx10) ?_)
 rintro e13 wd14 ⟨v12, S11, rfl, hF15⟩
 refine ⟨_, rfl, ?_⟩
 have hL := hL.pushAll hF15
 simp only [lA, lB, lC, lD] at hL
 refine OW.cons (S_alloc (cs := #[(.int .i64 0), (.int .i64 0), (.slice none 0 0)]) hL Tryz_T33 rfl rfl ?_)
 intro wd16 b17 hL
 refine OW.cons (S_storeN (l := [(.int .i64 x9.Boats), (.int .i64 x9.Scheme), v12]) (cs' := #[(.int .i64 x9.Boats), (.int .i64 x9.Scheme), v12]) hL 0 rfl Tryz_T33 rfl rfl (List.forall_mem_cons.2 ⟨rfl, (List.forall_mem_cons.2 ⟨rfl, (List.forall_mem_cons.2 ⟨rdL_one (hL.rdO 1 rfl), (fun _ h => by cases h)⟩)⟩)⟩) rfl (Nat.le_of_ble_eq_true rfl) rfl ?_)
 intro wd18 hL
 refine ONR ?_
 refine OV (.agg #[(.int .i64 x9.Boats), (.int .i64 x9.Scheme), v12]) rfl (x_loadN (cs := [(.int .i64 x9.Boats), (.int .i64 x9.Scheme), v12]) U33 Tryz_T33 rfl rfl (hL.cellsB 0 rfl (o := 0) (l := [(.int .i64 x9.Boats), (.int .i64 x9.Scheme), v12]) (by intro j u hj; exact (by simpa using hj)))) ?_
 obtain ⟨x19, hx20, hm⟩ := bndE hm
 refine OW.cons (OP.call rfl (x_call (vs := [(.agg #[(.int .i64 x9.Boats), (.int .i64 x9.Scheme), v12])]) Tryz_C35 ⟨rfl, trivial⟩) (M.spec_TableOf_ok _ x9 (hL.rdO 1 rfl) hx20) ?_)
 rintro e25 wd26 ⟨v22, S21, v24, S23, rfl, hF27⟩
 refine ⟨_, rfl, ?_⟩
 have hL := hL.pushAll hF27
 simp only [lA, lB, lC, lD] at hL
 refine OV (.tuple #[(.agg #[(.int .i64 x19.1.Boats), v22, v24]), (.int .i64 x19.2)]) rfl (x_move) ?_
 refine OV (.agg #[(.int .i64 x19.1.Boats), v22, v24]) rfl (x_extract rfl rfl) ?_
 refine OV (.int .i64 x19.2) rfl (x_extract rfl rfl) ?_
 refine OW.cons (S_alloc (cs := #[(.int .i64 0), (.slice none 0 0), (.slice none 0 0)]) hL Tryz_T49 rfl rfl ?_)
 intro wd28 b29 hL
 refine OW.cons (S_storeN (l := [(.int .i64 x19.1.Boats), v22, v24]) (cs' := #[(.int .i64 x19.1.Boats), v22, v24]) hL 0 rfl Tryz_T49 rfl rfl (List.forall_mem_cons.2 ⟨rfl, (List.forall_mem_cons.2 ⟨rdL_one (hL.rdO 1 rfl), (List.forall_mem_cons.2 ⟨rdL_one (hL.rdO 2 rfl), (fun _ h => by cases h)⟩)⟩)⟩) rfl (Nat.le_of_ble_eq_true rfl) rfl ?_)
 intro wd30 hL
 refine OV (.int .i64 x19.2) rfl (x_assign) ?_
 refine ONS ?_
 refine CSR ?_
 refine OV (.int .i64 0) rfl (x_assign) ?_
 refine OW.nil ?_
 obtain ⟨o26263, ho26264, hm⟩ := bndE hm
 refine CW.loopB (fun (s_l1 : (List (List Int)) × Int) (F : Fr) (w : World) => ∃ (S26260 : Nat → Prop), F 1 = v3 ∧ F 2 = (.pointer (some ⟨b6, 0, none⟩)) ∧ F 4 = (.pointer (some ⟨b8, 0, none⟩)) ∧ F 5 = (.pointer (some ⟨b17, 0, none⟩)) ∧ F 6 = (.pointer (some ⟨b29, 0, none⟩)) ∧ F 8 = (.int .i64 s_l1.2) ∧ Hp w0 [Ent.blk b29 49 #[(.int .i64 x19.1.Boats), v22, v24], Ent.own 26 S26260 v22 s_l1.1, Ent.own 26 S23 v24 x19.1.Codes, Ent.blk b17 33 #[(.int .i64 x9.Boats), (.int .i64 x9.Scheme), v12], Ent.own 75 S11 v12 x9.Races, Ent.blk b8 49 #[(.int .i64 0), (.slice none 0 0), (.slice none 0 0)], Ent.blk b6 33 #[(.int .i64 a0.Boats), (.int .i64 a0.Scheme), v1], Ent.snap w0 w0.heap.size] w) (fun o => outc o (fun x => some x) (fun s => M.spec_l21Table_a1 x19 s) = some r) ho26264 hm ⟨S21, rfl, rfl, rfl, rfl, rfl, rfl, hL⟩ ?_ ?_
 · intro s_l1 F26265 wd26266 hJ hm
   have hm := outcE hm
   have hm : M.spec_l21Table_a1 x19 s_l1 = some r := hm
   unfold M.spec_l21Table_a1 at hm
   obtain ⟨S26260, f26267, f26268, f26269, f26270, f26271, f26272, hL⟩ := hJ
   refine CSR ?_
   refine OV (.agg #[(.int .i64 x19.1.Boats), v22, v24]) rfl (x_loadN (cs := [(.int .i64 x19.1.Boats), v22, v24]) U49 Tryz_T49 rfl f26271 (hL.cellsB 0 rfl (o := 0) (l := [(.int .i64 x19.1.Boats), v22, v24]) (by intro j u hj; exact (by simpa using hj)))) ?_
   refine OW.cons (S_storeN (l := [(.int .i64 x19.1.Boats), v22, v24]) (cs' := #[(.int .i64 x19.1.Boats), v22, v24]) hL 5 rfl Tryz_T49 f26269 rfl (List.forall_mem_cons.2 ⟨rfl, (List.forall_mem_cons.2 ⟨rdL_one (hL.rdO 1 rfl), (List.forall_mem_cons.2 ⟨rdL_one (hL.rdO 2 rfl), (fun _ h => by cases h)⟩)⟩)⟩) rfl (Nat.le_of_ble_eq_true rfl) rfl ?_)
   intro wd26273 hL
   refine OW.nil ?_
   refine CW.ret ?_
   obtain rfl := Option.some.inj hm
   exact RRc rfl f26269 (run_loadBlk U49 Tryz_T49 (hL.get 5 rfl) rfl) ⟨v22, S26260, v24, S23, rfl, hL.fresh 7 rfl [1, 2] (by decide) (by decide) rfl⟩
 intro s_l1 F26274 wd26275 t26261 hJ hm hr26262
 unfold M.spec_l21Table_l1 at hm
 obtain ⟨S26260, f26276, f26277, f26278, f26279, f26280, f26281, hL⟩ := hJ
 refine CW.seq ?_
 refine CSR ?_
 refine OV (.int .i64 s_l1.2) rfl (x_mv f26281) ?_
 refine OV (.pointer (some ⟨b29, 1, none⟩)) rfl (x_fieldAddr (fsz := 1) 0 1 1 U49 rfl Tryz_T47 rfl f26280 rfl) ?_
 refine OV v22 rfl (x_load1 U47 rfl rfl (hL.cellB 0 rfl rfl)) ?_
 refine OV (.int .i64 (s_l1.1.length : Int)) rfl (x_lenR U47 rfl (hL.rdO 1 rfl)) ?_
 refine OV (.bool (decide (s_l1.2 < (s_l1.1.length : Int)))) rfl (x_lss rfl rfl) ?_
 refine OW.nil ?_
 refine CW.condM (t := decide (s_l1.2 < (s_l1.1.length : Int))) rfl hm (fun hb26282 hm => ?_) (fun hb26282 hm => ?_)
 · refine CW.skip ?_
   refine CW.seq ?_
   refine CW.block ?_
   refine CSR ?_
   refine OV (.int .i64 0) rfl (x_assign) ?_
   refine OW.nil ?_
   obtain ⟨o35013, ho35014, hm⟩ := bndE hm
   refine CW.loopB (fun (s_l2 : (List (List Int)) × Int) (F : Fr) (w : World) => ∃ (S35010 : Nat → Prop), F 1 = v3 ∧ F 2 = (.pointer (some ⟨b6, 0, none⟩)) ∧ F 4 = (.pointer (some ⟨b8, 0, none⟩)) ∧ F 5 = (.pointer (some ⟨b17, 0, none⟩)) ∧ F 6 = (.pointer (some ⟨b29, 0, none⟩)) ∧ F 8 = (.int .i64 s_l1.2) ∧ F 9 = (.int .i64 s_l2.2) ∧ Hp w0 [Ent.blk b29 49 #[(.int .i64 x19.1.Boats), v22, v24], Ent.own 26 S35010 v22 s_l2.1, Ent.own 26 S23 v24 x19.1.Codes, Ent.blk b17 33 #[(.int .i64 x9.Boats), (.int .i64 x9.Scheme), v12], Ent.own 75 S11 v12 x9.Races, Ent.blk b8 49 #[(.int .i64 0), (.slice none 0 0), (.slice none 0 0)], Ent.blk b6 33 #[(.int .i64 a0.Boats), (.int .i64 a0.Scheme), v1], Ent.snap w0 w0.heap.size] w) (fun o => outc o (fun x => some (.ret x)) (fun s => M.spec_l21Table_a2 s_l1 s) = some t26261) ho35014 hm ⟨S26260, f26276, f26277, f26278, f26279, f26280, f26281, rfl, hL⟩ ?_ ?_
   · intro s_l2 F35015 wd35016 hJ hm
     have hm := outcE hm
     have hm : M.spec_l21Table_a2 s_l1 s_l2 = some t26261 := hm
     unfold M.spec_l21Table_a2 at hm
     obtain ⟨S35010, f35017, f35018, f35019, f35020, f35021, f35022, f35023, hL⟩ := hJ
     refine CW.regionL ?_
     refine OV (.int .i64 s_l1.2) rfl (x_mv f35022) ?_
     refine OV (.int .i64 (w64 (s_l1.2 + 1))) rfl (x_add rfl rfl) ?_
     refine OV (.int .i64 (w64 (s_l1.2 + 1))) rfl (x_assign) ?_
     refine OW.nil ?_
     obtain rfl := Option.some.inj hm
     exact ⟨_, rfl, ⟨S35010, f35017, f35018, f35019, f35020, f35021, rfl, hL⟩⟩
   intro s_l2 F35024 wd35025 t35011 hJ hm hr35012
   unfold M.spec_l21Table_l2 at hm
   obtain ⟨S35010, f35026, f35027, f35028, f35029, f35030, f35031, f35032, hL⟩ := hJ
   refine CW.seq ?_
   refine CSR ?_
   refine OV (.int .i64 s_l2.2) rfl (x_mv f35032) ?_
   refine OV (.pointer (some ⟨b29, 0, none⟩)) rfl (x_fieldAddr (fsz := 1) 0 0 0 U49 rfl Tryz_T2 rfl f35030 rfl) ?_
   refine OV (.int .i64 x19.1.Boats) rfl (x_load1 U2 rfl rfl (hL.cellB 0 rfl rfl)) ?_
   refine OV (.bool (decide (s_l2.2 < x19.1.Boats))) rfl (x_lss rfl rfl) ?_
   refine OW.nil ?_
   refine CW.condM (t := decide (s_l2.2 < x19.1.Boats)) rfl hm (fun hb35033 hm => ?_) (fun hb35033 hm => ?_)
   · refine CW.skip ?_
     refine CW.seqJ (fun (s_j1 : (List (List Int))) (F : Fr) (w : World) => ∃ (S37210 : Nat → Prop), F 1 = v3 ∧ F 2 = (.pointer (some ⟨b6, 0, none⟩)) ∧ F 4 = (.pointer (some ⟨b8, 0, none⟩)) ∧ F 5 = (.pointer (some ⟨b17, 0, none⟩)) ∧ F 6 = (.pointer (some ⟨b29, 0, none⟩)) ∧ F 8 = (.int .i64 s_l1.2) ∧ F 9 = (.int .i64 s_l2.2) ∧ Hp w0 [Ent.blk b29 49 #[(.int .i64 x19.1.Boats), v22, v24], Ent.own 26 S37210 v22 s_j1, Ent.own 26 S23 v24 x19.1.Codes, Ent.blk b17 33 #[(.int .i64 x9.Boats), (.int .i64 x9.Scheme), v12], Ent.own 75 S11 v12 x9.Races, Ent.blk b8 49 #[(.int .i64 0), (.slice none 0 0), (.slice none 0 0)], Ent.blk b6 33 #[(.int .i64 a0.Boats), (.int .i64 a0.Scheme), v1], Ent.snap w0 w0.heap.size] w) (fun s_j1 => M.spec_l21Table_j1 s_l2 s_j1 = some t35011) ?_ ?_
     · refine CW.blockJ (fun (s_j2 : (List (List Int))) (F : Fr) (w : World) => ∃ (S38303 : Nat → Prop), F 1 = v3 ∧ F 2 = (.pointer (some ⟨b6, 0, none⟩)) ∧ F 4 = (.pointer (some ⟨b8, 0, none⟩)) ∧ F 5 = (.pointer (some ⟨b17, 0, none⟩)) ∧ F 6 = (.pointer (some ⟨b29, 0, none⟩)) ∧ F 8 = (.int .i64 s_l1.2) ∧ F 9 = (.int .i64 s_l2.2) ∧ Hp w0 [Ent.blk b29 49 #[(.int .i64 x19.1.Boats), v22, v24], Ent.own 26 S38303 v22 s_j2, Ent.own 26 S23 v24 x19.1.Codes, Ent.blk b17 33 #[(.int .i64 x9.Boats), (.int .i64 x9.Scheme), v12], Ent.own 75 S11 v12 x9.Races, Ent.blk b8 49 #[(.int .i64 0), (.slice none 0 0), (.slice none 0 0)], Ent.blk b6 33 #[(.int .i64 a0.Boats), (.int .i64 a0.Scheme), v1], Ent.snap w0 w0.heap.size] w) (fun s_j2 => M.spec_l21Table_j2 s_l2 s_j2 = some t35011) ?_ ?_
       · refine CSR ?_
         refine OV (.int .i64 0) rfl (x_assign) ?_
         refine ONS ?_
         refine CSR ?_
         refine OV (.int .i64 0) rfl (x_assign) ?_
         refine OW.nil ?_
         obtain ⟨o38935, ho38936, hm⟩ := bndE hm
         refine CW.loopB (fun (s_l3 : Int × Int) (F : Fr) (w : World) => F 1 = v3 ∧ F 2 = (.pointer (some ⟨b6, 0, none⟩)) ∧ F 4 = (.pointer (some ⟨b8, 0, none⟩)) ∧ F 5 = (.pointer (some ⟨b17, 0, none⟩)) ∧ F 6 = (.pointer (some ⟨b29, 0, none⟩)) ∧ F 8 = (.int .i64 s_l1.2) ∧ F 9 = (.int .i64 s_l2.2) ∧ F 10 = (.int .i64 s_l3.1) ∧ F 11 = (.int .i64 s_l3.2) ∧ Hp w0 [Ent.blk b29 49 #[(.int .i64 x19.1.Boats), v22, v24], Ent.own 26 S35010 v22 s_l2.1, Ent.own 26 S23 v24 x19.1.Codes, Ent.blk b17 33 #[(.int .i64 x9.Boats), (.int .i64 x9.Scheme), v12], Ent.own 75 S11 v12 x9.Races, Ent.blk b8 49 #[(.int .i64 0), (.slice none 0 0), (.slice none 0 0)], Ent.blk b6 33 #[(.int .i64 a0.Boats), (.int .i64 a0.Scheme), v1], Ent.snap w0 w0.heap.size] w) (fun o => outc o (fun x => some (.ret x)) (fun s => M.spec_l21Table_a3 x9 x19 s_l1 s_l2 s) = some t35011) ho38936 hm ⟨f35026, f35027, f35028, f35029, f35030, f35031, f35032, rfl, rfl, hL⟩ ?_ ?_
         · intro s_l3 F38937 wd38938 hJ hm
           have hm := outcE hm
           have hm : M.spec_l21Table_a3 x9 x19 s_l1 s_l2 s_l3 = some t35011 := hm
           unfold M.spec_l21Table_a3 at hm
           obtain ⟨f38939, f38940, f38941, f38942, f38943, f38944, f38945, f38946, f38947, hL⟩ := hJ
           refine CW.seqJ (fun (s_j3 : Bool) (F : Fr) (w : World) => F 1 = v3 ∧ F 2 = (.pointer (some ⟨b6, 0, none⟩)) ∧ F 4 = (.pointer (some ⟨b8, 0, none⟩)) ∧ F 5 = (.pointer (some ⟨b17, 0, none⟩)) ∧ F 6 = (.pointer (some ⟨b29, 0, none⟩)) ∧ F 8 = (.int .i64 s_l1.2) ∧ F 9 = (.int .i64 s_l2.2) ∧ F 10 = (.int .i64 s_l3.1) ∧ F 85 = (.bool s_j3) ∧ Hp w0 [Ent.blk b29 49 #[(.int .i64 x19.1.Boats), v22, v24], Ent.own 26 S35010 v22 s_l2.1, Ent.own 26 S23 v24 x19.1.Codes, Ent.blk b17 33 #[(.int .i64 x9.Boats), (.int .i64 x9.Scheme), v12], Ent.own 75 S11 v12 x9.Races, Ent.blk b8 49 #[(.int .i64 0), (.slice none 0 0), (.slice none 0 0)], Ent.blk b6 33 #[(.int .i64 a0.Boats), (.int .i64 a0.Scheme), v1], Ent.snap w0 w0.heap.size] w) (fun s_j3 => M.spec_l21Table_j3 x9 s_l1 s_l2 s_l3 s_j3 = some t35011) ?_ ?_
           · refine CW.regionL ?_
             refine OV (.int .i64 s_l3.1) rfl (x_mv f38946) ?_
             refine OV (.bool (decide (0 < s_l3.1))) rfl (x_gtr rfl rfl) ?_
             refine OV (.bool (decide (0 < s_l3.1))) rfl (x_move) ?_
             refine ifB_elim hm (fun hb39054 hm => ?_) (fun hb39054 hm => ?_)
             · refine OW.cons (OP.yes' rfl rfl hb39054 (OP.val (v := (.pointer (some ⟨b29, 2, none⟩))) rfl (x_fieldAddr (fsz := 1) 0 2 2 U49 rfl Tryz_T47 rfl f38943 rfl) ?_))
               refine OW.cons (OP.yes' rfl rfl hb39054 (OP.val (v := v24) rfl (x_load1 U47 rfl rfl (hL.cellB 0 rfl rfl)) ?_))
               refine OW.cons (OP.yes' rfl rfl hb39054 (OP.val (v := (.int .i64 s_l1.2)) rfl (x_mv f38944) ?_))
               obtain ⟨wz39055, hL, ho39056⟩ := hL.freeze 2 rfl
               simp only [lC, lD] at hL
               obtain ⟨x39057, ha39058, hm⟩ := bndE hm
               obtain ⟨hz39059, ha39067⟩ := idxE ha39058
               obtain ⟨b39060, q39061, v39062, hix39063, hs39064, hc39065, hr39066⟩ := rdN_at ho39056.1.rdL hz39059 ha39067
               refine OW.cons (OP.yes' rfl rfl hb39054 (OP.val (v := (.pointer (some ⟨b39060, q39061, none⟩))) rfl (x_ix U47 Tryz_T26 rfl rfl hix39063) ?_))
               refine OW.cons (OP.yes' rfl rfl hb39054 (OP.val (v := v39062) rfl (x_load1 U26 rfl rfl (hL.cellF 2 rfl hs39064 hc39065)) ?_))
               refine OW.cons (OP.yes' rfl rfl hb39054 (OP.val (v := (.int .i64 s_l2.2)) rfl (x_mv f38945) ?_))
               obtain ⟨x39068, ha39069, hm⟩ := bndE hm
               obtain ⟨hz39070, ha39074⟩ := idxE ha39069
               obtain ⟨b39071, q39072, hix39073⟩ := rdL_ix (hL.rdF 2 rfl hr39066) hz39070 ha39074
               refine OW.cons (OP.yes' rfl rfl hb39054 (OP.val (v := (.pointer (some ⟨b39071, q39072, none⟩))) rfl (x_ix U26 Tryz_T2 rfl rfl hix39073) ?_))
               refine OW.cons (OP.yes' rfl rfl hb39054 (OP.val (v := (.int .i64 x39068)) rfl (x_load1 U2 rfl rfl (rdF_cells (hL.rdF 2 rfl hr39066) hix39073 ha39074 0 _ rfl)) ?_))
               refine OW.cons (OP.yes' rfl rfl hb39054 (OP.val (v := (.bool (x39068 == 0))) rfl (x_eql rfl rfl) ?_))
               refine OV (.bool (x39068 == 0)) rfl (x_pickT' rfl hb39054 rfl) ?_
               refine OW.nil ?_
               have hL := hL.thaw 2 rfl ho39056
               exact ⟨x39068 == 0, hm, ⟨f38939, f38940, f38941, f38942, f38943, f38944, f38945, f38946, rfl, hL⟩⟩
             refine OW.cons (OP.no' rfl rfl hb39054 rfl ?_)
             refine OW.cons (OP.no' rfl rfl hb39054 rfl ?_)
             refine OW.cons (OP.no' rfl rfl hb39054 rfl ?_)
             refine OW.cons (OP.no' rfl rfl hb39054 rfl ?_)
             refine OW.cons (OP.no' rfl rfl hb39054 rfl ?_)
             refine OW.cons (OP.no' rfl rfl hb39054 rfl ?_)
             refine OW.cons (OP.no' rfl rfl hb39054 rfl ?_)
             refine OW.cons (OP.no' rfl rfl hb39054 rfl ?_)
             refine OW.cons (OP.no' rfl rfl hb39054 rfl ?_)
             refine OV (.bool false) rfl (x_pickF' rfl hb39054 rfl) ?_
             refine OW.nil ?_
             exact ⟨false, hm, ⟨f38939, f38940, f38941, f38942, f38943, f38944, f38945, f38946, rfl, hL⟩⟩
           intro s_j3 F38969 wd38970 hJ hm
           unfold M.spec_l21Table_j3 at hm
           obtain ⟨f38971, f38972, f38973, f38974, f38975, f38976, f38977, f38978, f38979, hL⟩ := hJ
           refine CW.condM (t := s_j3) f38979 hm (fun hb38980 hm => ?_) (fun hb38980 hm => ?_)
           · obtain ⟨wz38981, hL, ho38982⟩ := hL.freeze 1 rfl
             simp only [lC, lD] at hL
             obtain ⟨wz38983, hL, ho38984⟩ := hL.freeze 2 rfl
             simp only [lC, lD] at hL
             obtain ⟨wz38985, hL, ho38986⟩ := hL.freeze 4 rfl
             simp only [lC, lD] at hL
             refine CW.draw Tryz_mixed ?_
             have hL := hL.call (Mod.drew _)
             refine DW.pre (fuel := 1) (fin := bma 32 2147483647) (C := fun w' => Mod None_ _ w') [0, 1, 2, 3, 4, 5, 6, 7, 8, 9, 10, 11, 12, 13, 14, 15, 16, 17, 18, 19, 20, 21, 22, 23, 24, 25, 26, 27, 28, 29, 30] (Mod.refl _ _) (by kernel_rfl) (by kernel_rfl) ?_
             refine QW.cons rfl (QP.val (v := (.pointer (some ⟨b29, 1, none⟩))) rfl (fun w' hm' => x_fieldAddr (fsz := 1) 0 1 1 U49 rfl Tryz_T47 rfl f38975 rfl) ?_)
             refine QW.cons rfl (QP.val (v := v22) rfl (fun w' hm' => x_load1 U47 rfl rfl ((hL.call hm').cellB 0 rfl rfl)) ?_)
             refine QW.cons rfl (QP.val (v := (.int .i64 s_l1.2)) rfl (fun w' hm' => x_mv f38976) ?_)
             obtain ⟨x38987, ha38988, hm⟩ := bndE hm
             obtain ⟨hz38989, ha38997⟩ := idxE ha38988
             obtain ⟨b38990, q38991, v38992, hix38993, hs38994, hc38995, hr38996⟩ := rdN_at ho38982.1.rdL hz38989 ha38997
             refine QW.cons rfl (QP.val (v := (.pointer (some ⟨b38990, q38991, none⟩))) rfl (fun w' hm' => x_ix U47 Tryz_T26 rfl rfl hix38993) ?_)
             refine QW.cons rfl (QP.val (v := v38992) rfl (fun w' hm' => x_load1 U26 rfl rfl ((hL.call hm').cellF 1 rfl hs38994 hc38995)) ?_)
             refine QW.cons rfl (QP.val (v := (.int .i64 s_l2.2)) rfl (fun w' hm' => x_mv f38977) ?_)
             refine QW.cons rfl (QP.val (v := (.pointer (some ⟨b29, 1, none⟩))) rfl (fun w' hm' => x_fieldAddr (fsz := 1) 0 1 1 U49 rfl Tryz_T47 rfl f38975 rfl) ?_)
             refine QW.cons rfl (QP.val (v := v22) rfl (fun w' hm' => x_load1 U47 rfl rfl ((hL.call hm').cellB 0 rfl rfl)) ?_)
             refine QW.cons rfl (QP.val (v := (.int .i64 s_l1.2)) rfl (fun w' hm' => x_mv f38976) ?_)
             obtain ⟨x38998, ha38999, hm⟩ := bndE hm
             obtain ⟨hz39000, ha39008⟩ := idxE ha38999
             obtain ⟨b39001, q39002, v39003, hix39004, hs39005, hc39006, hr39007⟩ := rdN_at ho38982.1.rdL hz39000 ha39008
             refine QW.cons rfl (QP.val (v := (.pointer (some ⟨b39001, q39002, none⟩))) rfl (fun w' hm' => x_ix U47 Tryz_T26 rfl rfl hix39004) ?_)
             refine QW.cons rfl (QP.val (v := v39003) rfl (fun w' hm' => x_load1 U26 rfl rfl ((hL.call hm').cellF 1 rfl hs39005 hc39006)) ?_)
             refine QW.cons rfl (QP.val (v := (.int .i64 s_l2.2)) rfl (fun w' hm' => x_mv f38977) ?_)
             obtain ⟨x39009, ha39010, hm⟩ := bndE hm
             obtain ⟨hz39011, ha39015⟩ := idxE ha39010
             obtain ⟨b39012, q39013, hix39014⟩ := rdL_ix (hL.rdF 1 rfl hr39007) hz39011 ha39015
             refine QW.cons rfl (QP.val (v := (.pointer (some ⟨b39012, q39013, none⟩))) rfl (fun w' hm' => x_ix U26 Tryz_T2 rfl rfl hix39014) ?_)
             refine QW.cons rfl (QP.val (v := (.int .i64 x39009)) rfl (fun w' hm' => x_load1 U2 rfl rfl (rdF_cells ((hL.call hm').rdF 1 rfl hr39007) hix39014 ha39015 0 _ rfl)) ?_)
             refine QW.cons rfl (QP.val (v := (.pointer (some ⟨b29, 1, none⟩))) rfl (fun w' hm' => x_fieldAddr (fsz := 1) 0 1 1 U49 rfl Tryz_T47 rfl f38975 rfl) ?_)
             refine QW.cons rfl (QP.val (v := v22) rfl (fun w' hm' => x_load1 U47 rfl rfl ((hL.call hm').cellB 0 rfl rfl)) ?_)
             refine QW.cons rfl (QP.val (v := (.int .i64 s_l1.2)) rfl (fun w' hm' => x_mv f38976) ?_)
             obtain ⟨x39016, ha39017, hm⟩ := bndE hm
             obtain ⟨hz39018, ha39026⟩ := idxE ha39017
             obtain ⟨b39019, q39020, v39021, hix39022, hs39023, hc39024, hr39025⟩ := rdN_at ho38982.1.rdL hz39018 ha39026
             refine QW.cons rfl (QP.val (v := (.pointer (some ⟨b39019, q39020, none⟩))) rfl (fun w' hm' => x_ix U47 Tryz_T26 rfl rfl hix39022) ?_)
             refine QW.cons rfl (QP.val (v := v39021) rfl (fun w' hm' => x_load1 U26 rfl rfl ((hL.call hm').cellF 1 rfl hs39023 hc39024)) ?_)
             refine QW.cons rfl (QP.val (v := (.int .i64 s_l2.2)) rfl (fun w' hm' => x_mv f38977) ?_)
             obtain ⟨x39027, ha39028, hm⟩ := bndE hm
             obtain ⟨hz39029, ha39033⟩ := idxE ha39028
             obtain ⟨b39030, q39031, hix39032⟩ := rdL_ix (hL.rdF 1 rfl hr39025) hz39029 ha39033
             refine QW.cons rfl (QP.val (v := (.pointer (some ⟨b39030, q39031, none⟩))) rfl (fun w' hm' => x_ix U26 Tryz_T2 rfl rfl hix39032) ?_)
             refine QW.cons rfl (QP.val (v := (.int .i64 x39027)) rfl (fun w' hm' => x_load1 U2 rfl rfl (rdF_cells ((hL.call hm').rdF 1 rfl hr39025) hix39032 ha39033 0 _ rfl)) ?_)
             refine QW.cons rfl (QP.val (v := (.int .i64 s_l3.1)) rfl (fun w' hm' => x_mv f38978) ?_)
             refine QW.cons rfl (QP.val (v := (.int .i64 (w64 (x39027 + s_l3.1)))) rfl (fun w' hm' => x_add rfl rfl) ?_)
             refine QW.cons rfl (QP.val (v := (.agg #[(.int .i64 x9.Boats), (.int .i64 x9.Scheme), v12])) rfl (fun w' hm' => x_loadN (cs := [(.int .i64 x9.Boats), (.int .i64 x9.Scheme), v12]) U33 Tryz_T33 rfl f38974 ((hL.call hm').cellsB 3 rfl (o := 0) (l := [(.int .i64 x9.Boats), (.int .i64 x9.Scheme), v12]) (by intro j u hj; exact (by simpa using hj)))) ?_)
             refine QW.cons rfl (QP.val (v := (.int .i64 s_l1.2)) rfl (fun w' hm' => x_mv f38976) ?_)
             refine QW.cons rfl (QP.val (v := (.int .i64 s_l2.2)) rfl (fun w' hm' => x_mv f38977) ?_)
             obtain ⟨x39034, hx39035, hm⟩ := bndE hm
             refine QW.cons rfl (QP.call (v := (.int .i64 x39034)) rfl (fun w' hm' => x_call (vs := [(.agg #[(.int .i64 x9.Boats), (.int .i64 x9.Scheme), v12]), (.int .i64 s_l1.2), (.int .i64 s_l2.2)]) Tryz_C37 ⟨rfl, rfl, rfl, trivial⟩) (fun w' hm' => (M.spec_l21Worst_ok w' x9 ((hL.call hm').rdF 4 rfl ho38986.1.rdL) s_l1.2 s_l2.2 hx39035).mono (fun e w'' h => ⟨h.1, hm'.trans h.2.mod⟩)) ?_)
             refine QW.cons rfl (QP.val (v := (.int .i64 (min (w64 (x39027 + s_l3.1)) x39034))) rfl (fun w' hm' => x_min2 rfl rfl) ?_)
             refine QW.cons rfl (QP.val (v := (.int .i64 (max x39009 (min (w64 (x39027 + s_l3.1)) x39034)))) rfl (fun w' hm' => x_max2 rfl rfl) ?_)
             obtain ⟨x39036, ha39037, hm⟩ := bndE hm
             obtain ⟨hz39038, ha39042⟩ := idxE ha39037
             obtain ⟨b39039, q39040, hix39041⟩ := rdL_ix (hL.rdF 1 rfl hr38996) hz39038 ha39042
             refine QW.cons rfl (QP.val (v := (.pointer (some ⟨b39039, q39040, none⟩))) rfl (fun w' hm' => x_ix U26 Tryz_T2 rfl rfl hix39041) ?_)
             refine QW.nil ?_
             intro wd39043 hmod
             have hL := hL.call hmod
             have hc39045 := hL.cellF 1 rfl hs38994 hc38995
             have hL := hL.thaw 1 rfl ho38982
             simp only [lC, lD] at hL
             refine DW.only 31 rfl (by kernel_rfl) (S_inRowC (α := Int) (x38987.set (s_l2.2 : Int).toNat (max x39009 (min (w64 (x39027 + s_l3.1)) x39034))) (x38987.set (s_l2.2 : Int).toNat (max x39009 (min (w64 (x39027 + s_l3.1)) x39034))) rfl hL 1 rfl hix38993 ha38997 hc39045 (fun E2 S1 hL hK => S_storeX (j := 0) (max x39009 (min (w64 (x39027 + s_l3.1)) x39034)) hL 0 rfl Tryz_T2 hix39041 ha39042 rfl rfl rfl rfl rfl rfl hK) ?_)
             intro wd39044 S39046 hL hc39047 ha39048
             simp only [lC, lD] at hL
             obtain ⟨wz39049, hL, ho39050, hs39051, hc39052, hr39053⟩ := hL.freezeAt (α := Int) 1 rfl hix38993 ha39048 hc39047
             simp only [lC, lD] at hL
             refine DW.done (by kernel_rfl) ?_
             have hL := hL.thaw 1 rfl ho39050
             have hL := hL.thaw 2 rfl ho38984
             have hL := hL.thaw 4 rfl ho38986
             exact ⟨s_l2.1.set (s_l1.2 : Int).toNat (x38987.set (s_l2.2 : Int).toNat (max x39009 (min (w64 (x39027 + s_l3.1)) x39034))), hm, ⟨S39046, f38971, f38972, f38973, f38974, f38975, f38976, f38977, hL⟩⟩
           refine CW.skip ?_
           exact ⟨s_l2.1, hm, ⟨S35010, f38971, f38972, f38973, f38974, f38975, f38976, f38977, hL⟩⟩
         intro s_l3 F39075 wd39076 t38933 hJ hm hr38934
         unfold M.spec_l21Table_l3 at hm
         obtain ⟨f39077, f39078, f39079, f39080, f39081, f39082, f39083, f39084, f39085, hL⟩ := hJ
         refine CW.seq ?_
         refine CSR ?_
         refine OV (.int .i64 s_l3.2) rfl (x_mv f39085) ?_
         refine OV v3 rfl (x_mv f39077) ?_
         refine OV (.int .i64 (a1.length : Int)) rfl (x_lenR U35 rfl (hL.rdS 7 rfl h4)) ?_
         refine OV (.bool (decide (s_l3.2 < (a1.length : Int)))) rfl (x_lss rfl rfl) ?_
         refine OW.nil ?_
         refine CW.condM (t := decide (s_l3.2 < (a1.length : Int))) rfl hm (fun hb39086 hm => ?_) (fun hb39086 hm => ?_)
         · refine CW.skip ?_
           refine CW.seqJ (fun (s_j4 : Int) (F : Fr) (w : World) => F 1 = v3 ∧ F 2 = (.pointer (some ⟨b6, 0, none⟩)) ∧ F 4 = (.pointer (some ⟨b8, 0, none⟩)) ∧ F 5 = (.pointer (some ⟨b17, 0, none⟩)) ∧ F 6 = (.pointer (some ⟨b29, 0, none⟩)) ∧ F 8 = (.int .i64 s_l1.2) ∧ F 9 = (.int .i64 s_l2.2) ∧ F 10 = (.int .i64 s_j4) ∧ F 11 = (.int .i64 s_l3.2) ∧ Hp w0 [Ent.blk b29 49 #[(.int .i64 x19.1.Boats), v22, v24], Ent.own 26 S35010 v22 s_l2.1, Ent.own 26 S23 v24 x19.1.Codes, Ent.blk b17 33 #[(.int .i64 x9.Boats), (.int .i64 x9.Scheme), v12], Ent.own 75 S11 v12 x9.Races, Ent.blk b8 49 #[(.int .i64 0), (.slice none 0 0), (.slice none 0 0)], Ent.blk b6 33 #[(.int .i64 a0.Boats), (.int .i64 a0.Scheme), v1], Ent.snap w0 w0.heap.size] w) (fun s_j4 => M.spec_l21Table_j4 s_l3 s_j4 = some t38933) ?_ ?_
           · refine CW.blockJ (fun (s_j5 : Int) (F : Fr) (w : World) => F 1 = v3 ∧ F 2 = (.pointer (some ⟨b6, 0, none⟩)) ∧ F 4 = (.pointer (some ⟨b8, 0, none⟩)) ∧ F 5 = (.pointer (some ⟨b17, 0, none⟩)) ∧ F 6 = (.pointer (some ⟨b29, 0, none⟩)) ∧ F 8 = (.int .i64 s_l1.2) ∧ F 9 = (.int .i64 s_l2.2) ∧ F 10 = (.int .i64 s_j5) ∧ F 11 = (.int .i64 s_l3.2) ∧ Hp w0 [Ent.blk b29 49 #[(.int .i64 x19.1.Boats), v22, v24], Ent.own 26 S35010 v22 s_l2.1, Ent.own 26 S23 v24 x19.1.Codes, Ent.blk b17 33 #[(.int .i64 x9.Boats), (.int .i64 x9.Scheme), v12], Ent.own 75 S11 v12 x9.Races, Ent.blk b8 49 #[(.int .i64 0), (.slice none 0 0), (.slice none 0 0)], Ent.blk b6 33 #[(.int .i64 a0.Boats), (.int .i64 a0.Scheme), v1], Ent.snap w0 w0.heap.size] w) (fun s_j5 => M.spec_l21Table_j5 s_l3 s_j5 = some t38933) ?_ ?_
             · refine CW.seqJ (fun (s_j6 : Bool) (F : Fr) (w : World) => F 1 = v3 ∧ F 2 = (.pointer (some ⟨b6, 0, none⟩)) ∧ F 4 = (.pointer (some ⟨b8, 0, none⟩)) ∧ F 5 = (.pointer (some ⟨b17, 0, none⟩)) ∧ F 6 = (.pointer (some ⟨b29, 0, none⟩)) ∧ F 8 = (.int .i64 s_l1.2) ∧ F 9 = (.int .i64 s_l2.2) ∧ F 10 = (.int .i64 s_l3.1) ∧ F 11 = (.int .i64 s_l3.2) ∧ F 62 = (.bool s_j6) ∧ Hp w0 [Ent.blk b29 49 #[(.int .i64 x19.1.Boats), v22, v24], Ent.own 26 S35010 v22 s_l2.1, Ent.own 26 S23 v24 x19.1.Codes, Ent.blk b17 33 #[(.int .i64 x9.Boats), (.int .i64 x9.Scheme), v12], Ent.own 75 S11 v12 x9.Races, Ent.blk b8 49 #[(.int .i64 0), (.slice none 0 0), (.slice none 0 0)], Ent.blk b6 33 #[(.int .i64 a0.Boats), (.int .i64 a0.Scheme), v1], Ent.snap w0 w0.heap.size] w) (fun s_j6 => M.spec_l21Table_j6 a0 a1 s_l3 s_j6 = some t38933) ?_ ?_
               · refine CW.regionL ?_
                 refine OV v3 rfl (x_mv f39077) ?_
                 refine OV (.int .i64 s_l3.2) rfl (x_mv f39085) ?_
                 obtain ⟨x39373, ha39374, hm⟩ := bndE hm
                 obtain ⟨hz39375, ha39379⟩ := idxE ha39374
                 obtain ⟨b39376, q39377, hix39378⟩ := rdL_ix (hL.rdS 7 rfl h4) hz39375 ha39379
                 refine OV (.pointer (some ⟨b39376, q39377, none⟩)) rfl (x_ix U35 Tryz_T53 rfl rfl hix39378) ?_
                 refine OV (.pointer (some ⟨b39376, q39377 + 2, none⟩)) rfl (x_fieldAddr (fsz := 1) q39377 2 (q39377 + 2) U53 rfl Tryz_T2 rfl rfl rfl) ?_
                 refine OV (.int .i64 x39373.Kind) rfl (x_load1 U2 rfl rfl (rdF_cells (hL.rdS 7 rfl h4) hix39378 ha39379 2 _ rfl)) ?_
                 refine OV (.bool (x39373.Kind == 3)) rfl (x_eql rfl rfl) ?_
                 refine OV (.bool (x39373.Kind == 3)) rfl (x_move) ?_
                 refine ifB_elim hm (fun hb39380 hm => ?_) (fun hb39380 hm => ?_)
                 · refine OW.cons (OP.yes' rfl rfl hb39380 (OP.val (v := v3) rfl (x_mv f39077) ?_))
                   refine OW.cons (OP.yes' rfl rfl hb39380 (OP.val (v := (.int .i64 s_l3.2)) rfl (x_mv f39085) ?_))
                   obtain ⟨x39381, ha39382, hm⟩ := bndE hm
                   obtain ⟨hz39383, ha39387⟩ := idxE ha39382
                   obtain ⟨b39384, q39385, hix39386⟩ := rdL_ix (hL.rdS 7 rfl h4) hz39383 ha39387
                   refine OW.cons (OP.yes' rfl rfl hb39380 (OP.val (v := (.pointer (some ⟨b39384, q39385, none⟩))) rfl (x_ix U35 Tryz_T53 rfl rfl hix39386) ?_))
                   refine OW.cons (OP.yes' rfl rfl hb39380 (OP.val (v := (.pointer (some ⟨b39384, q39385, none⟩))) rfl (x_fieldAddr (fsz := 1) q39385 0 q39385 U53 rfl Tryz_T2 rfl rfl rfl) ?_))
                   refine OW.cons (OP.yes' rfl rfl hb39380 (OP.val (v := (.int .i64 x39381.Race)) rfl (x_load1 U2 rfl rfl (rdF_cells (hL.rdS 7 rfl h4) hix39386 ha39387 0 _ rfl)) ?_))
                   refine OW.cons (OP.yes' rfl rfl hb39380 (OP.val (v := (.int .i64 s_l1.2)) rfl (x_mv f39082) ?_))
                   refine OW.cons (OP.yes' rfl rfl hb39380 (OP.val (v := (.bool (x39381.Race == s_l1.2))) rfl (x_eql rfl rfl) ?_))
                   refine OV (.bool (x39381.Race == s_l1.2)) rfl (x_pickT' rfl hb39380 rfl) ?_
                   refine OV (.bool (x39381.Race == s_l1.2)) rfl (x_move) ?_
                   refine ifB_elim hm (fun hb39388 hm => ?_) (fun hb39388 hm => ?_)
                   · refine OW.cons (OP.yes' rfl rfl hb39388 (OP.val (v := v3) rfl (x_mv f39077) ?_))
                     refine OW.cons (OP.yes' rfl rfl hb39388 (OP.val (v := (.int .i64 s_l3.2)) rfl (x_mv f39085) ?_))
                     obtain ⟨x39389, ha39390, hm⟩ := bndE hm
                     obtain ⟨hz39391, ha39395⟩ := idxE ha39390
                     obtain ⟨b39392, q39393, hix39394⟩ := rdL_ix (hL.rdS 7 rfl h4) hz39391 ha39395
                     refine OW.cons (OP.yes' rfl rfl hb39388 (OP.val (v := (.pointer (some ⟨b39392, q39393, none⟩))) rfl (x_ix U35 Tryz_T53 rfl rfl hix39394) ?_))
                     refine OW.cons (OP.yes' rfl rfl hb39388 (OP.val (v := (.pointer (some ⟨b39392, q39393 + 1, none⟩))) rfl (x_fieldAddr (fsz := 1) q39393 1 (q39393 + 1) U53 rfl Tryz_T2 rfl rfl rfl) ?_))
                     refine OW.cons (OP.yes' rfl rfl hb39388 (OP.val (v := (.int .i64 x39389.Boat)) rfl (x_load1 U2 rfl rfl (rdF_cells (hL.rdS 7 rfl h4) hix39394 ha39395 1 _ rfl)) ?_))
                     refine OW.cons (OP.yes' rfl rfl hb39388 (OP.val (v := (.int .i64 s_l2.2)) rfl (x_mv f39083) ?_))
                     refine OW.cons (OP.yes' rfl rfl hb39388 (OP.val (v := (.bool (x39389.Boat == s_l2.2))) rfl (x_eql rfl rfl) ?_))
                     refine OV (.bool (x39389.Boat == s_l2.2)) rfl (x_pickT' rfl hb39388 rfl) ?_
                     refine OW.nil ?_
                     exact ⟨x39389.Boat == s_l2.2, hm, ⟨f39077, f39078, f39079, f39080, f39081, f39082, f39083, f39084, f39085, rfl, hL⟩⟩
                   refine OW.cons (OP.no' rfl rfl hb39388 rfl ?_)
                   refine OW.cons (OP.no' rfl rfl hb39388 rfl ?_)
                   refine OW.cons (OP.no' rfl rfl hb39388 rfl ?_)
                   refine OW.cons (OP.no' rfl rfl hb39388 rfl ?_)
                   refine OW.cons (OP.no' rfl rfl hb39388 rfl ?_)
                   refine OW.cons (OP.no' rfl rfl hb39388 rfl ?_)
                   refine OW.cons (OP.no' rfl rfl hb39388 rfl ?_)
                   refine OV (.bool false) rfl (x_pickF' rfl hb39388 rfl) ?_
                   refine OW.nil ?_
                   exact ⟨false, hm, ⟨f39077, f39078, f39079, f39080, f39081, f39082, f39083, f39084, f39085, rfl, hL⟩⟩
                 refine OW.cons (OP.no' rfl rfl hb39380 rfl ?_)
                 refine OW.cons (OP.no' rfl rfl hb39380 rfl ?_)
                 refine OW.cons (OP.no' rfl rfl hb39380 rfl ?_)
                 refine OW.cons (OP.no' rfl rfl hb39380 rfl ?_)
                 refine OW.cons (OP.no' rfl rfl hb39380 rfl ?_)
                 refine OW.cons (OP.no' rfl rfl hb39380 rfl ?_)
                 refine OW.cons (OP.no' rfl rfl hb39380 rfl ?_)
                 refine OV (.bool false) rfl (x_pickF' rfl hb39380 rfl) ?_
                 refine OV (.bool false) rfl (x_move) ?_
                 refine OW.cons (OP.no' rfl rfl rfl rfl ?_)
                 refine OW.cons (OP.no' rfl rfl rfl rfl ?_)
                 refine OW.cons (OP.no' rfl rfl rfl rfl ?_)
                 refine OW.cons (OP.no' rfl rfl rfl rfl ?_)
                 refine OW.cons (OP.no' rfl rfl rfl rfl ?_)
                 refine OW.cons (OP.no' rfl rfl rfl rfl ?_)
                 refine OW.cons (OP.no' rfl rfl rfl rfl ?_)
                 refine OV (.bool false) rfl (x_pickF' rfl rfl rfl) ?_
                 refine OW.nil ?_
                 exact ⟨false, hm, ⟨f39077, f39078, f39079, f39080, f39081, f39082, f39083, f39084, f39085, rfl, hL⟩⟩
               intro s_j6 F39350 wd39351 hJ hm
               unfold M.spec_l21Table_j6 at hm
               obtain ⟨f39352, f39353, f39354, f39355, f39356, f39357, f39358, f39359, f39360, f39361, hL⟩ := hJ
               refine CW.condM (t := s_j6) f39361 hm (fun hb39362 hm => ?_) (fun hb39362 hm => ?_)
               · refine CW.draw Tryz_mixed ?_
                 have hL := hL.call (Mod.drew _)
                 refine DW.pre (fuel := 0) (fin := bma 11 2047) (C := fun w' => Mod None_ _ w') [0, 1, 2, 3, 4, 5, 6, 7, 8, 9, 10] (Mod.refl _ _) (by kernel_rfl) (by kernel_rfl) ?_
                 refine QW.cons rfl (QP.val (v := (.int .i64 s_l3.1)) rfl (fun w' hm' => x_mv f39359) ?_)
                 refine QW.cons rfl (QP.val (v := (.pointer (some ⟨b6, 0, none⟩))) rfl (fun w' hm' => x_fieldAddr (fsz := 1) 0 0 0 U33 rfl Tryz_T2 rfl f39353 rfl) ?_)
                 refine QW.cons rfl (QP.val (v := (.int .i64 a0.Boats)) rfl (fun w' hm' => x_load1 U2 rfl rfl ((hL.call hm').cellB 6 rfl rfl)) ?_)
                 refine QW.cons rfl (QP.val (v := v3) rfl (fun w' hm' => x_mv f39352) ?_)
                 refine QW.cons rfl (QP.val (v := (.int .i64 s_l3.2)) rfl (fun w' hm' => x_mv f39360) ?_)
                 obtain ⟨x39363, ha39364, hm⟩ := bndE hm
                 obtain ⟨hz39365, ha39369⟩ := idxE ha39364
                 obtain ⟨b39366, q39367, hix39368⟩ := rdL_ix (hL.rdS 7 rfl h4) hz39365 ha39369
                 refine QW.cons rfl (QP.val (v := (.pointer (some ⟨b39366, q39367, none⟩))) rfl (fun w' hm' => x_ix U35 Tryz_T53 rfl rfl hix39368) ?_)
                 refine QW.cons rfl (QP.val (v := (.pointer (some ⟨b39366, q39367 + 3, none⟩))) rfl (fun w' hm' => x_fieldAddr (fsz := 1) q39367 3 (q39367 + 3) U53 rfl Tryz_T2 rfl rfl rfl) ?_)
                 refine QW.cons rfl (QP.val (v := (.int .i64 x39363.Value)) rfl (fun w' hm' => x_load1 U2 rfl rfl (rdF_cells ((hL.call hm').rdS 7 rfl h4) hix39368 ha39369 3 _ rfl)) ?_)
                 obtain ⟨x39370, hx39371, hm⟩ := bndE hm
                 refine QW.cons rfl (QP.call (v := (.int .i64 x39370)) rfl (fun w' hm' => x_call (vs := [(.int .i64 a0.Boats), (.int .i64 x39363.Value)]) Tryz_C36 ⟨rfl, rfl, trivial⟩) (fun w' hm' => (M.spec_l21Percent_ok w' a0.Boats x39363.Value hx39371).mono (fun e w'' h => ⟨h.1, hm'.trans h.2.mod⟩)) ?_)
                 refine QW.cons rfl (QP.val (v := (.int .i64 (w64 (s_l3.1 + x39370)))) rfl (fun w' hm' => x_add rfl rfl) ?_)
                 refine QW.cons rfl (QP.val (v := (.int .i64 (w64 (s_l3.1 + x39370)))) rfl (fun w' hm' => x_assign) ?_)
                 refine QW.nil ?_
                 intro wd39372 hmod
                 have hL := hL.call hmod
                 refine DW.done (by kernel_rfl) ?_
                 exact ⟨w64 (s_l3.1 + x39370), hm, ⟨f39352, f39353, f39354, f39355, f39356, f39357, f39358, rfl, f39360, hL⟩⟩
               refine CW.skip ?_
               exact ⟨s_l3.1, hm, ⟨f39352, f39353, f39354, f39355, f39356, f39357, f39358, f39359, f39360, hL⟩⟩
             intro s_j5 F39316 wd39317 hJ hm
             unfold M.spec_l21Table_j5 at hm
             obtain ⟨f39318, f39319, f39320, f39321, f39322, f39323, f39324, f39325, f39326, hL⟩ := hJ
             exact ⟨s_j5, hm, ⟨f39318, f39319, f39320, f39321, f39322, f39323, f39324, f39325, f39326, hL⟩⟩
           intro s_j4 F39236 wd39237 hJ hm
           unfold M.spec_l21Table_j4 at hm
           obtain ⟨f39238, f39239, f39240, f39241, f39242, f39243, f39244, f39245, f39246, hL⟩ := hJ
           refine CW.regionL ?_
           refine OV (.int .i64 s_l3.2) rfl (x_mv f39246) ?_
           refine OV (.int .i64 (w64 (s_l3.2 + 1))) rfl (x_add rfl rfl) ?_
           refine OV (.int .i64 (w64 (s_l3.2 + 1))) rfl (x_assign) ?_
           refine OW.nil ?_
           obtain rfl := Option.some.inj hm
           exact ⟨_, rfl, ⟨f39238, f39239, f39240, f39241, f39242, f39243, f39244, f39245, rfl, hL⟩⟩
         refine CW.exit ?_
         refine XJ.hit ?_
         obtain rfl := Option.some.inj hm
         exact ⟨_, rfl, ⟨f39077, f39078, f39079, f39080, f39081, f39082, f39083, f39084, f39085, hL⟩⟩
       intro s_j2 F38304 wd38305 hJ hm
       unfold M.spec_l21Table_j2 at hm
       obtain ⟨S38303, f38306, f38307, f38308, f38309, f38310, f38311, f38312, hL⟩ := hJ
       exact ⟨s_j2, hm, ⟨S38303, f38306, f38307, f38308, f38309, f38310, f38311, f38312, hL⟩⟩
     intro s_j1 F37211 wd37212 hJ hm
     unfold M.spec_l21Table_j1 at hm
     obtain ⟨S37210, f37213, f37214, f37215, f37216, f37217, f37218, f37219, hL⟩ := hJ
     refine CW.regionL ?_
     refine OV (.int .i64 s_l2.2) rfl (x_mv f37219) ?_
     refine OV (.int .i64 (w64 (s_l2.2 + 1))) rfl (x_add rfl rfl) ?_
     refine OV (.int .i64 (w64 (s_l2.2 + 1))) rfl (x_assign) ?_
     refine OW.nil ?_
     obtain rfl := Option.some.inj hm
     exact ⟨_, rfl, ⟨S37210, f37213, f37214, f37215, f37216, f37217, f37218, rfl, hL⟩⟩
   refine CW.exit ?_
   refine XJ.hit ?_
   obtain rfl := Option.some.inj hm
   exact ⟨_, rfl, ⟨S35010, f35026, f35027, f35028, f35029, f35030, f35031, f35032, hL⟩⟩
 refine CW.exit ?_
 refine XJ.hit ?_
 obtain rfl := Option.some.inj hm
 exact ⟨_, rfl, ⟨S26260, f26276, f26277, f26278, f26279, f26280, f26281, hL⟩⟩

theorem M.spec_l27Count_ok (w0 : World) (a0 : List Int) {v1 : Value} (h2 : rdL (· < w0.heap.size) w0 v1 a0) (a1 : Int) {r : Int} (hm : M.spec_l27Count a0 a1 = some r) :
    Calls Tryz.prog 78 #[v1, (.int .i64 a1)] w0 fun e w' => e = .returned (.int .i64 r) ∧ Fresh w0 w' [] := by
 unfold M.spec_l27Count at hm
 refine calls_CW (args := [v1, (.int .i64 a1)]) Tryz.func78 rfl rfl rfl ?_
 have hL := Hp.start w0
 refine CSR ?_
 refine OV (.int .i64 0) rfl (x_assign) ?_
 refine ONR ?_
 refine OV (.int .i64 0) rfl (x_assign) ?_
 refine ONS ?_
 refine CSR ?_
 refine OV (.int .i64 0) rfl (x_assign) ?_
 refine OW.nil ?_
 obtain ⟨o107, ho108, hm⟩ := bndE hm
 refine CW.loopB (fun (s_l1 : Int × Int) (F : Fr) (w : World) => F 0 = v1 ∧ F 1 = (.int .i64 a1) ∧ F 5 = (.int .i64 s_l1.1) ∧ F 6 = (.int .i64 s_l1.2) ∧ Hp w0 [Ent.snap w0 w0.heap.size] w) (fun o => outc o (fun x => some x) (fun s => M.spec_l27Count_a1 s) = some r) ho108 hm ⟨rfl, rfl, rfl, rfl, hL⟩ ?_ ?_
 · intro s_l1 F109 wd110 hJ hm
   have hm := outcE hm
   have hm : M.spec_l27Count_a1 s_l1 = some r := hm
   unfold M.spec_l27Count_a1 at hm
   obtain ⟨f111, f112, f113, f114, hL⟩ := hJ
   refine CSR ?_
   refine OV (.int .i64 s_l1.1) rfl (x_mv f113) ?_
   refine OV (.int .i64 s_l1.1) rfl (x_assign) ?_
   refine OW.nil ?_
   refine CW.ret ?_
   obtain rfl := Option.some.inj hm
   exact RR1 rfl rfl ⟨rfl, hL.fresh 0 rfl [] (by decide) (by decide) rfl⟩
 intro s_l1 F115 wd116 t105 hJ hm hr106
 unfold M.spec_l27Count_l1 at hm
 obtain ⟨f117, f118, f119, f120, hL⟩ := hJ
 refine CW.seq ?_
 refine CSR ?_
 refine OV (.int .i64 s_l1.2) rfl (x_mv f120) ?_
 refine OV v1 rfl (x_mv f117) ?_
 refine OV (.int .i64 (a0.length : Int)) rfl (x_lenR U26 rfl (hL.rdS 0 rfl h2)) ?_
 refine OV (.bool (decide (s_l1.2 < (a0.length : Int)))) rfl (x_lss rfl rfl) ?_
 refine OW.nil ?_
 refine CW.condM (t := decide (s_l1.2 < (a0.length : Int))) rfl hm (fun hb121 hm => ?_) (fun hb121 hm => ?_)
 · refine CW.skip ?_
   refine CW.seqJ (fun (s_j1 : Int) (F : Fr) (w : World) => F 0 = v1 ∧ F 1 = (.int .i64 a1) ∧ F 5 = (.int .i64 s_j1) ∧ F 6 = (.int .i64 s_l1.2) ∧ Hp w0 [Ent.snap w0 w0.heap.size] w) (fun s_j1 => M.spec_l27Count_j1 s_l1 s_j1 = some t105) ?_ ?_
   · refine CW.blockJ (fun (s_j2 : Int) (F : Fr) (w : World) => F 0 = v1 ∧ F 1 = (.int .i64 a1) ∧ F 5 = (.int .i64 s_j2) ∧ F 6 = (.int .i64 s_l1.2) ∧ Hp w0 [Ent.snap w0 w0.heap.size] w) (fun s_j2 => M.spec_l27Count_j2 s_l1 s_j2 = some t105) ?_ ?_
     · refine CSR ?_
       refine OV v1 rfl (x_mv f117) ?_
       refine OV (.int .i64 s_l1.2) rfl (x_mv f120) ?_
       obtain ⟨x164, ha165, hm⟩ := bndE hm
       obtain ⟨hz166, ha170⟩ := idxE ha165
       obtain ⟨b167, q168, hix169⟩ := rdL_ix (hL.rdS 0 rfl h2) hz166 ha170
       refine OV (.pointer (some ⟨b167, q168, none⟩)) rfl (x_ix U26 Tryz_T2 rfl rfl hix169) ?_
       refine OV (.int .i64 x164) rfl (x_load1 U2 rfl rfl (rdF_cells (hL.rdS 0 rfl h2) hix169 ha170 0 _ rfl)) ?_
       refine OV (.int .i64 a1) rfl (x_mv f118) ?_
       refine OV (.bool (decide (x164 ≤ a1))) rfl (x_leq rfl rfl) ?_
       refine OW.nil ?_
       refine CW.condM (t := decide (x164 ≤ a1)) rfl hm (fun hb171 hm => ?_) (fun hb171 hm => ?_)
       · refine CW.regionL ?_
         refine OV (.int .i64 s_l1.1) rfl (x_mv f119) ?_
         refine OV (.int .i64 (w64 (s_l1.1 + 1))) rfl (x_add rfl rfl) ?_
         refine OV (.int .i64 (w64 (s_l1.1 + 1))) rfl (x_assign) ?_
         refine OW.nil ?_
         exact ⟨w64 (s_l1.1 + 1), hm, ⟨f117, f118, rfl, f120, hL⟩⟩
       refine CW.skip ?_
       exact ⟨s_l1.1, hm, ⟨f117, f118, f119, f120, hL⟩⟩
     intro s_j2 F158 wd159 hJ hm
     unfold M.spec_l27Count_j2 at hm
     obtain ⟨f160, f161, f162, f163, hL⟩ := hJ
     exact ⟨s_j2, hm, ⟨f160, f161, f162, f163, hL⟩⟩
   intro s_j1 F144 wd145 hJ hm
   unfold M.spec_l27Count_j1 at hm
   obtain ⟨f146, f147, f148, f149, hL⟩ := hJ
   refine CW.regionL ?_
   refine OV (.int .i64 s_l1.2) rfl (x_mv f149) ?_
   refine OV (.int .i64 (w64 (s_l1.2 + 1))) rfl (x_add rfl rfl) ?_
   refine OV (.int .i64 (w64 (s_l1.2 + 1))) rfl (x_assign) ?_
   refine OW.nil ?_
   obtain rfl := Option.some.inj hm
   exact ⟨_, rfl, ⟨f146, f147, f148, rfl, hL⟩⟩
 refine CW.exit ?_
 refine XJ.hit ?_
 obtain rfl := Option.some.inj hm
 exact ⟨_, rfl, ⟨f117, f118, f119, f120, hL⟩⟩

theorem M.spec_l27Out_ok (w0 : World) (a0 : Table) {v1 : Value} {v3 : Value} (h2 : rdL (· < w0.heap.size) w0 v1 a0.Points) (h4 : rdL (· < w0.heap.size) w0 v3 a0.Codes) (a1 : List Int) {v5 : Value} (h6 : rdL (· < w0.heap.size) w0 v5 a1) (a2 : Int) {r : (List Bool)} (hm : M.spec_l27Out a0 a1 a2 = some r) :
    Calls Tryz.prog 68 #[(.agg #[(.int .i64 a0.Boats), v1, v3]), v5, (.int .i64 a2)] w0 fun e w' => ∃ (rv0 : Value) (rS0 : Nat → Prop), e = .returned rv0 ∧ Fresh w0 w' [Ent.own 4 rS0 rv0 r] := by
 unfold M.spec_l27Out at hm
 refine calls_CW (args := [(.agg #[(.int .i64 a0.Boats), v1, v3]), v5, (.int .i64 a2)]) Tryz.func68 rfl rfl rfl ?_
 have hL := Hp.start w0
 refine CSR ?_
 refine OW.cons (S_box (cs := #[(.int .i64 a0.Boats), v1, v3]) hL rfl rfl rfl ?_)
 intro wd7 b8 hL
 refine OV (.slice none 0 0) rfl (x_assign) ?_
 refine ONR ?_
 refine OV (.pointer (some ⟨b8, 1, none⟩)) rfl (x_fieldAddr (fsz := 1) 0 1 1 U49 rfl Tryz_T47 rfl rfl rfl) ?_
 refine OV v1 rfl (x_load1 U47 rfl rfl (hL.cellB 0 rfl rfl)) ?_
 refine OV (.int .i64 (a0.Points.length : Int)) rfl (x_lenR U47 rfl (hL.rdS 1 rfl h2)) ?_
 obtain ⟨hc12, hm⟩ := chkE hm
 refine OW.cons (S_make (α := Bool) false hL U100 Tryz_T4 rfl rfl rfl hc12 (by decide) rfl ?_)
 intro wd9 v10 S11 hL
 refine OV v10 rfl (x_assign) ?_
 refine ONS ?_
 refine CSR ?_
 refine OV v5 rfl (x_move) ?_
 refine OV (.pointer (some ⟨b8, 1, none⟩)) rfl (x_fieldAddr (fsz := 1) 0 1 1 U49 rfl Tryz_T47 rfl rfl rfl) ?_
 refine OV v1 rfl (x_load1 U47 rfl rfl (hL.cellB 1 rfl rfl)) ?_
 refine OV (.int .i64 (a0.Points.length : Int)) rfl (x_lenR U47 rfl (hL.rdS 2 rfl h2)) ?_
 obtain ⟨x13, hx14, hm⟩ := bndE hm
 refine OW.cons (OP.call rfl (x_call (vs := [v5, (.int .i64 (a0.Points.length : Int))]) Tryz_C78 ⟨rfl, rfl, trivial⟩) (M.spec_l27Count_ok _ a1 (hL.rdS 2 rfl h6) (a0.Points.length : Int) hx14) ?_)
 rintro e15 wd16 ⟨rfl, hF17⟩
 refine ⟨_, rfl, ?_⟩
 have hL := hL.pushAll hF17
 simp only [lA, lB, lC, lD] at hL
 refine OV (.int .i64 x13) rfl (x_assign) ?_
 refine OW.nil ?_
 obtain ⟨o14914, ho14915, hm⟩ := bndE hm
 refine CW.loopB (fun (s_l1 : (List Bool) × Int) (F : Fr) (w : World) => ∃ (S14911 : Nat → Prop), F 2 = (.int .i64 a2) ∧ F 3 = (.pointer (some ⟨b8, 0, none⟩)) ∧ F 7 = v10 ∧ F 8 = (.int .i64 s_l1.2) ∧ Hp w0 [Ent.own 4 S14911 v10 s_l1.1, Ent.blk b8 49 #[(.int .i64 a0.Boats), v1, v3], Ent.snap w0 w0.heap.size] w) (fun o => outc o (fun x => some x) (fun s => M.spec_l27Out_a1 s) = some r) ho14915 hm ⟨S11, rfl, rfl, rfl, rfl, hL⟩ ?_ ?_
 · intro s_l1 F14916 wd14917 hJ hm
   have hm := outcE hm
   have hm : M.spec_l27Out_a1 s_l1 = some r := hm
   unfold M.spec_l27Out_a1 at hm
   obtain ⟨S14911, f14918, f14919, f14920, f14921, hL⟩ := hJ
   refine CSR ?_
   refine OV v10 rfl (x_mv f14920) ?_
   refine OV v10 rfl (x_assign) ?_
   refine OW.nil ?_
   refine CW.ret ?_
   obtain rfl := Option.some.inj hm
   exact RR1 rfl rfl ⟨v10, S14911, rfl, hL.fresh 2 rfl [0] (by decide) (by decide) rfl⟩
 intro s_l1 F14922 wd14923 t14912 hJ hm hr14913
 unfold M.spec_l27Out_l1 at hm
 obtain ⟨S14911, f14924, f14925, f14926, f14927, hL⟩ := hJ
 refine CW.seq ?_
 refine CSR ?_
 refine OV (.int .i64 s_l1.2) rfl (x_mv f14927) ?_
 refine OV (.bool (decide (0 < s_l1.2))) rfl (x_gtr rfl rfl) ?_
 refine OW.nil ?_
 refine CW.condM (t := decide (0 < s_l1.2)) rfl hm (fun hb14928 hm => ?_) (fun hb14928 hm => ?_)
 · refine CW.skip ?_
   refine CW.seqJ (fun (s_j1 : (List Bool)) (F : Fr) (w : World) => ∃ (S18648 : Nat → Prop), F 2 = (.int .i64 a2) ∧ F 3 = (.pointer (some ⟨b8, 0, none⟩)) ∧ F 7 = v10 ∧ F 8 = (.int .i64 s_l1.2) ∧ Hp w0 [Ent.own 4 S18648 v10 s_j1, Ent.blk b8 49 #[(.int .i64 a0.Boats), v1, v3], Ent.snap w0 w0.heap.size] w) (fun s_j1 => M.spec_l27Out_j1 s_l1 s_j1 = some t14912) ?_ ?_
   · refine CW.blockJ (fun (s_j2 : (List Bool)) (F : Fr) (w : World) => ∃ (S20511 : Nat → Prop), F 2 = (.int .i64 a2) ∧ F 3 = (.pointer (some ⟨b8, 0, none⟩)) ∧ F 7 = v10 ∧ F 8 = (.int .i64 s_l1.2) ∧ Hp w0 [Ent.own 4 S20511 v10 s_j2, Ent.blk b8 49 #[(.int .i64 a0.Boats), v1, v3], Ent.snap w0 w0.heap.size] w) (fun s_j2 => M.spec_l27Out_j2 s_l1 s_j2 = some t14912) ?_ ?_
     · refine CSR ?_
       refine OV (.int .i64 (-1)) rfl (x_assign) ?_
       refine ONS ?_
       refine CSR ?_
       refine OV (.int .i64 0) rfl (x_assign) ?_
       refine OW.nil ?_
       obtain ⟨o21738, ho21739, hm⟩ := bndE hm
       refine CW.loopB (fun (s_l2 : Int × Int) (F : Fr) (w : World) => F 2 = (.int .i64 a2) ∧ F 3 = (.pointer (some ⟨b8, 0, none⟩)) ∧ F 7 = v10 ∧ F 8 = (.int .i64 s_l1.2) ∧ F 9 = (.int .i64 s_l2.1) ∧ F 10 = (.int .i64 s_l2.2) ∧ Hp w0 [Ent.own 4 S14911 v10 s_l1.1, Ent.blk b8 49 #[(.int .i64 a0.Boats), v1, v3], Ent.snap w0 w0.heap.size] w) (fun o => outc o (fun x => some (.ret x)) (fun s => M.spec_l27Out_a2 s_l1 s) = some t14912) ho21739 hm ⟨f14924, f14925, f14926, f14927, rfl, rfl, hL⟩ ?_ ?_
       · intro s_l2 F21740 wd21741 hJ hm
         have hm := outcE hm
         have hm : M.spec_l27Out_a2 s_l1 s_l2 = some t14912 := hm
         unfold M.spec_l27Out_a2 at hm
         obtain ⟨f21742, f21743, f21744, f21745, f21746, f21747, hL⟩ := hJ
         refine CSR ?_
         refine OV (.int .i64 s_l2.1) rfl (x_mv f21746) ?_
         refine OV (.bool (decide (0 ≤ s_l2.1))) rfl (x_geq rfl rfl) ?_
         refine OW.nil ?_
         refine CW.condM (t := decide (0 ≤ s_l2.1)) rfl hm (fun hb21748 hm => ?_) (fun hb21748 hm => ?_)
         · refine CW.regionL ?_
           refine OV v10 rfl (x_mv f21744) ?_
           refine OV (.int .i64 s_l2.1) rfl (x_mv f21746) ?_
           obtain ⟨x21749, ha21750, hm⟩ := bndE hm
           obtain ⟨hz21751, ha21755⟩ := idxE ha21750
           obtain ⟨b21752, q21753, hix21754⟩ := rdL_ix (hL.rdO 0 rfl) hz21751 ha21755
           refine OV (.pointer (some ⟨b21752, q21753, none⟩)) rfl (x_ix U100 Tryz_T4 rfl rfl hix21754) ?_
           refine OW.cons (S_storeX (j := 0) true hL 0 rfl Tryz_T4 hix21754 ha21755 rfl rfl rfl rfl rfl rfl ?_)
           intro wd21756 hL
           refine OW.nil ?_
           exact ⟨s_l1.1.set (s_l2.1 : Int).toNat true, hm, ⟨S14911, f21742, f21743, f21744, f21745, hL⟩⟩
         refine CW.skip ?_
         exact ⟨s_l1.1, hm, ⟨S14911, f21742, f21743, f21744, f21745, hL⟩⟩
       intro s_l2 F21757 wd21758 t21736 hJ hm hr21737
       unfold M.spec_l27Out_l2 at hm
       obtain ⟨f21759, f21760, f21761, f21762, f21763, f21764, hL⟩ := hJ
       refine CW.seq ?_
       refine CSR ?_
       refine OV (.int .i64 s_l2.2) rfl (x_mv f21764) ?_
       refine OV v10 rfl (x_mv f21761) ?_
       refine OV (.int .i64 (s_l1.1.length : Int)) rfl (x_lenR U100 rfl (hL.rdO 0 rfl)) ?_
       refine OV (.bool (decide (s_l2.2 < (s_l1.1.length : Int)))) rfl (x_lss rfl rfl) ?_
       refine OW.nil ?_
       refine CW.condM (t := decide (s_l2.2 < (s_l1.1.length : Int))) rfl hm (fun hb21765 hm => ?_) (fun hb21765 hm => ?_)
       · refine CW.skip ?_
         refine CW.seqJ (fun (s_j3 : Int) (F : Fr) (w : World) => F 2 = (.int .i64 a2) ∧ F 3 = (.pointer (some ⟨b8, 0, none⟩)) ∧ F 7 = v10 ∧ F 8 = (.int .i64 s_l1.2) ∧ F 9 = (.int .i64 s_j3) ∧ F 10 = (.int .i64 s_l2.2) ∧ Hp w0 [Ent.own 4 S14911 v10 s_l1.1, Ent.blk b8 49 #[(.int .i64 a0.Boats), v1, v3], Ent.snap w0 w0.heap.size] w) (fun s_j3 => M.spec_l27Out_j3 s_l2 s_j3 = some t21736) ?_ ?_
         · refine CW.blockJ (fun (s_j4 : Int) (F : Fr) (w : World) => F 2 = (.int .i64 a2) ∧ F 3 = (.pointer (some ⟨b8, 0, none⟩)) ∧ F 7 = v10 ∧ F 8 = (.int .i64 s_l1.2) ∧ F 9 = (.int .i64 s_j4) ∧ F 10 = (.int .i64 s_l2.2) ∧ Hp w0 [Ent.own 4 S14911 v10 s_l1.1, Ent.blk b8 49 #[(.int .i64 a0.Boats), v1, v3], Ent.snap w0 w0.heap.size] w) (fun s_j4 => M.spec_l27Out_j4 s_l2 s_j4 = some t21736) ?_ ?_
           · refine CW.seqJ (fun (s_j5 : Bool) (F : Fr) (w : World) => F 2 = (.int .i64 a2) ∧ F 3 = (.pointer (some ⟨b8, 0, none⟩)) ∧ F 7 = v10 ∧ F 8 = (.int .i64 s_l1.2) ∧ F 9 = (.int .i64 s_l2.1) ∧ F 10 = (.int .i64 s_l2.2) ∧ F 68 = (.bool s_j5) ∧ Hp w0 [Ent.own 4 S14911 v10 s_l1.1, Ent.blk b8 49 #[(.int .i64 a0.Boats), v1, v3], Ent.snap w0 w0.heap.size] w) (fun s_j5 => M.spec_l27Out_j5 s_l2 s_j5 = some t21736) ?_ ?_
             · refine CW.draw Tryz_mixed ?_
               have hL := hL.call (Mod.drew _)
               refine DW.pre (fuel := 0) (fin := bma 39 549755813887) (C := fun w' => Mod None_ _ w') [0, 1, 2, 3, 4, 5, 6, 7, 8, 9, 10, 11, 12, 13, 14, 15, 16, 17, 18, 19, 20, 21, 22, 23, 24, 25, 26, 27, 28, 29, 30, 31, 32, 33, 34, 35, 36, 37, 38] (Mod.refl _ _) (by kernel_rfl) (by kernel_rfl) ?_
               refine QW.cons rfl (QP.val (v := v10) rfl (fun w' hm' => x_mv f21761) ?_)
               refine QW.cons rfl (QP.val (v := (.int .i64 s_l2.2)) rfl (fun w' hm' => x_mv f21764) ?_)
               obtain ⟨x22306, ha22307, hm⟩ := bndE hm
               obtain ⟨hz22308, ha22312⟩ := idxE ha22307
               obtain ⟨b22309, q22310, hix22311⟩ := rdL_ix (hL.rdO 0 rfl) hz22308 ha22312
               refine QW.cons rfl (QP.val (v := (.pointer (some ⟨b22309, q22310, none⟩))) rfl (fun w' hm' => x_ix U100 Tryz_T4 rfl rfl hix22311) ?_)
               refine QW.cons rfl (QP.val (v := (.bool x22306)) rfl (fun w' hm' => x_load1 U4 rfl rfl (rdF_cells ((hL.call hm').rdO 0 rfl) hix22311 ha22312 0 _ rfl)) ?_)
               refine QW.cons rfl (QP.val (v := (.bool (!x22306))) rfl (fun w' hm' => x_not rfl) ?_)
               refine QW.cons rfl (QP.val (v := (.bool (!x22306))) rfl (fun w' hm' => x_move) ?_)
               refine ifB_elim hm (fun hb22313 hm => ?_) (fun hb22313 hm => ?_)
               · refine QW.cons rfl (QP.yes' rfl rfl hb22313 (QP.val (v := (.pointer (some ⟨b8, 2, none⟩))) rfl (fun w' hm' => x_fieldAddr (fsz := 1) 0 2 2 U49 rfl Tryz_T47 rfl f21760 rfl) ?_))
                 refine QW.cons rfl (QP.yes' rfl rfl hb22313 (QP.val (v := v3) rfl (fun w' hm' => x_load1 U47 rfl rfl ((hL.call hm').cellB 1 rfl rfl)) ?_))
                 refine QW.cons rfl (QP.yes' rfl rfl hb22313 (QP.val (v := (.int .i64 s_l2.2)) rfl (fun w' hm' => x_mv f21764) ?_))
                 obtain ⟨x22314, ha22315, hm⟩ := bndE hm
                 obtain ⟨hz22316, ha22324⟩ := idxE ha22315
                 obtain ⟨b22317, q22318, v22319, hix22320, hs22321, hc22322, hr22323⟩ := rdN_at h4 hz22316 ha22324
                 refine QW.cons rfl (QP.yes' rfl rfl hb22313 (QP.val (v := (.pointer (some ⟨b22317, q22318, none⟩))) rfl (fun w' hm' => x_ix U47 Tryz_T26 rfl rfl hix22320) ?_))
                 refine QW.cons rfl (QP.yes' rfl rfl hb22313 (QP.val (v := v22319) rfl (fun w' hm' => x_load1 U26 rfl rfl ((hL.call hm').cellS 2 rfl hs22321 hc22322)) ?_))
                 refine QW.cons rfl (QP.yes' rfl rfl hb22313 (QP.val (v := (.int .i64 a2)) rfl (fun w' hm' => x_mv f21759) ?_))
                 obtain ⟨x22325, ha22326, hm⟩ := bndE hm
                 obtain ⟨hz22327, ha22331⟩ := idxE ha22326
                 obtain ⟨b22328, q22329, hix22330⟩ := rdL_ix (hL.rdS 2 rfl hr22323) hz22327 ha22331
                 refine QW.cons rfl (QP.yes' rfl rfl hb22313 (QP.val (v := (.pointer (some ⟨b22328, q22329, none⟩))) rfl (fun w' hm' => x_ix U26 Tryz_T2 rfl rfl hix22330) ?_))
                 refine QW.cons rfl (QP.yes' rfl rfl hb22313 (QP.val (v := (.int .i64 x22325)) rfl (fun w' hm' => x_load1 U2 rfl rfl (rdF_cells ((hL.call hm').rdS 2 rfl hr22323) hix22330 ha22331 0 _ rfl)) ?_))
                 refine QW.cons rfl (QP.yes' rfl rfl hb22313 (QP.val (v := (.bool (x22325 != 7))) rfl (fun w' hm' => x_neq rfl rfl) ?_))
                 refine QW.cons rfl (QP.val (v := (.bool (x22325 != 7))) rfl (fun w' hm' => x_pickT' rfl hb22313 rfl) ?_)
                 refine QW.cons rfl (QP.val (v := (.bool (x22325 != 7))) rfl (fun w' hm' => x_move) ?_)
                 refine ifB_elim hm (fun hb22332 hm => ?_) (fun hb22332 hm => ?_)
                 · refine QW.cons rfl (QP.yes' rfl rfl hb22332 (QP.val (v := (.int .i64 s_l2.1)) rfl (fun w' hm' => x_mv f21763) ?_))
                   refine QW.cons rfl (QP.yes' rfl rfl hb22332 (QP.val (v := (.bool (decide (s_l2.1 < 0)))) rfl (fun w' hm' => x_lss rfl rfl) ?_))
                   refine QW.cons rfl (QP.yes' rfl rfl hb22332 (QP.val (v := (.bool (decide (s_l2.1 < 0)))) rfl (fun w' hm' => x_move) ?_))
                   refine ifB_elim hm (fun hb22333 hm => ?_) (fun hb22333 hm => ?_)
                   · refine QW.cons rfl (QP.no' rfl rfl hb22333 rfl ?_)
                     refine QW.cons rfl (QP.no' rfl rfl hb22333 rfl ?_)
                     refine QW.cons rfl (QP.no' rfl rfl hb22333 rfl ?_)
                     refine QW.cons rfl (QP.no' rfl rfl hb22333 rfl ?_)
                     refine QW.cons rfl (QP.no' rfl rfl hb22333 rfl ?_)
                     refine QW.cons rfl (QP.no' rfl rfl hb22333 rfl ?_)
                     refine QW.cons rfl (QP.no' rfl rfl hb22333 rfl ?_)
                     refine QW.cons rfl (QP.no' rfl rfl hb22333 rfl ?_)
                     refine QW.cons rfl (QP.no' rfl rfl hb22333 rfl ?_)
                     refine QW.cons rfl (QP.no' rfl rfl hb22333 rfl ?_)
                     refine QW.cons rfl (QP.no' rfl rfl hb22333 rfl ?_)
                     refine QW.cons rfl (QP.no' rfl rfl hb22333 rfl ?_)
                     refine QW.cons rfl (QP.no' rfl rfl hb22333 rfl ?_)
                     refine QW.cons rfl (QP.no' rfl rfl hb22333 rfl ?_)
                     refine QW.cons rfl (QP.no' rfl rfl hb22333 rfl ?_)
                     refine QW.cons rfl (QP.no' rfl rfl hb22333 rfl ?_)
                     refine QW.cons rfl (QP.no' rfl rfl hb22333 rfl ?_)
                     refine QW.cons rfl (QP.yes' rfl rfl hb22332 (QP.val (v := (.bool true)) rfl (fun w' hm' => x_pickT' rfl hb22333 rfl) ?_))
                     refine QW.cons rfl (QP.val (v := (.bool true)) rfl (fun w' hm' => x_pickT' rfl hb22332 rfl) ?_)
                     refine QW.nil ?_
                     intro wd22334 hmod
                     have hL := hL.call hmod
                     refine DW.done (by kernel_rfl) ?_
                     exact ⟨true, hm, ⟨f21759, f21760, f21761, f21762, f21763, f21764, rfl, hL⟩⟩
                   refine QW.cons rfl (QP.yes' rfl rfl hb22333 (QP.val (v := (.pointer (some ⟨b8, 1, none⟩))) rfl (fun w' hm' => x_fieldAddr (fsz := 1) 0 1 1 U49 rfl Tryz_T47 rfl f21760 rfl) ?_))
                   refine QW.cons rfl (QP.yes' rfl rfl hb22333 (QP.val (v := v1) rfl (fun w' hm' => x_load1 U47 rfl rfl ((hL.call hm').cellB 1 rfl rfl)) ?_))
                   refine QW.cons rfl (QP.yes' rfl rfl hb22333 (QP.val (v := (.int .i64 s_l2.2)) rfl (fun w' hm' => x_mv f21764) ?_))
                   obtain ⟨x22335, ha22336, hm⟩ := bndE hm
                   obtain ⟨hz22337, ha22345⟩ := idxE ha22336
                   obtain ⟨b22338, q22339, v22340, hix22341, hs22342, hc22343, hr22344⟩ := rdN_at h2 hz22337 ha22345
                   refine QW.cons rfl (QP.yes' rfl rfl hb22333 (QP.val (v := (.pointer (some ⟨b22338, q22339, none⟩))) rfl (fun w' hm' => x_ix U47 Tryz_T26 rfl rfl hix22341) ?_))
                   refine QW.cons rfl (QP.yes' rfl rfl hb22333 (QP.val (v := v22340) rfl (fun w' hm' => x_load1 U26 rfl rfl ((hL.call hm').cellS 2 rfl hs22342 hc22343)) ?_))
                   refine QW.cons rfl (QP.yes' rfl rfl hb22333 (QP.val (v := (.int .i64 a2)) rfl (fun w' hm' => x_mv f21759) ?_))
                   obtain ⟨x22346, ha22347, hm⟩ := bndE hm
                   obtain ⟨hz22348, ha22352⟩ := idxE ha22347
                   obtain ⟨b22349, q22350, hix22351⟩ := rdL_ix (hL.rdS 2 rfl hr22344) hz22348 ha22352
                   refine QW.cons rfl (QP.yes' rfl rfl hb22333 (QP.val (v := (.pointer (some ⟨b22349, q22350, none⟩))) rfl (fun w' hm' => x_ix U26 Tryz_T2 rfl rfl hix22351) ?_))
                   refine QW.cons rfl (QP.yes' rfl rfl hb22333 (QP.val (v := (.int .i64 x22346)) rfl (fun w' hm' => x_load1 U2 rfl rfl (rdF_cells ((hL.call hm').rdS 2 rfl hr22344) hix22351 ha22352 0 _ rfl)) ?_))
                   refine QW.cons rfl (QP.yes' rfl rfl hb22333 (QP.val (v := (.pointer (some ⟨b8, 1, none⟩))) rfl (fun w' hm' => x_fieldAddr (fsz := 1) 0 1 1 U49 rfl Tryz_T47 rfl f21760 rfl) ?_))
                   refine QW.cons rfl (QP.yes' rfl rfl hb22333 (QP.val (v := v1) rfl (fun w' hm' => x_load1 U47 rfl rfl ((hL.call hm').cellB 1 rfl rfl)) ?_))
                   refine QW.cons rfl (QP.yes' rfl rfl hb22333 (QP.val (v := (.int .i64 s_l2.1)) rfl (fun w' hm' => x_mv f21763) ?_))
                   obtain ⟨x22353, ha22354, hm⟩ := bndE hm
                   obtain ⟨hz22355, ha22363⟩ := idxE ha22354
                   obtain ⟨b22356, q22357, v22358, hix22359, hs22360, hc22361, hr22362⟩ := rdN_at h2 hz22355 ha22363
                   refine QW.cons rfl (QP.yes' rfl rfl hb22333 (QP.val (v := (.pointer (some ⟨b22356, q22357, none⟩))) rfl (fun w' hm' => x_ix U47 Tryz_T26 rfl rfl hix22359) ?_))
                   refine QW.cons rfl (QP.yes' rfl rfl hb22333 (QP.val (v := v22358) rfl (fun w' hm' => x_load1 U26 rfl rfl ((hL.call hm').cellS 2 rfl hs22360 hc22361)) ?_))
                   refine QW.cons rfl (QP.yes' rfl rfl hb22333 (QP.val (v := (.int .i64 a2)) rfl (fun w' hm' => x_mv f21759) ?_))
                   obtain ⟨x22364, ha22365, hm⟩ := bndE hm
                   obtain ⟨hz22366, ha22370⟩ := idxE ha22365
                   obtain ⟨b22367, q22368, hix22369⟩ := rdL_ix (hL.rdS 2 rfl hr22362) hz22366 ha22370
                   refine QW.cons rfl (QP.yes' rfl rfl hb22333 (QP.val (v := (.pointer (some ⟨b22367, q22368, none⟩))) rfl (fun w' hm' => x_ix U26 Tryz_T2 rfl rfl hix22369) ?_))
                   refine QW.cons rfl (QP.yes' rfl rfl hb22333 (QP.val (v := (.int .i64 x22364)) rfl (fun w' hm' => x_load1 U2 rfl rfl (rdF_cells ((hL.call hm').rdS 2 rfl hr22362) hix22369 ha22370 0 _ rfl)) ?_))
                   refine QW.cons rfl (QP.yes' rfl rfl hb22333 (QP.val (v := (.bool (decide (x22364 < x22346)))) rfl (fun w' hm' => x_gtr rfl rfl) ?_))
                   refine QW.cons rfl (QP.yes' rfl rfl hb22332 (QP.val (v := (.bool (decide (x22364 < x22346)))) rfl (fun w' hm' => x_pickF' rfl hb22333 rfl) ?_))
                   refine QW.cons rfl (QP.val (v := (.bool (decide (x22364 < x22346)))) rfl (fun w' hm' => x_pickT' rfl hb22332 rfl) ?_)
                   refine QW.nil ?_
                   intro wd22371 hmod
                   have hL := hL.call hmod
                   refine DW.done (by kernel_rfl) ?_
                   exact ⟨decide (x22364 < x22346), hm, ⟨f21759, f21760, f21761, f21762, f21763, f21764, rfl, hL⟩⟩
                 refine QW.cons rfl (QP.no' rfl rfl hb22332 rfl ?_)
                 refine QW.cons rfl (QP.no' rfl rfl hb22332 rfl ?_)
                 refine QW.cons rfl (QP.no' rfl rfl hb22332 rfl ?_)
                 refine QW.cons rfl (QP.noU rfl rfl rfl ?_)
                 refine QW.cons rfl (QP.noU rfl rfl rfl ?_)
                 refine QW.cons rfl (QP.noU rfl rfl rfl ?_)
                 refine QW.cons rfl (QP.noU rfl rfl rfl ?_)
                 refine QW.cons rfl (QP.noU rfl rfl rfl ?_)
                 refine QW.cons rfl (QP.noU rfl rfl rfl ?_)
                 refine QW.cons rfl (QP.noU rfl rfl rfl ?_)
                 refine QW.cons rfl (QP.noU rfl rfl rfl ?_)
                 refine QW.cons rfl (QP.noU rfl rfl rfl ?_)
                 refine QW.cons rfl (QP.noU rfl rfl rfl ?_)
                 refine QW.cons rfl (QP.noU rfl rfl rfl ?_)
                 refine QW.cons rfl (QP.noU rfl rfl rfl ?_)
                 refine QW.cons rfl (QP.noU rfl rfl rfl ?_)
                 refine QW.cons rfl (QP.noU rfl rfl rfl ?_)
                 refine QW.cons rfl (QP.noU rfl rfl rfl ?_)
                 refine QW.cons rfl (QP.noU rfl rfl rfl ?_)
                 refine QW.cons rfl (QP.noU rfl rfl rfl ?_)
                 refine QW.cons rfl (QP.no' rfl rfl hb22332 rfl ?_)
                 refine QW.cons rfl (QP.val (v := (.bool false)) rfl (fun w' hm' => x_pickF' rfl hb22332 rfl) ?_)
                 refine QW.nil ?_
                 intro wd22372 hmod
                 have hL := hL.call hmod
                 refine DW.done (by kernel_rfl) ?_
                 exact ⟨false, hm, ⟨f21759, f21760, f21761, f21762, f21763, f21764, rfl, hL⟩⟩
               refine QW.cons rfl (QP.no' rfl rfl hb22313 rfl ?_)
               refine QW.cons rfl (QP.no' rfl rfl hb22313 rfl ?_)
               refine QW.cons rfl (QP.no' rfl rfl hb22313 rfl ?_)
               refine QW.cons rfl (QP.no' rfl rfl hb22313 rfl ?_)
               refine QW.cons rfl (QP.no' rfl rfl hb22313 rfl ?_)
               refine QW.cons rfl (QP.no' rfl rfl hb22313 rfl ?_)
               refine QW.cons rfl (QP.no' rfl rfl hb22313 rfl ?_)
               refine QW.cons rfl (QP.no' rfl rfl hb22313 rfl ?_)
               refine QW.cons rfl (QP.no' rfl rfl hb22313 rfl ?_)
               refine QW.cons rfl (QP.val (v := (.bool false)) rfl (fun w' hm' => x_pickF' rfl hb22313 rfl) ?_)
               refine QW.cons rfl (QP.val (v := (.bool false)) rfl (fun w' hm' => x_move) ?_)
               refine QW.cons rfl (QP.no' rfl rfl rfl rfl ?_)
               refine QW.cons rfl (QP.no' rfl rfl rfl rfl ?_)
               refine QW.cons rfl (QP.no' rfl rfl rfl rfl ?_)
               refine QW.cons rfl (QP.noU rfl rfl rfl ?_)
               refine QW.cons rfl (QP.noU rfl rfl rfl ?_)
               refine QW.cons rfl (QP.noU rfl rfl rfl ?_)
               refine QW.cons rfl (QP.noU rfl rfl rfl ?_)
               refine QW.cons rfl (QP.noU rfl rfl rfl ?_)
               refine QW.cons rfl (QP.noU rfl rfl rfl ?_)
               refine QW.cons rfl (QP.noU rfl rfl rfl ?_)
               refine QW.cons rfl (QP.noU rfl rfl rfl ?_)
               refine QW.cons rfl (QP.noU rfl rfl rfl ?_)
               refine QW.cons rfl (QP.noU rfl rfl rfl ?_)
               refine QW.cons rfl (QP.noU rfl rfl rfl ?_)
               refine QW.cons rfl (QP.noU rfl rfl rfl ?_)
               refine QW.cons rfl (QP.noU rfl rfl rfl ?_)
               refine QW.cons rfl (QP.noU rfl rfl rfl ?_)
               refine QW.cons rfl (QP.noU rfl rfl rfl ?_)
               refine QW.cons rfl (QP.noU rfl rfl rfl ?_)
               refine QW.cons rfl (QP.noU rfl rfl rfl ?_)
               refine QW.cons rfl (QP.no' rfl rfl rfl rfl ?_)
               refine QW.cons rfl (QP.val (v := (.bool false)) rfl (fun w' hm' => x_pickF' rfl rfl rfl) ?_)
               refine QW.nil ?_
               intro wd22373 hmod
               have hL := hL.call hmod
               refine DW.done (by kernel_rfl) ?_
               exact ⟨false, hm, ⟨f21759, f21760, f21761, f21762, f21763, f21764, rfl, hL⟩⟩
             intro s_j5 F22296 wd22297 hJ hm
             unfold M.spec_l27Out_j5 at hm
             obtain ⟨f22298, f22299, f22300, f22301, f22302, f22303, f22304, hL⟩ := hJ
             refine CW.condM (t := s_j5) f22304 hm (fun hb22305 hm => ?_) (fun hb22305 hm => ?_)
             · refine CW.regionL ?_
               refine OV (.int .i64 s_l2.2) rfl (x_mv f22303) ?_
               refine OV (.int .i64 s_l2.2) rfl (x_assign) ?_
               refine OW.nil ?_
               exact ⟨s_l2.2, hm, ⟨f22298, f22299, f22300, f22301, rfl, f22303, hL⟩⟩
             refine CW.skip ?_
             exact ⟨s_l2.1, hm, ⟨f22298, f22299, f22300, f22301, f22302, f22303, hL⟩⟩
           intro s_j4 F22220 wd22221 hJ hm
           unfold M.spec_l27Out_j4 at hm
           obtain ⟨f22222, f22223, f22224, f22225, f22226, f22227, hL⟩ := hJ
           exact ⟨s_j4, hm, ⟨f22222, f22223, f22224, f22225, f22226, f22227, hL⟩⟩
         intro s_j3 F22066 wd22067 hJ hm
         unfold M.spec_l27Out_j3 at hm
         obtain ⟨f22068, f22069, f22070, f22071, f22072, f22073, hL⟩ := hJ
         refine CW.regionL ?_
         refine OV (.int .i64 s_l2.2) rfl (x_mv f22073) ?_
         refine OV (.int .i64 (w64 (s_l2.2 + 1))) rfl (x_add rfl rfl) ?_
         refine OV (.int .i64 (w64 (s_l2.2 + 1))) rfl (x_assign) ?_
         refine OW.nil ?_
         obtain rfl := Option.some.inj hm
         exact ⟨_, rfl, ⟨f22068, f22069, f22070, f22071, f22072, rfl, hL⟩⟩
       refine CW.exit ?_
       refine XJ.hit ?_
       obtain rfl := Option.some.inj hm
       exact ⟨_, rfl, ⟨f21759, f21760, f21761, f21762, f21763, f21764, hL⟩⟩
     intro s_j2 F20512 wd20513 hJ hm
     unfold M.spec_l27Out_j2 at hm
     obtain ⟨S20511, f20514, f20515, f20516, f20517, hL⟩ := hJ
     exact ⟨s_j2, hm, ⟨S20511, f20514, f20515, f20516, f20517, hL⟩⟩
   intro s_j1 F18649 wd18650 hJ hm
   unfold M.spec_l27Out_j1 at hm
   obtain ⟨S18648, f18651, f18652, f18653, f18654, hL⟩ := hJ
   refine CW.regionL ?_
   refine OV (.int .i64 s_l1.2) rfl (x_mv f18654) ?_
   refine OV (.int .i64 (w64 (s_l1.2 - 1))) rfl (x_sub rfl rfl) ?_
   refine OV (.int .i64 (w64 (s_l1.2 - 1))) rfl (x_assign) ?_
   refine OW.nil ?_
   obtain rfl := Option.some.inj hm
   exact ⟨_, rfl, ⟨S18648, f18651, f18652, f18653, rfl, hL⟩⟩
 refine CW.exit ?_
 refine XJ.hit ?_
 obtain rfl := Option.some.inj hm
 exact ⟨_, rfl, ⟨S14911, f14924, f14925, f14926, f14927, hL⟩⟩

theorem M.spec_l27Counted_ok (w0 : World) (a0 : Table) {v1 : Value} {v3 : Value} (h2 : rdL (· < w0.heap.size) w0 v1 a0.Points) (h4 : rdL (· < w0.heap.size) w0 v3 a0.Codes) (a1 : List Int) {v5 : Value} (h6 : rdL (· < w0.heap.size) w0 v5 a1) (a2 : Int) {r : (List Int)} (hm : M.spec_l27Counted a0 a1 a2 = some r) :
    Calls Tryz.prog 51 #[(.agg #[(.int .i64 a0.Boats), v1, v3]), v5, (.int .i64 a2)] w0 fun e w' => ∃ (rv0 : Value) (rS0 : Nat → Prop), e = .returned rv0 ∧ Fresh w0 w' [Ent.own 2 rS0 rv0 r] := by
 unfold M.spec_l27Counted at hm
 refine calls_CW (args := [(.agg #[(.int .i64 a0.Boats), v1, v3]), v5, (.int .i64 a2)]) Tryz.func51 rfl rfl rfl ?_
 have hL := Hp.start w0
 refine CSR ?_
 refine OW.cons (S_box (cs := #[(.int .i64 a0.Boats), v1, v3]) hL rfl rfl rfl ?_)
 intro wd7 b8 hL
 refine OV (.slice none 0 0) rfl (x_assign) ?_
 refine ONR ?_
 refine OV (.agg #[(.int .i64 a0.Boats), v1, v3]) rfl (x_loadN (cs := [(.int .i64 a0.Boats), v1, v3]) U49 Tryz_T49 rfl rfl (hL.cellsB 0 rfl (o := 0) (l := [(.int .i64 a0.Boats), v1, v3]) (by intro j u hj; exact (by simpa using hj)))) ?_
 refine OV v5 rfl (x_move) ?_
 refine OV (.int .i64 a2) rfl (x_move) ?_
 obtain ⟨x9, hx10, hm⟩ := bndE hm
 refine OW.cons (OP.call rfl (x_call (vs := [(.agg #[(.int .i64 a0.Boats), v1, v3]), v5, (.int .i64 a2)]) Tryz_C68 ⟨rfl, rfl, rfl, trivial⟩) (M.spec_l27Out_ok _ a0 (hL.rdS 1 rfl h2) (hL.rdS 1 rfl h4) a1 (hL.rdS 1 rfl h6) a2 hx10) ?_)
 rintro e13 wd14 ⟨v12, S11, rfl, hF15⟩
 refine ⟨_, rfl, ?_⟩
 have hL := hL.pushAll hF15
 simp only [lA, lB, lC, lD] at hL
 refine OV v12 rfl (x_assign) ?_
 refine ONR ?_
 refine OW.cons (S_lit ([] : List Int) hL U26 Tryz_T2 rfl (by decide) (by first | (simp [Instr.fill, madeCells, Value.cells, ev, upd, Flat.enc, Flat.sz]; done) | rfl | kernel_rfl) rfl rfl ?_)
 intro wd16 v17 S18 hL
 refine OV v17 rfl (x_assign) ?_
 refine ONS ?_
 refine CSR ?_
 refine OV (.int .i64 0) rfl (x_assign) ?_
 refine OW.nil ?_
 obtain ⟨o345, ho346, hm⟩ := bndE hm
 refine CW.loopB (fun (s_l1 : (List Int) × Int) (F : Fr) (w : World) => ∃ (v341 : Value) (S342 : Nat → Prop), F 2 = (.int .i64 a2) ∧ F 3 = (.pointer (some ⟨b8, 0, none⟩)) ∧ F 7 = v12 ∧ F 8 = v341 ∧ F 9 = (.int .i64 s_l1.2) ∧ Hp w0 [Ent.own 2 S342 v341 s_l1.1, Ent.own 4 S11 v12 x9, Ent.blk b8 49 #[(.int .i64 a0.Boats), v1, v3], Ent.snap w0 w0.heap.size] w) (fun o => outc o (fun x => some x) (fun s => M.spec_l27Counted_a1 s) = some r) ho346 hm ⟨v17, S18, rfl, rfl, rfl, rfl, rfl, hL⟩ ?_ ?_
 · intro s_l1 F347 wd348 hJ hm
   have hm := outcE hm
   have hm : M.spec_l27Counted_a1 s_l1 = some r := hm
   unfold M.spec_l27Counted_a1 at hm
   obtain ⟨v341, S342, f349, f350, f351, f352, f353, hL⟩ := hJ
   refine CSR ?_
   refine OV v341 rfl (x_mv f352) ?_
   refine OV v341 rfl (x_assign) ?_
   refine OW.nil ?_
   refine CW.ret ?_
   obtain rfl := Option.some.inj hm
   exact RR1 rfl rfl ⟨v341, S342, rfl, hL.fresh 3 rfl [0] (by decide) (by decide) rfl⟩
 intro s_l1 F354 wd355 t343 hJ hm hr344
 unfold M.spec_l27Counted_l1 at hm
 obtain ⟨v341, S342, f356, f357, f358, f359, f360, hL⟩ := hJ
 refine CW.seq ?_
 refine CSR ?_
 refine OV (.int .i64 s_l1.2) rfl (x_mv f360) ?_
 refine OV v12 rfl (x_mv f358) ?_
 refine OV (.int .i64 (x9.length : Int)) rfl (x_lenR U100 rfl (hL.rdO 1 rfl)) ?_
 refine OV (.bool (decide (s_l1.2 < (x9.length : Int)))) rfl (x_lss rfl rfl) ?_
 refine OW.nil ?_
 refine CW.condM (t := decide (s_l1.2 < (x9.length : Int))) rfl hm (fun hb361 hm => ?_) (fun hb361 hm => ?_)
 · refine CW.skip ?_
   refine CW.seqJ (fun (s_j1 : (List Int)) (F : Fr) (w : World) => ∃ (v437 : Value) (S438 : Nat → Prop), F 2 = (.int .i64 a2) ∧ F 3 = (.pointer (some ⟨b8, 0, none⟩)) ∧ F 7 = v12 ∧ F 8 = v437 ∧ F 9 = (.int .i64 s_l1.2) ∧ Hp w0 [Ent.own 2 S438 v437 s_j1, Ent.own 4 S11 v12 x9, Ent.blk b8 49 #[(.int .i64 a0.Boats), v1, v3], Ent.snap w0 w0.heap.size] w) (fun s_j1 => M.spec_l27Counted_j1 s_l1 s_j1 = some t343) ?_ ?_
   · refine CW.blockJ (fun (s_j2 : (List Int)) (F : Fr) (w : World) => ∃ (v479 : Value) (S480 : Nat → Prop), F 2 = (.int .i64 a2) ∧ F 3 = (.pointer (some ⟨b8, 0, none⟩)) ∧ F 7 = v12 ∧ F 8 = v479 ∧ F 9 = (.int .i64 s_l1.2) ∧ Hp w0 [Ent.own 2 S480 v479 s_j2, Ent.own 4 S11 v12 x9, Ent.blk b8 49 #[(.int .i64 a0.Boats), v1, v3], Ent.snap w0 w0.heap.size] w) (fun s_j2 => M.spec_l27Counted_j2 s_l1 s_j2 = some t343) ?_ ?_
     · refine CSR ?_
       refine OV v12 rfl (x_mv f358) ?_
       refine OV (.int .i64 s_l1.2) rfl (x_mv f360) ?_
       obtain ⟨x488, ha489, hm⟩ := bndE hm
       obtain ⟨hz490, ha494⟩ := idxE ha489
       obtain ⟨b491, q492, hix493⟩ := rdL_ix (hL.rdO 1 rfl) hz490 ha494
       refine OV (.pointer (some ⟨b491, q492, none⟩)) rfl (x_ix U100 Tryz_T4 rfl rfl hix493) ?_
       refine OV (.bool x488) rfl (x_load1 U4 rfl rfl (rdF_cells (hL.rdO 1 rfl) hix493 ha494 0 _ rfl)) ?_
       refine OV (.bool (!x488)) rfl (x_not rfl) ?_
       refine OW.nil ?_
       refine CW.condM (t := !x488) rfl hm (fun hb495 hm => ?_) (fun hb495 hm => ?_)
       · refine CW.regionL ?_
         refine OV v341 rfl (x_mv f359) ?_
         refine OV (.pointer (some ⟨b8, 1, none⟩)) rfl (x_fieldAddr (fsz := 1) 0 1 1 U49 rfl Tryz_T47 rfl f357 rfl) ?_
         refine OV v1 rfl (x_load1 U47 rfl rfl (hL.cellB 2 rfl rfl)) ?_
         refine OV (.int .i64 s_l1.2) rfl (x_mv f360) ?_
         obtain ⟨x496, ha497, hm⟩ := bndE hm
         obtain ⟨hz498, ha506⟩ := idxE ha497
         obtain ⟨b499, q500, v501, hix502, hs503, hc504, hr505⟩ := rdN_at h2 hz498 ha506
         refine OV (.pointer (some ⟨b499, q500, none⟩)) rfl (x_ix U47 Tryz_T26 rfl rfl hix502) ?_
         refine OV v501 rfl (x_load1 U26 rfl rfl (hL.cellS 3 rfl hs503 hc504)) ?_
         refine OV (.int .i64 a2) rfl (x_mv f356) ?_
         obtain ⟨x507, ha508, hm⟩ := bndE hm
         obtain ⟨hz509, ha513⟩ := idxE ha508
         obtain ⟨b510, q511, hix512⟩ := rdL_ix (hL.rdS 3 rfl hr505) hz509 ha513
         refine OV (.pointer (some ⟨b510, q511, none⟩)) rfl (x_ix U26 Tryz_T2 rfl rfl hix512) ?_
         refine OV (.int .i64 x507) rfl (x_load1 U2 rfl rfl (rdF_cells (hL.rdS 3 rfl hr505) hix512 ha513 0 _ rfl)) ?_
         refine OW.cons (S_lit ([x507] : List Int) hL U26 Tryz_T2 rfl (by decide) (by first | (simp [Instr.fill, madeCells, Value.cells, ev, upd, Flat.enc, Flat.sz]; done) | rfl | kernel_rfl) rfl rfl ?_)
         intro wd514 v515 S516 hL
         obtain ⟨hc520, hm⟩ := chkE hm
         refine OW.cons (S_append (ys := ([x507] : List Int)) hL 1 rfl U26 Tryz_T2 rfl rfl rfl (hL.rdO 0 rfl) hc520 (by decide) rfl ?_)
         intro wd517 v518 S519 hL
         refine OV v518 rfl (x_assign) ?_
         refine OW.nil ?_
         have hL := hL.sel [1, 2, 3, 4] (by decide) rfl
         exact ⟨s_l1.1 ++ ([x507] : List Int), hm, ⟨v518, S519, f356, f357, f358, rfl, f360, hL⟩⟩
       refine CW.skip ?_
       exact ⟨s_l1.1, hm, ⟨v341, S342, f356, f357, f358, f359, f360, hL⟩⟩
     intro s_j2 F481 wd482 hJ hm
     unfold M.spec_l27Counted_j2 at hm
     obtain ⟨v479, S480, f483, f484, f485, f486, f487, hL⟩ := hJ
     exact ⟨s_j2, hm, ⟨v479, S480, f483, f484, f485, f486, f487, hL⟩⟩
   intro s_j1 F439 wd440 hJ hm
   unfold M.spec_l27Counted_j1 at hm
   obtain ⟨v437, S438, f441, f442, f443, f444, f445, hL⟩ := hJ
   refine CW.regionL ?_
   refine OV (.int .i64 s_l1.2) rfl (x_mv f445) ?_
   refine OV (.int .i64 (w64 (s_l1.2 + 1))) rfl (x_add rfl rfl) ?_
   refine OV (.int .i64 (w64 (s_l1.2 + 1))) rfl (x_assign) ?_
   refine OW.nil ?_
   obtain rfl := Option.some.inj hm
   exact ⟨_, rfl, ⟨v437, S438, f441, f442, f443, f444, rfl, hL⟩⟩
 refine CW.exit ?_
 refine XJ.hit ?_
 obtain rfl := Option.some.inj hm
 exact ⟨_, rfl, ⟨v341, S342, f356, f357, f358, f359, f360, hL⟩⟩

theorem M.spec_l28Sorted_ok (w0 : World) (a0 : List Int) {v1 : Value} (h2 : rdL (· < w0.heap.size) w0 v1 a0) {r : (List Int)} (hm : M.spec_l28Sorted a0 = some r) :
    Calls Tryz.prog 50 #[v1] w0 fun e w' => ∃ (rv0 : Value) (rS0 : Nat → Prop), e = .returned rv0 ∧ Fresh w0 w' [Ent.own 2 rS0 rv0 r] := by
 unfold M.spec_l28Sorted at hm
 refine calls_CW (args := [v1]) Tryz.func50 rfl rfl rfl ?_
 have hL := Hp.start w0
 refine CSR ?_
 refine OV (.slice none 0 0) rfl (x_assign) ?_
 refine ONR ?_
 refine OW.cons (S_lit ([] : List Int) hL U26 Tryz_T2 rfl (by decide) (by first | (simp [Instr.fill, madeCells, Value.cells, ev, upd, Flat.enc, Flat.sz]; done) | rfl | kernel_rfl) rfl rfl ?_)
 intro wd3 v4 S5 hL
 refine OV v1 rfl (x_move) ?_
 obtain ⟨hc9, hm⟩ := chkE hm
 refine OW.cons (S_append (ys := a0) hL 0 rfl U26 Tryz_T2 rfl rfl rfl (hL.rdS 1 rfl h2) hc9 (by decide) rfl ?_)
 intro wd6 v7 S8 hL
 refine OV v7 rfl (x_assign) ?_
 refine ONS ?_
 refine CSR ?_
 refine OV (.int .i64 1) rfl (x_assign) ?_
 refine OW.nil ?_
 obtain ⟨o474, ho475, hm⟩ := bndE hm
 refine CW.loopB (fun (s_l1 : (List Int) × Int) (F : Fr) (w : World) => ∃ (S471 : Nat → Prop), F 3 = v7 ∧ F 4 = (.int .i64 s_l1.2) ∧ Hp w0 [Ent.own 2 S471 v7 s_l1.1, Ent.snap w0 w0.heap.size] w) (fun o => outc o (fun x => some x) (fun s => M.spec_l28Sorted_a1 s) = some r) ho475 hm ⟨S8, rfl, rfl, hL⟩ ?_ ?_
 · intro s_l1 F476 wd477 hJ hm
   have hm := outcE hm
   have hm : M.spec_l28Sorted_a1 s_l1 = some r := hm
   unfold M.spec_l28Sorted_a1 at hm
   obtain ⟨S471, f478, f479, hL⟩ := hJ
   refine CSR ?_
   refine OV v7 rfl (x_mv f478) ?_
   refine OV v7 rfl (x_assign) ?_
   refine OW.nil ?_
   refine CW.ret ?_
   obtain rfl := Option.some.inj hm
   exact RR1 rfl rfl ⟨v7, S471, rfl, hL.fresh 1 rfl [0] (by decide) (by decide) rfl⟩
 intro s_l1 F480 wd481 t472 hJ hm hr473
 unfold M.spec_l28Sorted_l1 at hm
 obtain ⟨S471, f482, f483, hL⟩ := hJ
 refine CW.seq ?_
 refine CSR ?_
 refine OV (.int .i64 s_l1.2) rfl (x_mv f483) ?_
 refine OV v7 rfl (x_mv f482) ?_
 refine OV (.int .i64 (s_l1.1.length : Int)) rfl (x_lenR U26 rfl (hL.rdO 0 rfl)) ?_
 refine OV (.bool (decide (s_l1.2 < (s_l1.1.length : Int)))) rfl (x_lss rfl rfl) ?_
 refine OW.nil ?_
 refine CW.condM (t := decide (s_l1.2 < (s_l1.1.length : Int))) rfl hm (fun hb484 hm => ?_) (fun hb484 hm => ?_)
 · refine CW.skip ?_
   refine CW.seq ?_
   refine CW.block ?_
   refine CSR ?_
   refine OV (.int .i64 s_l1.2) rfl (x_mv f483) ?_
   refine OV (.int .i64 s_l1.2) rfl (x_assign) ?_
   refine OW.nil ?_
   obtain ⟨o631, ho632, hm⟩ := bndE hm
   refine CW.loopB (fun (s_l2 : (List Int) × Int) (F : Fr) (w : World) => ∃ (S628 : Nat → Prop), F 3 = v7 ∧ F 4 = (.int .i64 s_l1.2) ∧ F 5 = (.int .i64 s_l2.2) ∧ Hp w0 [Ent.own 2 S628 v7 s_l2.1, Ent.snap w0 w0.heap.size] w) (fun o => outc o (fun x => some (.ret x)) (fun s => M.spec_l28Sorted_a2 s_l1 s) = some t472) ho632 hm ⟨S471, f482, f483, rfl, hL⟩ ?_ ?_
   · intro s_l2 F633 wd634 hJ hm
     have hm := outcE hm
     have hm : M.spec_l28Sorted_a2 s_l1 s_l2 = some t472 := hm
     unfold M.spec_l28Sorted_a2 at hm
     obtain ⟨S628, f635, f636, f637, hL⟩ := hJ
     refine CW.regionL ?_
     refine OV (.int .i64 s_l1.2) rfl (x_mv f636) ?_
     refine OV (.int .i64 (w64 (s_l1.2 + 1))) rfl (x_add rfl rfl) ?_
     refine OV (.int .i64 (w64 (s_l1.2 + 1))) rfl (x_assign) ?_
     refine OW.nil ?_
     obtain rfl := Option.some.inj hm
     exact ⟨_, rfl, ⟨S628, f635, rfl, hL⟩⟩
   intro s_l2 F638 wd639 t629 hJ hm hr630
   unfold M.spec_l28Sorted_l2 at hm
   obtain ⟨S628, f640, f641, f642, hL⟩ := hJ
   refine CW.seq ?_
   refine CW.seqJ (fun (s_j1 : Bool) (F : Fr) (w : World) => F 3 = v7 ∧ F 4 = (.int .i64 s_l1.2) ∧ F 5 = (.int .i64 s_l2.2) ∧ F 30 = (.bool s_j1) ∧ Hp w0 [Ent.own 2 S628 v7 s_l2.1, Ent.snap w0 w0.heap.size] w) (fun s_j1 => M.spec_l28Sorted_j1 s_l2 s_j1 = some t629) ?_ ?_
   · refine CW.draw Tryz_mixed ?_
     have hL := hL.call (Mod.drew _)
     refine DW.pre (fuel := 0) (fin := bma 14 16383) (C := fun w' => Mod None_ _ w') [0, 1, 2, 3, 4, 5, 6, 7, 8, 9, 10, 11, 12, 13] (Mod.refl _ _) (by kernel_rfl) (by kernel_rfl) ?_
     refine QW.cons rfl (QP.val (v := (.int .i64 s_l2.2)) rfl (fun w' hm' => x_mv f642) ?_)
     refine QW.cons rfl (QP.val (v := (.bool (decide (0 < s_l2.2)))) rfl (fun w' hm' => x_gtr rfl rfl) ?_)
     refine QW.cons rfl (QP.val (v := (.bool (decide (0 < s_l2.2)))) rfl (fun w' hm' => x_move) ?_)
     refine ifB_elim hm (fun hb697 hm => ?_) (fun hb697 hm => ?_)
     · refine QW.cons rfl (QP.yes' rfl rfl hb697 (QP.val (v := v7) rfl (fun w' hm' => x_mv f640) ?_))
       refine QW.cons rfl (QP.yes' rfl rfl hb697 (QP.val (v := (.int .i64 s_l2.2)) rfl (fun w' hm' => x_mv f642) ?_))
       refine QW.cons rfl (QP.yes' rfl rfl hb697 (QP.val (v := (.int .i64 (w64 (s_l2.2 - 1)))) rfl (fun w' hm' => x_sub rfl rfl) ?_))
       obtain ⟨x698, ha699, hm⟩ := bndE hm
       obtain ⟨hz700, ha704⟩ := idxE ha699
       obtain ⟨b701, q702, hix703⟩ := rdL_ix (hL.rdO 0 rfl) hz700 ha704
       refine QW.cons rfl (QP.yes' rfl rfl hb697 (QP.val (v := (.pointer (some ⟨b701, q702, none⟩))) rfl (fun w' hm' => x_ix U26 Tryz_T2 rfl rfl hix703) ?_))
       refine QW.cons rfl (QP.yes' rfl rfl hb697 (QP.val (v := (.int .i64 x698)) rfl (fun w' hm' => x_load1 U2 rfl rfl (rdF_cells ((hL.call hm').rdO 0 rfl) hix703 ha704 0 _ rfl)) ?_))
       refine QW.cons rfl (QP.yes' rfl rfl hb697 (QP.val (v := v7) rfl (fun w' hm' => x_mv f640) ?_))
       refine QW.cons rfl (QP.yes' rfl rfl hb697 (QP.val (v := (.int .i64 s_l2.2)) rfl (fun w' hm' => x_mv f642) ?_))
       obtain ⟨x705, ha706, hm⟩ := bndE hm
       obtain ⟨hz707, ha711⟩ := idxE ha706
       obtain ⟨b708, q709, hix710⟩ := rdL_ix (hL.rdO 0 rfl) hz707 ha711
       refine QW.cons rfl (QP.yes' rfl rfl hb697 (QP.val (v := (.pointer (some ⟨b708, q709, none⟩))) rfl (fun w' hm' => x_ix U26 Tryz_T2 rfl rfl hix710) ?_))
       refine QW.cons rfl (QP.yes' rfl rfl hb697 (QP.val (v := (.int .i64 x705)) rfl (fun w' hm' => x_load1 U2 rfl rfl (rdF_cells ((hL.call hm').rdO 0 rfl) hix710 ha711 0 _ rfl)) ?_))
       refine QW.cons rfl (QP.yes' rfl rfl hb697 (QP.val (v := (.bool (decide (x705 < x698)))) rfl (fun w' hm' => x_gtr rfl rfl) ?_))
       refine QW.cons rfl (QP.val (v := (.bool (decide (x705 < x698)))) rfl (fun w' hm' => x_pickT' rfl hb697 rfl) ?_)
       refine QW.nil ?_
       intro wd712 hmod
       have hL := hL.call hmod
       refine DW.done (by kernel_rfl) ?_
       exact ⟨decide (x705 < x698), hm, ⟨f640, f641, f642, rfl, hL⟩⟩
     refine QW.cons rfl (QP.no' rfl rfl hb697 rfl ?_)
     refine QW.cons rfl (QP.no' rfl rfl hb697 rfl ?_)
     refine QW.cons rfl (QP.no' rfl rfl hb697 rfl ?_)
     refine QW.cons rfl (QP.no' rfl rfl hb697 rfl ?_)
     refine QW.cons rfl (QP.no' rfl rfl hb697 rfl ?_)
     refine QW.cons rfl (QP.no' rfl rfl hb697 rfl ?_)
     refine QW.cons rfl (QP.no' rfl rfl hb697 rfl ?_)
     refine QW.cons rfl (QP.no' rfl rfl hb697 rfl ?_)
     refine QW.cons rfl (QP.no' rfl rfl hb697 rfl ?_)
     refine QW.cons rfl (QP.no' rfl rfl hb697 rfl ?_)
     refine QW.cons rfl (QP.val (v := (.bool false)) rfl (fun w' hm' => x_pickF' rfl hb697 rfl) ?_)
     refine QW.nil ?_
     intro wd713 hmod
     have hL := hL.call hmod
     refine DW.done (by kernel_rfl) ?_
     exact ⟨false, hm, ⟨f640, f641, f642, rfl, hL⟩⟩
   intro s_j1 F660 wd661 hJ hm
   unfold M.spec_l28Sorted_j1 at hm
   obtain ⟨f662, f663, f664, f665, hL⟩ := hJ
   refine CW.condM (t := s_j1) f665 hm (fun hb666 hm => ?_) (fun hb666 hm => ?_)
   · refine CW.skip ?_
     refine CW.seq ?_
     refine CW.block ?_
     refine CSR ?_
     refine OV v7 rfl (x_mv f662) ?_
     refine OV (.int .i64 s_l2.2) rfl (x_mv f664) ?_
     obtain ⟨x667, ha668, hm⟩ := bndE hm
     obtain ⟨hz669, ha673⟩ := idxE ha668
     obtain ⟨b670, q671, hix672⟩ := rdL_ix (hL.rdO 0 rfl) hz669 ha673
     refine OV (.pointer (some ⟨b670, q671, none⟩)) rfl (x_ix U26 Tryz_T2 rfl rfl hix672) ?_
     refine OV (.int .i64 x667) rfl (x_load1 U2 rfl rfl (rdF_cells (hL.rdO 0 rfl) hix672 ha673 0 _ rfl)) ?_
     refine OV (.int .i64 x667) rfl (x_assign) ?_
     refine ONR ?_
     refine OV v7 rfl (x_mv f662) ?_
     refine OV (.int .i64 s_l2.2) rfl (x_mv f664) ?_
     refine OV v7 rfl (x_mv f662) ?_
     refine OV (.int .i64 s_l2.2) rfl (x_mv f664) ?_
     refine OV (.int .i64 (w64 (s_l2.2 - 1))) rfl (x_sub rfl rfl) ?_
     obtain ⟨x674, ha675, hm⟩ := bndE hm
     obtain ⟨hz676, ha680⟩ := idxE ha675
     obtain ⟨b677, q678, hix679⟩ := rdL_ix (hL.rdO 0 rfl) hz676 ha680
     refine OV (.pointer (some ⟨b677, q678, none⟩)) rfl (x_ix U26 Tryz_T2 rfl rfl hix679) ?_
     refine OV (.int .i64 x674) rfl (x_load1 U2 rfl rfl (rdF_cells (hL.rdO 0 rfl) hix679 ha680 0 _ rfl)) ?_
     obtain ⟨x681, ha682, hm⟩ := bndE hm
     obtain ⟨hz683, ha687⟩ := idxE ha682
     obtain ⟨b684, q685, hix686⟩ := rdL_ix (hL.rdO 0 rfl) hz683 ha687
     refine OV (.pointer (some ⟨b684, q685, none⟩)) rfl (x_ix U26 Tryz_T2 rfl rfl hix686) ?_
     refine OW.cons (S_storeX (j := 0) x674 hL 0 rfl Tryz_T2 hix686 ha687 rfl rfl rfl rfl rfl rfl ?_)
     intro wd688 hL
     refine OW.nil ?_
     refine CW.regionL ?_
     refine OV v7 rfl (x_mv f662) ?_
     refine OV (.int .i64 s_l2.2) rfl (x_mv f664) ?_
     refine OV (.int .i64 (w64 (s_l2.2 - 1))) rfl (x_sub rfl rfl) ?_
     refine OV (.int .i64 x667) rfl (x_move) ?_
     obtain ⟨x689, ha690, hm⟩ := bndE hm
     obtain ⟨hz691, ha695⟩ := idxE ha690
     obtain ⟨b692, q693, hix694⟩ := rdL_ix (hL.rdO 0 rfl) hz691 ha695
     refine OV (.pointer (some ⟨b692, q693, none⟩)) rfl (x_ix U26 Tryz_T2 rfl rfl hix694) ?_
     refine OW.cons (S_storeX (j := 0) x667 hL 0 rfl Tryz_T2 hix694 ha695 rfl rfl rfl rfl rfl rfl ?_)
     intro wd696 hL
     refine OW.nil ?_
     refine CW.regionL ?_
     refine OV (.int .i64 s_l2.2) rfl (x_mv f664) ?_
     refine OV (.int .i64 (w64 (s_l2.2 - 1))) rfl (x_sub rfl rfl) ?_
     refine OV (.int .i64 (w64 (s_l2.2 - 1))) rfl (x_assign) ?_
     refine OW.nil ?_
     obtain rfl := Option.some.inj hm
     exact ⟨_, rfl, ⟨S628, f662, f663, rfl, hL⟩⟩
   refine CW.exit ?_
   refine XJ.hit ?_
   obtain rfl := Option.some.inj hm
   exact ⟨_, rfl, ⟨S628, f662, f663, f664, hL⟩⟩
 refine CW.exit ?_
 refine XJ.hit ?_
 obtain rfl := Option.some.inj hm
 exact ⟨_, rfl, ⟨S471, f482, f483, hL⟩⟩

theorem M.spec_l27Sum_ok (w0 : World) (a0 : List Int) {v1 : Value} (h2 : rdL (· < w0.heap.size) w0 v1 a0) {r : Int} (hm : M.spec_l27Sum a0 = some r) :
    Calls Tryz.prog 52 #[v1] w0 fun e w' => e = .returned (.int .i64 r) ∧ Fresh w0 w' [] := by
 unfold M.spec_l27Sum at hm
 refine calls_CW (args := [v1]) Tryz.func52 rfl rfl rfl ?_
 have hL := Hp.start w0
 refine CSR ?_
 refine OV (.int .i64 0) rfl (x_assign) ?_
 refine ONR ?_
 refine OV (.int .i64 0) rfl (x_assign) ?_
 refine ONS ?_
 refine CSR ?_
 refine OV (.int .i64 0) rfl (x_assign) ?_
 refine OW.nil ?_
 obtain ⟨o21, ho22, hm⟩ := bndE hm
 refine CW.loopB (fun (s_l1 : Int × Int) (F : Fr) (w : World) => F 0 = v1 ∧ F 3 = (.int .i64 s_l1.1) ∧ F 4 = (.int .i64 s_l1.2) ∧ Hp w0 [Ent.snap w0 w0.heap.size] w) (fun o => outc o (fun x => some x) (fun s => M.spec_l27Sum_a1 s) = some r) ho22 hm ⟨rfl, rfl, rfl, hL⟩ ?_ ?_
 · intro s_l1 F23 wd24 hJ hm
   have hm := outcE hm
   have hm : M.spec_l27Sum_a1 s_l1 = some r := hm
   unfold M.spec_l27Sum_a1 at hm
   obtain ⟨f25, f26, f27, hL⟩ := hJ
   refine CSR ?_
   refine OV (.int .i64 s_l1.1) rfl (x_mv f26) ?_
   refine OV (.int .i64 s_l1.1) rfl (x_assign) ?_
   refine OW.nil ?_
   refine CW.ret ?_
   obtain rfl := Option.some.inj hm
   exact RR1 rfl rfl ⟨rfl, hL.fresh 0 rfl [] (by decide) (by decide) rfl⟩
 intro s_l1 F28 wd29 t19 hJ hm hr20
 unfold M.spec_l27Sum_l1 at hm
 obtain ⟨f30, f31, f32, hL⟩ := hJ
 refine CW.seq ?_
 refine CSR ?_
 refine OV (.int .i64 s_l1.2) rfl (x_mv f32) ?_
 refine OV v1 rfl (x_mv f30) ?_
 refine OV (.int .i64 (a0.length : Int)) rfl (x_lenR U26 rfl (hL.rdS 0 rfl h2)) ?_
 refine OV (.bool (decide (s_l1.2 < (a0.length : Int)))) rfl (x_lss rfl rfl) ?_
 refine OW.nil ?_
 refine CW.condM (t := decide (s_l1.2 < (a0.length : Int))) rfl hm (fun hb33 hm => ?_) (fun hb33 hm => ?_)
 · refine CW.skip ?_
   refine CW.seq ?_
   refine CW.block ?_
   refine CW.regionL ?_
   refine OV (.int .i64 s_l1.1) rfl (x_mv f31) ?_
   refine OV v1 rfl (x_mv f30) ?_
   refine OV (.int .i64 s_l1.2) rfl (x_mv f32) ?_
   obtain ⟨x34, ha35, hm⟩ := bndE hm
   obtain ⟨hz36, ha40⟩ := idxE ha35
   obtain ⟨b37, q38, hix39⟩ := rdL_ix (hL.rdS 0 rfl h2) hz36 ha40
   refine OV (.pointer (some ⟨b37, q38, none⟩)) rfl (x_ix U26 Tryz_T2 rfl rfl hix39) ?_
   refine OV (.int .i64 x34) rfl (x_load1 U2 rfl rfl (rdF_cells (hL.rdS 0 rfl h2) hix39 ha40 0 _ rfl)) ?_
   refine OV (.int .i64 (w64 (s_l1.1 + x34))) rfl (x_add rfl rfl) ?_
   refine OV (.int .i64 (w64 (s_l1.1 + x34))) rfl (x_assign) ?_
   refine OW.nil ?_
   refine CW.regionL ?_
   refine OV (.int .i64 s_l1.2) rfl (x_mv f32) ?_
   refine OV (.int .i64 (w64 (s_l1.2 + 1))) rfl (x_add rfl rfl) ?_
   refine OV (.int .i64 (w64 (s_l1.2 + 1))) rfl (x_assign) ?_
   refine OW.nil ?_
   obtain rfl := Option.some.inj hm
   exact ⟨_, rfl, ⟨f30, rfl, rfl, hL⟩⟩
 refine CW.exit ?_
 refine XJ.hit ?_
 obtain rfl := Option.some.inj hm
 exact ⟨_, rfl, ⟨f30, f31, f32, hL⟩⟩

theorem M.spec_l28Sign_ok (w0 : World) (a0 : Int) (a1 : Int) {r : Int} (hm : M.spec_l28Sign a0 a1 = some r) :
    Calls Tryz.prog 53 #[(.int .i64 a0), (.int .i64 a1)] w0 fun e w' => e = .returned (.int .i64 r) ∧ Fresh w0 w' [] := by
 unfold M.spec_l28Sign at hm
 refine calls_CW (args := [(.int .i64 a0), (.int .i64 a1)]) Tryz.func53 rfl rfl rfl ?_
 have hL := Hp.start w0
 refine CSR ?_
 refine OV (.int .i64 0) rfl (x_assign) ?_
 refine ONS ?_
 refine CSR ?_
 refine OV (.int .i64 a0) rfl (x_move) ?_
 refine OV (.int .i64 a1) rfl (x_move) ?_
 refine OV (.bool (decide (a0 < a1))) rfl (x_lss rfl rfl) ?_
 refine OW.nil ?_
 refine CW.condM (t := decide (a0 < a1)) rfl hm (fun hb1 hm => ?_) (fun hb1 hm => ?_)
 · refine CSR ?_
   refine OV (.int .i64 (-1)) rfl (x_assign) ?_
   refine OW.nil ?_
   refine CW.ret ?_
   obtain rfl := Option.some.inj hm
   exact RR1 rfl rfl ⟨rfl, hL.fresh 0 rfl [] (by decide) (by decide) rfl⟩
 refine CW.skip ?_
 refine CW.seq ?_
 refine CSR ?_
 refine OV (.int .i64 a0) rfl (x_move) ?_
 refine OV (.int .i64 a1) rfl (x_move) ?_
 refine OV (.bool (decide (a1 < a0))) rfl (x_gtr rfl rfl) ?_
 refine OW.nil ?_
 refine CW.condM (t := decide (a1 < a0)) rfl hm (fun hb2 hm => ?_) (fun hb2 hm => ?_)
 · refine CSR ?_
   refine OV (.int .i64 1) rfl (x_assign) ?_
   refine OW.nil ?_
   refine CW.ret ?_
   obtain rfl := Option.some.inj hm
   exact RR1 rfl rfl ⟨rfl, hL.fresh 0 rfl [] (by decide) (by decide) rfl⟩
 refine CW.skip ?_
 refine CSR ?_
 refine OV (.int .i64 0) rfl (x_assign) ?_
 refine OW.nil ?_
 refine CW.ret ?_
 obtain rfl := Option.some.inj hm
 exact RR1 rfl rfl ⟨rfl, hL.fresh 0 rfl [] (by decide) (by decide) rfl⟩

theorem M.spec_l28Compare_ok (w0 : World) (a0 : Table) {v1 : Value} {v3 : Value} (h2 : rdL (· < w0.heap.size) w0 v1 a0.Points) (h4 : rdL (· < w0.heap.size) w0 v3 a0.Codes) (a1 : List Int) {v5 : Value} (h6 : rdL (· < w0.heap.size) w0 v5 a1) (a2 : Int) (a3 : Int) {r : Int × Int × Int} (hm : M.spec_l28Compare a0 a1 a2 a3 = some r) :
    Calls Tryz.prog 33 #[(.agg #[(.int .i64 a0.Boats), v1, v3]), v5, (.int .i64 a2), (.int .i64 a3)] w0 fun e w' => e = .returned (.tuple #[(.int .i64 r.1), (.int .i64 r.2.1), (.int .i64 r.2.2)]) ∧ Fresh w0 w' [] := by
 unfold M.spec_l28Compare at hm
 refine calls_CW (args := [(.agg #[(.int .i64 a0.Boats), v1, v3]), v5, (.int .i64 a2), (.int .i64 a3)]) Tryz.func33 rfl rfl rfl ?_
 have hL := Hp.start w0
 refine CSR ?_
 refine OW.cons (S_box (cs := #[(.int .i64 a0.Boats), v1, v3]) hL rfl rfl rfl ?_)
 intro wd7 b8 hL
 refine OV (.int .i64 0) rfl (x_assign) ?_
 refine OV (.int .i64 0) rfl (x_assign) ?_
 refine OV (.int .i64 0) rfl (x_assign) ?_
 refine ONR ?_
 refine OV (.agg #[(.int .i64 a0.Boats), v1, v3]) rfl (x_loadN (cs := [(.int .i64 a0.Boats), v1, v3]) U49 Tryz_T49 rfl rfl (hL.cellsB 0 rfl (o := 0) (l := [(.int .i64 a0.Boats), v1, v3]) (by intro j u hj; exact (by simpa using hj)))) ?_
 refine OV v5 rfl (x_move) ?_
 refine OV (.int .i64 a2) rfl (x_move) ?_
 obtain ⟨x9, hx10, hm⟩ := bndE hm
 refine OW.cons (OP.call rfl (x_call (vs := [(.agg #[(.int .i64 a0.Boats), v1, v3]), v5, (.int .i64 a2)]) Tryz_C51 ⟨rfl, rfl, rfl, trivial⟩) (M.spec_l27Counted_ok _ a0 (hL.rdS 1 rfl h2) (hL.rdS 1 rfl h4) a1 (hL.rdS 1 rfl h6) a2 hx10) ?_)
 rintro e13 wd14 ⟨v12, S11, rfl, hF15⟩
 refine ⟨_, rfl, ?_⟩
 have hL := hL.pushAll hF15
 simp only [lA, lB, lC, lD] at hL
 obtain ⟨x16, hx17, hm⟩ := bndE hm
 refine OW.cons (OP.call rfl (x_call (vs := [v12]) Tryz_C50 ⟨rfl, trivial⟩) (M.spec_l28Sorted_ok _ x9 (hL.rdO 0 rfl) hx17) ?_)
 rintro e20 wd21 ⟨v19, S18, rfl, hF22⟩
 refine ⟨_, rfl, ?_⟩
 have hL := hL.pushAll hF22
 simp only [lA, lB, lC, lD] at hL
 refine OV v19 rfl (x_assign) ?_
 refine ONR ?_
 refine OV (.agg #[(.int .i64 a0.Boats), v1, v3]) rfl (x_loadN (cs := [(.int .i64 a0.Boats), v1, v3]) U49 Tryz_T49 rfl rfl (hL.cellsB 2 rfl (o := 0) (l := [(.int .i64 a0.Boats), v1, v3]) (by intro j u hj; exact (by simpa using hj)))) ?_
 refine OV v5 rfl (x_move) ?_
 refine OV (.int .i64 a3) rfl (x_move) ?_
 obtain ⟨x23, hx24, hm⟩ := bndE hm
 refine OW.cons (OP.call rfl (x_call (vs := [(.agg #[(.int .i64 a0.Boats), v1, v3]), v5, (.int .i64 a3)]) Tryz_C51 ⟨rfl, rfl, rfl, trivial⟩) (M.spec_l27Counted_ok _ a0 (hL.rdS 3 rfl h2) (hL.rdS 3 rfl h4) a1 (hL.rdS 3 rfl h6) a3 hx24) ?_)
 rintro e27 wd28 ⟨v26, S25, rfl, hF29⟩
 refine ⟨_, rfl, ?_⟩
 have hL := hL.pushAll hF29
 simp only [lA, lB, lC, lD] at hL
 obtain ⟨x30, hx31, hm⟩ := bndE hm
 refine OW.cons (OP.call rfl (x_call (vs := [v26]) Tryz_C50 ⟨rfl, trivial⟩) (M.spec_l28Sorted_ok _ x23 (hL.rdO 0 rfl) hx31) ?_)
 rintro e34 wd35 ⟨v33, S32, rfl, hF36⟩
 refine ⟨_, rfl, ?_⟩
 have hL := hL.pushAll hF36
 simp only [lA, lB, lC, lD] at hL
 refine OV v33 rfl (x_assign) ?_
 refine ONS ?_
 refine CSR ?_
 refine OV v19 rfl (x_move) ?_
 obtain ⟨x37, hx38, hm⟩ := bndE hm
 refine OW.cons (OP.call rfl (x_call (vs := [v19]) Tryz_C52 ⟨rfl, trivial⟩) (M.spec_l27Sum_ok _ x16 (hL.rdO 2 rfl) hx38) ?_)
 rintro e39 wd40 ⟨rfl, hF41⟩
 refine ⟨_, rfl, ?_⟩
 have hL := hL.pushAll hF41
 simp only [lA, lB, lC, lD] at hL
 refine OV v33 rfl (x_move) ?_
 obtain ⟨x42, hx43, hm⟩ := bndE hm
 refine OW.cons (OP.call rfl (x_call (vs := [v33]) Tryz_C52 ⟨rfl, trivial⟩) (M.spec_l27Sum_ok _ x30 (hL.rdO 0 rfl) hx43) ?_)
 rintro e44 wd45 ⟨rfl, hF46⟩
 refine ⟨_, rfl, ?_⟩
 have hL := hL.pushAll hF46
 simp only [lA, lB, lC, lD] at hL
 refine OV (.bool (x37 != x42)) rfl (x_neq rfl rfl) ?_
 refine OW.nil ?_
 refine CW.condM (t := x37 != x42) rfl hm (fun hb47 hm => ?_) (fun hb47 hm => ?_)
 · refine CSR ?_
   refine OV v19 rfl (x_move) ?_
   obtain ⟨x48, hx49, hm⟩ := bndE hm
   refine OW.cons (OP.call rfl (x_call (vs := [v19]) Tryz_C52 ⟨rfl, trivial⟩) (M.spec_l27Sum_ok _ x16 (hL.rdO 2 rfl) hx49) ?_)
   rintro e50 wd51 ⟨rfl, hF52⟩
   refine ⟨_, rfl, ?_⟩
   have hL := hL.pushAll hF52
   simp only [lA, lB, lC, lD] at hL
   refine OV v33 rfl (x_move) ?_
   obtain ⟨x53, hx54, hm⟩ := bndE hm
   refine OW.cons (OP.call rfl (x_call (vs := [v33]) Tryz_C52 ⟨rfl, trivial⟩) (M.spec_l27Sum_ok _ x30 (hL.rdO 0 rfl) hx54) ?_)
   rintro e55 wd56 ⟨rfl, hF57⟩
   refine ⟨_, rfl, ?_⟩
   have hL := hL.pushAll hF57
   simp only [lA, lB, lC, lD] at hL
   obtain ⟨x58, hx59, hm⟩ := bndE hm
   refine OW.cons (OP.call rfl (x_call (vs := [(.int .i64 x48), (.int .i64 x53)]) Tryz_C53 ⟨rfl, rfl, trivial⟩) (M.spec_l28Sign_ok _ x48 x53 hx59) ?_)
   rintro e60 wd61 ⟨rfl, hF62⟩
   refine ⟨_, rfl, ?_⟩
   have hL := hL.pushAll hF62
   simp only [lA, lB, lC, lD] at hL
   refine OV (.int .i64 x58) rfl (x_assign) ?_
   refine OV (.int .i64 1) rfl (x_assign) ?_
   refine OV (.int .i64 0) rfl (x_assign) ?_
   refine OW.nil ?_
   refine CW.ret ?_
   obtain rfl := Option.some.inj hm
   exact RR3 rfl rfl rfl rfl ⟨rfl, hL.fresh 5 rfl [] (by decide) (by decide) rfl⟩
 refine CW.skip ?_
 refine CW.seq ?_
 refine CSR ?_
 refine OV (.int .i64 0) rfl (x_assign) ?_
 refine OW.nil ?_
 obtain ⟨o155, ho156, hm⟩ := bndE hm
 have hL := hL.sel [0, 2, 4, 5] (by decide) rfl
 refine CW.loopB (fun (s_l1 : Int) (F : Fr) (w : World) => F 2 = (.int .i64 a2) ∧ F 3 = (.int .i64 a3) ∧ F 4 = (.pointer (some ⟨b8, 0, none⟩)) ∧ F 11 = v19 ∧ F 12 = v33 ∧ F 13 = (.int .i64 s_l1) ∧ Hp w0 [Ent.own 2 S32 v33 x30, Ent.own 2 S18 v19 x16, Ent.blk b8 49 #[(.int .i64 a0.Boats), v1, v3], Ent.snap w0 w0.heap.size] w) (fun o => outc o (fun x => some x) (fun s => M.spec_l28Compare_a1 a0 a2 a3 s) = some r) ho156 hm ⟨rfl, rfl, rfl, rfl, rfl, rfl, hL⟩ ?_ ?_
 · intro s_l1 F157 wd158 hJ hm
   have hm := outcE hm
   have hm : M.spec_l28Compare_a1 a0 a2 a3 s_l1 = some r := hm
   unfold M.spec_l28Compare_a1 at hm
   obtain ⟨f159, f160, f161, f162, f163, f164, hL⟩ := hJ
   refine CW.seq ?_
   refine CSR ?_
   refine OV (.pointer (some ⟨b8, 1, none⟩)) rfl (x_fieldAddr (fsz := 1) 0 1 1 U49 rfl Tryz_T47 rfl f161 rfl) ?_
   refine OV v1 rfl (x_load1 U47 rfl rfl (hL.cellB 2 rfl rfl)) ?_
   refine OV (.int .i64 (a0.Points.length : Int)) rfl (x_lenR U47 rfl (hL.rdS 3 rfl h2)) ?_
   refine OV (.int .i64 (w64 ((a0.Points.length : Int) - 1))) rfl (x_sub rfl rfl) ?_
   refine OV (.int .i64 (w64 ((a0.Points.length : Int) - 1))) rfl (x_assign) ?_
   refine OW.nil ?_
   obtain ⟨o323, ho324, hm⟩ := bndE hm
   have hL := hL.sel [2, 3] (by decide) rfl
   refine CW.loopB (fun (s_l2 : Int) (F : Fr) (w : World) => F 2 = (.int .i64 a2) ∧ F 3 = (.int .i64 a3) ∧ F 4 = (.pointer (some ⟨b8, 0, none⟩)) ∧ F 14 = (.int .i64 s_l2) ∧ Hp w0 [Ent.blk b8 49 #[(.int .i64 a0.Boats), v1, v3], Ent.snap w0 w0.heap.size] w) (fun o => outc o (fun x => some x) (fun s => M.spec_l28Compare_a2 s) = some r) ho324 hm ⟨f159, f160, f161, rfl, hL⟩ ?_ ?_
   · intro s_l2 F325 wd326 hJ hm
     have hm := outcE hm
     have hm : M.spec_l28Compare_a2 s_l2 = some r := hm
     unfold M.spec_l28Compare_a2 at hm
     obtain ⟨f327, f328, f329, f330, hL⟩ := hJ
     refine CSR ?_
     refine OV (.int .i64 0) rfl (x_assign) ?_
     refine OV (.int .i64 0) rfl (x_assign) ?_
     refine OV (.int .i64 0) rfl (x_assign) ?_
     refine OW.nil ?_
     refine CW.ret ?_
     obtain rfl := Option.some.inj hm
     exact RR3 rfl rfl rfl rfl ⟨rfl, hL.fresh 1 rfl [] (by decide) (by decide) rfl⟩
   intro s_l2 F331 wd332 t321 hJ hm hr322
   unfold M.spec_l28Compare_l2 at hm
   obtain ⟨f333, f334, f335, f336, hL⟩ := hJ
   refine CW.seq ?_
   refine CSR ?_
   refine OV (.int .i64 s_l2) rfl (x_mv f336) ?_
   refine OV (.bool (decide (0 ≤ s_l2))) rfl (x_geq rfl rfl) ?_
   refine OW.nil ?_
   refine CW.condM (t := decide (0 ≤ s_l2)) rfl hm (fun hb337 hm => ?_) (fun hb337 hm => ?_)
   · refine CW.skip ?_
     refine CW.seq ?_
     refine CW.block ?_
     refine CW.seq ?_
     refine CW.draw Tryz_mixed ?_
     have hL := hL.call (Mod.drew _)
     refine DW.pre (fuel := 0) (fin := bma 17 131071) (C := fun w' => Mod None_ _ w') [0, 1, 2, 3, 4, 5, 6, 7, 8, 9, 10, 11, 12, 13, 14, 15, 16] (Mod.refl _ _) (by kernel_rfl) (by kernel_rfl) ?_
     refine QW.cons rfl (QP.val (v := (.pointer (some ⟨b8, 1, none⟩))) rfl (fun w' hm' => x_fieldAddr (fsz := 1) 0 1 1 U49 rfl Tryz_T47 rfl f335 rfl) ?_)
     refine QW.cons rfl (QP.val (v := v1) rfl (fun w' hm' => x_load1 U47 rfl rfl ((hL.call hm').cellB 0 rfl rfl)) ?_)
     refine QW.cons rfl (QP.val (v := (.int .i64 s_l2)) rfl (fun w' hm' => x_mv f336) ?_)
     obtain ⟨x338, ha339, hm⟩ := bndE hm
     obtain ⟨hz340, ha348⟩ := idxE ha339
     obtain ⟨b341, q342, v343, hix344, hs345, hc346, hr347⟩ := rdN_at h2 hz340 ha348
     refine QW.cons rfl (QP.val (v := (.pointer (some ⟨b341, q342, none⟩))) rfl (fun w' hm' => x_ix U47 Tryz_T26 rfl rfl hix344) ?_)
     refine QW.cons rfl (QP.val (v := v343) rfl (fun w' hm' => x_load1 U26 rfl rfl ((hL.call hm').cellS 1 rfl hs345 hc346)) ?_)
     refine QW.cons rfl (QP.val (v := (.int .i64 a2)) rfl (fun w' hm' => x_mv f333) ?_)
     obtain ⟨x349, ha350, hm⟩ := bndE hm
     obtain ⟨hz351, ha355⟩ := idxE ha350
     obtain ⟨b352, q353, hix354⟩ := rdL_ix (hL.rdS 1 rfl hr347) hz351 ha355
     refine QW.cons rfl (QP.val (v := (.pointer (some ⟨b352, q353, none⟩))) rfl (fun w' hm' => x_ix U26 Tryz_T2 rfl rfl hix354) ?_)
     refine QW.cons rfl (QP.val (v := (.int .i64 x349)) rfl (fun w' hm' => x_load1 U2 rfl rfl (rdF_cells ((hL.call hm').rdS 1 rfl hr347) hix354 ha355 0 _ rfl)) ?_)
     refine QW.cons rfl (QP.val (v := (.pointer (some ⟨b8, 1, none⟩))) rfl (fun w' hm' => x_fieldAddr (fsz := 1) 0 1 1 U49 rfl Tryz_T47 rfl f335 rfl) ?_)
     refine QW.cons rfl (QP.val (v := v1) rfl (fun w' hm' => x_load1 U47 rfl rfl ((hL.call hm').cellB 0 rfl rfl)) ?_)
     refine QW.cons rfl (QP.val (v := (.int .i64 s_l2)) rfl (fun w' hm' => x_mv f336) ?_)
     obtain ⟨x356, ha357, hm⟩ := bndE hm
     obtain ⟨hz358, ha366⟩ := idxE ha357
     obtain ⟨b359, q360, v361, hix362, hs363, hc364, hr365⟩ := rdN_at h2 hz358 ha366
     refine QW.cons rfl (QP.val (v := (.pointer (some ⟨b359, q360, none⟩))) rfl (fun w' hm' => x_ix U47 Tryz_T26 rfl rfl hix362) ?_)
     refine QW.cons rfl (QP.val (v := v361) rfl (fun w' hm' => x_load1 U26 rfl rfl ((hL.call hm').cellS 1 rfl hs363 hc364)) ?_)
     refine QW.cons rfl (QP.val (v := (.int .i64 a3)) rfl (fun w' hm' => x_mv f334) ?_)
     obtain ⟨x367, ha368, hm⟩ := bndE hm
     obtain ⟨hz369, ha373⟩ := idxE ha368
     obtain ⟨b370, q371, hix372⟩ := rdL_ix (hL.rdS 1 rfl hr365) hz369 ha373
     refine QW.cons rfl (QP.val (v := (.pointer (some ⟨b370, q371, none⟩))) rfl (fun w' hm' => x_ix U26 Tryz_T2 rfl rfl hix372) ?_)
     refine QW.cons rfl (QP.val (v := (.int .i64 x367)) rfl (fun w' hm' => x_load1 U2 rfl rfl (rdF_cells ((hL.call hm').rdS 1 rfl hr365) hix372 ha373 0 _ rfl)) ?_)
     refine QW.cons rfl (QP.val (v := (.bool (x349 != x367))) rfl (fun w' hm' => x_neq rfl rfl) ?_)
     refine QW.nil ?_
     intro wd374 hmod
     have hL := hL.call hmod
     refine DW.done (by kernel_rfl) ?_
     refine CW.condM (t := x349 != x367) rfl hm (fun hb375 hm => ?_) (fun hb375 hm => ?_)
     · refine CW.seq ?_
       refine CW.draw Tryz_mixed ?_
       have hL := hL.call (Mod.drew _)
       refine DW.pre (fuel := 0) (fin := bma 21 2097151) (C := fun w' => Mod None_ _ w') [0, 1, 2, 3, 4, 5, 6, 7, 8, 9, 10, 11, 12, 13, 14, 15, 16, 17, 18, 19, 20] (Mod.refl _ _) (by kernel_rfl) (by kernel_rfl) ?_
       refine QW.cons rfl (QP.val (v := (.pointer (some ⟨b8, 1, none⟩))) rfl (fun w' hm' => x_fieldAddr (fsz := 1) 0 1 1 U49 rfl Tryz_T47 rfl f335 rfl) ?_)
       refine QW.cons rfl (QP.val (v := v1) rfl (fun w' hm' => x_load1 U47 rfl rfl ((hL.call hm').cellB 0 rfl rfl)) ?_)
       refine QW.cons rfl (QP.val (v := (.int .i64 s_l2)) rfl (fun w' hm' => x_mv f336) ?_)
       obtain ⟨x376, ha377, hm⟩ := bndE hm
       obtain ⟨hz378, ha386⟩ := idxE ha377
       obtain ⟨b379, q380, v381, hix382, hs383, hc384, hr385⟩ := rdN_at h2 hz378 ha386
       refine QW.cons rfl (QP.val (v := (.pointer (some ⟨b379, q380, none⟩))) rfl (fun w' hm' => x_ix U47 Tryz_T26 rfl rfl hix382) ?_)
       refine QW.cons rfl (QP.val (v := v381) rfl (fun w' hm' => x_load1 U26 rfl rfl ((hL.call hm').cellS 1 rfl hs383 hc384)) ?_)
       refine QW.cons rfl (QP.val (v := (.int .i64 a2)) rfl (fun w' hm' => x_mv f333) ?_)
       obtain ⟨x387, ha388, hm⟩ := bndE hm
       obtain ⟨hz389, ha393⟩ := idxE ha388
       obtain ⟨b390, q391, hix392⟩ := rdL_ix (hL.rdS 1 rfl hr385) hz389 ha393
       refine QW.cons rfl (QP.val (v := (.pointer (some ⟨b390, q391, none⟩))) rfl (fun w' hm' => x_ix U26 Tryz_T2 rfl rfl hix392) ?_)
       refine QW.cons rfl (QP.val (v := (.int .i64 x387)) rfl (fun w' hm' => x_load1 U2 rfl rfl (rdF_cells ((hL.call hm').rdS 1 rfl hr385) hix392 ha393 0 _ rfl)) ?_)
       refine QW.cons rfl (QP.val (v := (.pointer (some ⟨b8, 1, none⟩))) rfl (fun w' hm' => x_fieldAddr (fsz := 1) 0 1 1 U49 rfl Tryz_T47 rfl f335 rfl) ?_)
       refine QW.cons rfl (QP.val (v := v1) rfl (fun w' hm' => x_load1 U47 rfl rfl ((hL.call hm').cellB 0 rfl rfl)) ?_)
       refine QW.cons rfl (QP.val (v := (.int .i64 s_l2)) rfl (fun w' hm' => x_mv f336) ?_)
       obtain ⟨x394, ha395, hm⟩ := bndE hm
       obtain ⟨hz396, ha404⟩ := idxE ha395
       obtain ⟨b397, q398, v399, hix400, hs401, hc402, hr403⟩ := rdN_at h2 hz396 ha404
       refine QW.cons rfl (QP.val (v := (.pointer (some ⟨b397, q398, none⟩))) rfl (fun w' hm' => x_ix U47 Tryz_T26 rfl rfl hix400) ?_)
       refine QW.cons rfl (QP.val (v := v399) rfl (fun w' hm' => x_load1 U26 rfl rfl ((hL.call hm').cellS 1 rfl hs401 hc402)) ?_)
       refine QW.cons rfl (QP.val (v := (.int .i64 a3)) rfl (fun w' hm' => x_mv f334) ?_)
       obtain ⟨x405, ha406, hm⟩ := bndE hm
       obtain ⟨hz407, ha411⟩ := idxE ha406
       obtain ⟨b408, q409, hix410⟩ := rdL_ix (hL.rdS 1 rfl hr403) hz407 ha411
       refine QW.cons rfl (QP.val (v := (.pointer (some ⟨b408, q409, none⟩))) rfl (fun w' hm' => x_ix U26 Tryz_T2 rfl rfl hix410) ?_)
       refine QW.cons rfl (QP.val (v := (.int .i64 x405)) rfl (fun w' hm' => x_load1 U2 rfl rfl (rdF_cells ((hL.call hm').rdS 1 rfl hr403) hix410 ha411 0 _ rfl)) ?_)
       obtain ⟨x412, hx413, hm⟩ := bndE hm
       refine QW.cons rfl (QP.call (v := (.int .i64 x412)) rfl (fun w' hm' => x_call (vs := [(.int .i64 x387), (.int .i64 x405)]) Tryz_C53 ⟨rfl, rfl, trivial⟩) (fun w' hm' => (M.spec_l28Sign_ok w' x387 x405 hx413).mono (fun e w'' h => ⟨h.1, hm'.trans h.2.mod⟩)) ?_)
       refine QW.cons rfl (QP.val (v := (.int .i64 s_l2)) rfl (fun w' hm' => x_mv f336) ?_)
       refine QW.cons rfl (QP.val (v := (.int .i64 x412)) rfl (fun w' hm' => x_assign) ?_)
       refine QW.cons rfl (QP.val (v := (.int .i64 3)) rfl (fun w' hm' => x_assign) ?_)
       refine QW.cons rfl (QP.val (v := (.int .i64 s_l2)) rfl (fun w' hm' => x_assign) ?_)
       refine QW.nil ?_
       intro wd414 hmod
       have hL := hL.call hmod
       refine DW.done (by kernel_rfl) ?_
       refine CW.ret ?_
       obtain rfl := Option.some.inj hm
       have hm := hr322 _ rfl
       obtain rfl := Option.some.inj hm
       exact RR3 rfl rfl rfl rfl ⟨rfl, hL.fresh 1 rfl [] (by decide) (by decide) rfl⟩
     refine CW.skip ?_
     refine CW.regionL ?_
     refine OV (.int .i64 s_l2) rfl (x_mv f336) ?_
     refine OV (.int .i64 (w64 (s_l2 - 1))) rfl (x_sub rfl rfl) ?_
     refine OV (.int .i64 (w64 (s_l2 - 1))) rfl (x_assign) ?_
     refine OW.nil ?_
     obtain rfl := Option.some.inj hm
     exact ⟨_, rfl, ⟨f333, f334, f335, rfl, hL⟩⟩
   refine CW.exit ?_
   refine XJ.hit ?_
   obtain rfl := Option.some.inj hm
   exact ⟨_, rfl, ⟨f333, f334, f335, f336, hL⟩⟩
 intro s_l1 F415 wd416 t153 hJ hm hr154
 unfold M.spec_l28Compare_l1 at hm
 obtain ⟨f417, f418, f419, f420, f421, f422, hL⟩ := hJ
 refine CW.seq ?_
 refine CW.seqJ (fun (s_j1 : Bool) (F : Fr) (w : World) => F 2 = (.int .i64 a2) ∧ F 3 = (.int .i64 a3) ∧ F 4 = (.pointer (some ⟨b8, 0, none⟩)) ∧ F 11 = v19 ∧ F 12 = v33 ∧ F 13 = (.int .i64 s_l1) ∧ F 44 = (.bool s_j1) ∧ Hp w0 [Ent.own 2 S32 v33 x30, Ent.own 2 S18 v19 x16, Ent.blk b8 49 #[(.int .i64 a0.Boats), v1, v3], Ent.snap w0 w0.heap.size] w) (fun s_j1 => M.spec_l28Compare_j1 x16 x30 s_l1 s_j1 = some t153) ?_ ?_
 · refine CW.regionL ?_
   refine OV (.int .i64 s_l1) rfl (x_mv f422) ?_
   refine OV v19 rfl (x_mv f420) ?_
   refine OV (.int .i64 (x16.length : Int)) rfl (x_lenR U26 rfl (hL.rdO 1 rfl)) ?_
   refine OV (.bool (decide (s_l1 < (x16.length : Int)))) rfl (x_lss rfl rfl) ?_
   refine OV (.bool (decide (s_l1 < (x16.length : Int)))) rfl (x_move) ?_
   refine ifB_elim hm (fun hb467 hm => ?_) (fun hb467 hm => ?_)
   · refine OW.cons (OP.yes' rfl rfl hb467 (OP.val (v := (.int .i64 s_l1)) rfl (x_mv f422) ?_))
     refine OW.cons (OP.yes' rfl rfl hb467 (OP.val (v := v33) rfl (x_mv f421) ?_))
     refine OW.cons (OP.yes' rfl rfl hb467 (OP.val (v := (.int .i64 (x30.length : Int))) rfl (x_lenR U26 rfl (hL.rdO 0 rfl)) ?_))
     refine OW.cons (OP.yes' rfl rfl hb467 (OP.val (v := (.bool (decide (s_l1 < (x30.length : Int))))) rfl (x_lss rfl rfl) ?_))
     refine OV (.bool (decide (s_l1 < (x30.length : Int)))) rfl (x_pickT' rfl hb467 rfl) ?_
     refine OW.nil ?_
     exact ⟨decide (s_l1 < (x30.length : Int)), hm, ⟨f417, f418, f419, f420, f421, f422, rfl, hL⟩⟩
   refine OW.cons (OP.no' rfl rfl hb467 rfl ?_)
   refine OW.cons (OP.no' rfl rfl hb467 rfl ?_)
   refine OW.cons (OP.no' rfl rfl hb467 rfl ?_)
   refine OW.cons (OP.no' rfl rfl hb467 rfl ?_)
   refine OV (.bool false) rfl (x_pickF' rfl hb467 rfl) ?_
   refine OW.nil ?_
   exact ⟨false, hm, ⟨f417, f418, f419, f420, f421, f422, rfl, hL⟩⟩
 intro s_j1 F424 wd425 hJ hm
 unfold M.spec_l28Compare_j1 at hm
 obtain ⟨f426, f427, f428, f429, f430, f431, f432, hL⟩ := hJ
 refine CW.condM (t := s_j1) f432 hm (fun hb433 hm => ?_) (fun hb433 hm => ?_)
 · refine CW.skip ?_
   refine CW.seq ?_
   refine CW.block ?_
   refine CW.seq ?_
   refine CW.draw Tryz_mixed ?_
   have hL := hL.call (Mod.drew _)
   refine DW.pre (fuel := 0) (fin := bma 9 511) (C := fun w' => Mod None_ _ w') [0, 1, 2, 3, 4, 5, 6, 7, 8] (Mod.refl _ _) (by kernel_rfl) (by kernel_rfl) ?_
   refine QW.cons rfl (QP.val (v := v19) rfl (fun w' hm' => x_mv f429) ?_)
   refine QW.cons rfl (QP.val (v := (.int .i64 s_l1)) rfl (fun w' hm' => x_mv f431) ?_)
   obtain ⟨x434, ha435, hm⟩ := bndE hm
   obtain ⟨hz436, ha440⟩ := idxE ha435
   obtain ⟨b437, q438, hix439⟩ := rdL_ix (hL.rdO 1 rfl) hz436 ha440
   refine QW.cons rfl (QP.val (v := (.pointer (some ⟨b437, q438, none⟩))) rfl (fun w' hm' => x_ix U26 Tryz_T2 rfl rfl hix439) ?_)
   refine QW.cons rfl (QP.val (v := (.int .i64 x434)) rfl (fun w' hm' => x_load1 U2 rfl rfl (rdF_cells ((hL.call hm').rdO 1 rfl) hix439 ha440 0 _ rfl)) ?_)
   refine QW.cons rfl (QP.val (v := v33) rfl (fun w' hm' => x_mv f430) ?_)
   refine QW.cons rfl (QP.val (v := (.int .i64 s_l1)) rfl (fun w' hm' => x_mv f431) ?_)
   obtain ⟨x441, ha442, hm⟩ := bndE hm
   obtain ⟨hz443, ha447⟩ := idxE ha442
   obtain ⟨b444, q445, hix446⟩ := rdL_ix (hL.rdO 0 rfl) hz443 ha447
   refine QW.cons rfl (QP.val (v := (.pointer (some ⟨b444, q445, none⟩))) rfl (fun w' hm' => x_ix U26 Tryz_T2 rfl rfl hix446) ?_)
   refine QW.cons rfl (QP.val (v := (.int .i64 x441)) rfl (fun w' hm' => x_load1 U2 rfl rfl (rdF_cells ((hL.call hm').rdO 0 rfl) hix446 ha447 0 _ rfl)) ?_)
   refine QW.cons rfl (QP.val (v := (.bool (x434 != x441))) rfl (fun w' hm' => x_neq rfl rfl) ?_)
   refine QW.nil ?_
   intro wd448 hmod
   have hL := hL.call hmod
   refine DW.done (by kernel_rfl) ?_
   refine CW.condM (t := x434 != x441) rfl hm (fun hb449 hm => ?_) (fun hb449 hm => ?_)
   · refine CW.seq ?_
     refine CW.draw Tryz_mixed ?_
     have hL := hL.call (Mod.drew _)
     refine DW.pre (fuel := 0) (fin := bma 12 4095) (C := fun w' => Mod None_ _ w') [0, 1, 2, 3, 4, 5, 6, 7, 8, 9, 10, 11] (Mod.refl _ _) (by kernel_rfl) (by kernel_rfl) ?_
     refine QW.cons rfl (QP.val (v := v19) rfl (fun w' hm' => x_mv f429) ?_)
     refine QW.cons rfl (QP.val (v := (.int .i64 s_l1)) rfl (fun w' hm' => x_mv f431) ?_)
     obtain ⟨x450, ha451, hm⟩ := bndE hm
     obtain ⟨hz452, ha456⟩ := idxE ha451
     obtain ⟨b453, q454, hix455⟩ := rdL_ix (hL.rdO 1 rfl) hz452 ha456
     refine QW.cons rfl (QP.val (v := (.pointer (some ⟨b453, q454, none⟩))) rfl (fun w' hm' => x_ix U26 Tryz_T2 rfl rfl hix455) ?_)
     refine QW.cons rfl (QP.val (v := (.int .i64 x450)) rfl (fun w' hm' => x_load1 U2 rfl rfl (rdF_cells ((hL.call hm').rdO 1 rfl) hix455 ha456 0 _ rfl)) ?_)
     refine QW.cons rfl (QP.val (v := v33) rfl (fun w' hm' => x_mv f430) ?_)
     refine QW.cons rfl (QP.val (v := (.int .i64 s_l1)) rfl (fun w' hm' => x_mv f431) ?_)
     obtain ⟨x457, ha458, hm⟩ := bndE hm
     obtain ⟨hz459, ha463⟩ := idxE ha458
     obtain ⟨b460, q461, hix462⟩ := rdL_ix (hL.rdO 0 rfl) hz459 ha463
     refine QW.cons rfl (QP.val (v := (.pointer (some ⟨b460, q461, none⟩))) rfl (fun w' hm' => x_ix U26 Tryz_T2 rfl rfl hix462) ?_)
     refine QW.cons rfl (QP.val (v := (.int .i64 x457)) rfl (fun w' hm' => x_load1 U2 rfl rfl (rdF_cells ((hL.call hm').rdO 0 rfl) hix462 ha463 0 _ rfl)) ?_)
     obtain ⟨x464, hx465, hm⟩ := bndE hm
     refine QW.cons rfl (QP.call (v := (.int .i64 x464)) rfl (fun w' hm' => x_call (vs := [(.int .i64 x450), (.int .i64 x457)]) Tryz_C53 ⟨rfl, rfl, trivial⟩) (fun w' hm' => (M.spec_l28Sign_ok w' x450 x457 hx465).mono (fun e w'' h => ⟨h.1, hm'.trans h.2.mod⟩)) ?_)
     refine QW.cons rfl (QP.val (v := (.int .i64 x464)) rfl (fun w' hm' => x_assign) ?_)
     refine QW.cons rfl (QP.val (v := (.int .i64 2)) rfl (fun w' hm' => x_assign) ?_)
     refine QW.cons rfl (QP.val (v := (.int .i64 0)) rfl (fun w' hm' => x_assign) ?_)
     refine QW.nil ?_
     intro wd466 hmod
     have hL := hL.call hmod
     refine DW.done (by kernel_rfl) ?_
     refine CW.ret ?_
     obtain rfl := Option.some.inj hm
     have hm := hr154 _ rfl
     obtain rfl := Option.some.inj hm
     exact RR3 rfl rfl rfl rfl ⟨rfl, hL.fresh 3 rfl [] (by decide) (by decide) rfl⟩
   refine CW.skip ?_
   refine CW.regionL ?_
   refine OV (.int .i64 s_l1) rfl (x_mv f431) ?_
   refine OV (.int .i64 (w64 (s_l1 + 1))) rfl (x_add rfl rfl) ?_
   refine OV (.int .i64 (w64 (s_l1 + 1))) rfl (x_assign) ?_
   refine OW.nil ?_
   obtain rfl := Option.some.inj hm
   exact ⟨_, rfl, ⟨f426, f427, f428, f429, f430, rfl, hL⟩⟩
 refine CW.exit ?_
 refine XJ.hit ?_
 obtain rfl := Option.some.inj hm
 exact ⟨_, rfl, ⟨f426, f427, f428, f429, f430, f431, hL⟩⟩

theorem M.spec_l28Rank_ok (w0 : World) (a0 : Table) {v1 : Value} {v3 : Value} (h2 : rdL (· < w0.heap.size) w0 v1 a0.Points) (h4 : rdL (· < w0.heap.size) w0 v3 a0.Codes) (a1 : List Int) {v5 : Value} (h6 : rdL (· < w0.heap.size) w0 v5 a1) (a2 : Int) {r : Int} (hm : M.spec_l28Rank a0 a1 a2 = some r) :
    Calls Tryz.prog 18 #[(.agg #[(.int .i64 a0.Boats), v1, v3]), v5, (.int .i64 a2)] w0 fun e w' => e = .returned (.int .i64 r) ∧ Fresh w0 w' [] := by
 unfold M.spec_l28Rank at hm
 refine calls_CW (args := [(.agg #[(.int .i64 a0.Boats), v1, v3]), v5, (.int .i64 a2)]) Tryz.func18 rfl rfl rfl ?_
 have hL := Hp.start w0
 refine CSR ?_
 refine OW.cons (S_box (cs := #[(.int .i64 a0.Boats), v1, v3]) hL rfl rfl rfl ?_)
 intro wd7 b8 hL
 refine OV (.int .i64 0) rfl (x_assign) ?_
 refine ONR ?_
 refine OV (.int .i64 1) rfl (x_assign) ?_
 refine ONS ?_
 refine CSR ?_
 refine OV (.int .i64 0) rfl (x_assign) ?_
 refine OW.nil ?_
 obtain ⟨o103, ho104, hm⟩ := bndE hm
 refine CW.loopB (fun (s_l1 : Int × Int) (F : Fr) (w : World) => F 1 = v5 ∧ F 2 = (.int .i64 a2) ∧ F 3 = (.pointer (some ⟨b8, 0, none⟩)) ∧ F 7 = (.int .i64 s_l1.1) ∧ F 8 = (.int .i64 s_l1.2) ∧ Hp w0 [Ent.blk b8 49 #[(.int .i64 a0.Boats), v1, v3], Ent.snap w0 w0.heap.size] w) (fun o => outc o (fun x => some x) (fun s => M.spec_l28Rank_a1 s) = some r) ho104 hm ⟨rfl, rfl, rfl, rfl, rfl, hL⟩ ?_ ?_
 · intro s_l1 F105 wd106 hJ hm
   have hm := outcE hm
   have hm : M.spec_l28Rank_a1 s_l1 = some r := hm
   unfold M.spec_l28Rank_a1 at hm
   obtain ⟨f107, f108, f109, f110, f111, hL⟩ := hJ
   refine CSR ?_
   refine OV (.int .i64 s_l1.1) rfl (x_mv f110) ?_
   refine OV (.int .i64 s_l1.1) rfl (x_assign) ?_
   refine OW.nil ?_
   refine CW.ret ?_
   obtain rfl := Option.some.inj hm
   exact RR1 rfl rfl ⟨rfl, hL.fresh 1 rfl [] (by decide) (by decide) rfl⟩
 intro s_l1 F112 wd113 t101 hJ hm hr102
 unfold M.spec_l28Rank_l1 at hm
 obtain ⟨f114, f115, f116, f117, f118, hL⟩ := hJ
 refine CW.seq ?_
 refine CSR ?_
 refine OV (.int .i64 s_l1.2) rfl (x_mv f118) ?_
 refine OV (.pointer (some ⟨b8, 0, none⟩)) rfl (x_fieldAddr (fsz := 1) 0 0 0 U49 rfl Tryz_T2 rfl f116 rfl) ?_
 refine OV (.int .i64 a0.Boats) rfl (x_load1 U2 rfl rfl (hL.cellB 0 rfl rfl)) ?_
 refine OV (.bool (decide (s_l1.2 < a0.Boats))) rfl (x_lss rfl rfl) ?_
 refine OW.nil ?_
 refine CW.condM (t := decide (s_l1.2 < a0.Boats)) rfl hm (fun hb119 hm => ?_) (fun hb119 hm => ?_)
 · refine CW.skip ?_
   refine CW.seqJ (fun (s_j1 : Int) (F : Fr) (w : World) => F 1 = v5 ∧ F 2 = (.int .i64 a2) ∧ F 3 = (.pointer (some ⟨b8, 0, none⟩)) ∧ F 7 = (.int .i64 s_j1) ∧ F 8 = (.int .i64 s_l1.2) ∧ Hp w0 [Ent.blk b8 49 #[(.int .i64 a0.Boats), v1, v3], Ent.snap w0 w0.heap.size] w) (fun s_j1 => M.spec_l28Rank_j1 s_l1 s_j1 = some t101) ?_ ?_
   · refine CW.blockJ (fun (s_j2 : Int) (F : Fr) (w : World) => F 1 = v5 ∧ F 2 = (.int .i64 a2) ∧ F 3 = (.pointer (some ⟨b8, 0, none⟩)) ∧ F 7 = (.int .i64 s_j2) ∧ F 8 = (.int .i64 s_l1.2) ∧ Hp w0 [Ent.blk b8 49 #[(.int .i64 a0.Boats), v1, v3], Ent.snap w0 w0.heap.size] w) (fun s_j2 => M.spec_l28Rank_j2 s_l1 s_j2 = some t101) ?_ ?_
     · refine CSR ?_
       refine OV (.agg #[(.int .i64 a0.Boats), v1, v3]) rfl (x_loadN (cs := [(.int .i64 a0.Boats), v1, v3]) U49 Tryz_T49 rfl f116 (hL.cellsB 0 rfl (o := 0) (l := [(.int .i64 a0.Boats), v1, v3]) (by intro j u hj; exact (by simpa using hj)))) ?_
       refine OV v5 rfl (x_mv f114) ?_
       refine OV (.int .i64 s_l1.2) rfl (x_mv f118) ?_
       refine OV (.int .i64 a2) rfl (x_mv f115) ?_
       obtain ⟨x159, hx160, hm⟩ := bndE hm
       refine OW.cons (OP.call rfl (x_call (vs := [(.agg #[(.int .i64 a0.Boats), v1, v3]), v5, (.int .i64 s_l1.2), (.int .i64 a2)]) Tryz_C33 ⟨rfl, rfl, rfl, rfl, trivial⟩) (M.spec_l28Compare_ok _ a0 (hL.rdS 1 rfl h2) (hL.rdS 1 rfl h4) a1 (hL.rdS 1 rfl h6) s_l1.2 a2 hx160) ?_)
       rintro e161 wd162 ⟨rfl, hF163⟩
       refine ⟨_, rfl, ?_⟩
       have hL := hL.pushAll hF163
       simp only [lA, lB, lC, lD] at hL
       refine OV (.tuple #[(.int .i64 x159.1), (.int .i64 x159.2.1), (.int .i64 x159.2.2)]) rfl (x_move) ?_
       refine OV (.int .i64 x159.1) rfl (x_extract rfl rfl) ?_
       refine OV (.int .i64 x159.2.1) rfl (x_extract rfl rfl) ?_
       refine OV (.int .i64 x159.2.2) rfl (x_extract rfl rfl) ?_
       refine OV (.int .i64 x159.1) rfl (x_assign) ?_
       refine OV (.int .i64 x159.2.1) rfl (x_assign) ?_
       refine OV (.int .i64 x159.2.2) rfl (x_assign) ?_
       refine ONR ?_
       refine OV (.int .i64 x159.1) rfl (x_move) ?_
       refine OV (.bool (decide (x159.1 < 0))) rfl (x_lss rfl rfl) ?_
       refine OW.nil ?_
       refine CW.condM (t := decide (x159.1 < 0)) rfl hm (fun hb164 hm => ?_) (fun hb164 hm => ?_)
       · refine CW.regionL ?_
         refine OV (.int .i64 s_l1.1) rfl (x_mv f117) ?_
         refine OV (.int .i64 (w64 (s_l1.1 + 1))) rfl (x_add rfl rfl) ?_
         refine OV (.int .i64 (w64 (s_l1.1 + 1))) rfl (x_assign) ?_
         refine OW.nil ?_
         exact ⟨w64 (s_l1.1 + 1), hm, ⟨f114, f115, f116, rfl, f118, hL⟩⟩
       refine CW.skip ?_
       exact ⟨s_l1.1, hm, ⟨f114, f115, f116, f117, f118, hL⟩⟩
     intro s_j2 F152 wd153 hJ hm
     unfold M.spec_l28Rank_j2 at hm
     obtain ⟨f154, f155, f156, f157, f158, hL⟩ := hJ
     exact ⟨s_j2, hm, ⟨f154, f155, f156, f157, f158, hL⟩⟩
   intro s_j1 F139 wd140 hJ hm
   unfold M.spec_l28Rank_j1 at hm
   obtain ⟨f141, f142, f143, f144, f145, hL⟩ := hJ
   refine CW.regionL ?_
   refine OV (.int .i64 s_l1.2) rfl (x_mv f145) ?_
   refine OV (.int .i64 (w64 (s_l1.2 + 1))) rfl (x_add rfl rfl) ?_
   refine OV (.int .i64 (w64 (s_l1.2 + 1))) rfl (x_assign) ?_
   refine OW.nil ?_
   obtain rfl := Option.some.inj hm
   exact ⟨_, rfl, ⟨f141, f142, f143, f144, rfl, hL⟩⟩
 refine CW.exit ?_
 refine XJ.hit ?_
 obtain rfl := Option.some.inj hm
 exact ⟨_, rfl, ⟨f114, f115, f116, f117, f118, hL⟩⟩

theorem M.spec_PlacesLost_ok (w0 : World) (a0 : Series) {v1 : Value} (h2 : rdL (· < w0.heap.size) w0 v1 a0.Races) (a1 : List Penalty) {v3 : Value} (h4 : rdL (· < w0.heap.size) w0 v3 a1) (a2 : List Int) {v5 : Value} (h6 : rdL (· < w0.heap.size) w0 v5 a2) (a3 : Int) {r : Int × Int} (hm : M.spec_PlacesLost a0 a1 a2 a3 = some r) :
    Calls Tryz.prog 6 #[(.agg #[(.int .i64 a0.Boats), (.int .i64 a0.Scheme), v1]), v3, v5, (.int .i64 a3)] w0 fun e w' => e = .returned (.tuple #[(.int .i64 r.1), (.int .i64 r.2)]) ∧ Fresh w0 w' [] := by
 unfold M.spec_PlacesLost at hm
 refine calls_CW (args := [(.agg #[(.int .i64 a0.Boats), (.int .i64 a0.Scheme), v1]), v3, v5, (.int .i64 a3)]) Tryz.func6 rfl rfl rfl ?_
 have hL := Hp.start w0
 refine CSR ?_
 refine OW.cons (S_box (cs := #[(.int .i64 a0.Boats), (.int .i64 a0.Scheme), v1]) hL rfl rfl rfl ?_)
 intro wd7 b8 hL
 refine OV (.int .i64 0) rfl (x_assign) ?_
 refine OV (.int .i64 0) rfl (x_assign) ?_
 refine ONR ?_
 refine OV (.agg #[(.int .i64 a0.Boats), (.int .i64 a0.Scheme), v1]) rfl (x_loadN (cs := [(.int .i64 a0.Boats), (.int .i64 a0.Scheme), v1]) U33 Tryz_T33 rfl rfl (hL.cellsB 0 rfl (o := 0) (l := [(.int .i64 a0.Boats), (.int .i64 a0.Scheme), v1]) (by intro j u hj; exact (by simpa using hj)))) ?_
 refine OV v3 rfl (x_move) ?_
 obtain ⟨x9, hx10, hm⟩ := bndE hm
 refine OW.cons (OP.call rfl (x_call (vs := [(.agg #[(.int .i64 a0.Boats), (.int .i64 a0.Scheme), v1]), v3]) Tryz_C15 ⟨rfl, rfl, trivial⟩) (M.spec_l21Result_ok _ a0 (hL.rdS 1 rfl h2) a1 (hL.rdS 1 rfl h4) hx10) ?_)
 rintro e11 wd12 ⟨rfl, hF13⟩
 refine ⟨_, rfl, ?_⟩
 have hL := hL.pushAll hF13
 simp only [lA, lB, lC, lD] at hL
 refine OV (.int .i64 x9) rfl (x_assign) ?_
 refine OW.nil ?_
 refine CW.seqJ (fun (s_j1 : Int) (F : Fr) (w : World) => F 1 = v3 ∧ F 2 = v5 ∧ F 3 = (.int .i64 a3) ∧ F 4 = (.pointer (some ⟨b8, 0, none⟩)) ∧ F 10 = (.int .i64 s_j1) ∧ Hp w0 [Ent.blk b8 33 #[(.int .i64 a0.Boats), (.int .i64 a0.Scheme), v1], Ent.snap w0 w0.heap.size] w) (fun s_j1 => M.spec_PlacesLost_j1 a0 a1 a2 a3 s_j1 = some r) ?_ ?_
 · refine CW.seqJ (fun (s_j2 : Bool) (F : Fr) (w : World) => F 1 = v3 ∧ F 2 = v5 ∧ F 3 = (.int .i64 a3) ∧ F 4 = (.pointer (some ⟨b8, 0, none⟩)) ∧ F 10 = (.int .i64 x9) ∧ F 28 = (.bool s_j2) ∧ Hp w0 [Ent.blk b8 33 #[(.int .i64 a0.Boats), (.int .i64 a0.Scheme), v1], Ent.snap w0 w0.heap.size] w) (fun s_j2 => M.spec_PlacesLost_j2 a0 a1 a2 a3 x9 s_j2 = some r) ?_ ?_
   · refine CW.regionL ?_
     refine OV (.int .i64 x9) rfl (x_move) ?_
     refine OV (.bool (x9 == 0)) rfl (x_eql rfl rfl) ?_
     refine OV (.bool (x9 == 0)) rfl (x_move) ?_
     refine ifB_elim hm (fun hb132 hm => ?_) (fun hb132 hm => ?_)
     · refine OW.cons (OP.yes' rfl rfl hb132 (OP.val (v := v5) rfl (x_move) ?_))
       obtain ⟨x133, hx134, hm⟩ := bndE hm
       refine OW.cons (OP.yes' rfl rfl hb132 (OP.call rfl (x_call (vs := [v5]) Tryz_C16 ⟨rfl, trivial⟩) (M.spec_IsDiscardRule_ok _ a2 (hL.rdS 1 rfl h6) hx134) ?_))
       rintro e135 wd136 ⟨rfl, hF137⟩
       refine ⟨_, rfl, ?_⟩
       have hL := hL.pushAll hF137
       simp only [lA, lB, lC, lD] at hL
       refine OW.cons (OP.yes' rfl rfl hb132 (OP.val (v := (.bool (!x133))) rfl (x_not rfl) ?_))
       refine OW.cons (OP.yes' rfl rfl hb132 (OP.val (v := (.bool (!x133))) rfl (x_move) ?_))
       refine ifB_elim hm (fun hb138 hm => ?_) (fun hb138 hm => ?_)
       · refine OW.cons (OP.no' rfl rfl hb138 rfl ?_)
         refine OW.cons (OP.no' rfl rfl hb138 rfl ?_)
         refine OW.cons (OP.no' rfl rfl hb138 rfl ?_)
         refine OW.cons (OP.no' rfl rfl hb138 rfl ?_)
         refine OW.cons (OP.no' rfl rfl hb138 rfl ?_)
         refine OW.cons (OP.no' rfl rfl hb138 rfl ?_)
         refine OW.cons (OP.yes' rfl rfl hb132 (OP.val (v := (.bool true)) rfl (x_pickT' rfl hb138 rfl) ?_))
         refine OV (.bool true) rfl (x_pickT' rfl hb132 rfl) ?_
         refine OW.nil ?_
         exact ⟨true, hm, ⟨rfl, rfl, rfl, rfl, rfl, rfl, hL⟩⟩
       refine OW.cons (OP.yes' rfl rfl hb138 (OP.val (v := (.int .i64 a3)) rfl (x_move) ?_))
       refine OW.cons (OP.yes' rfl rfl hb138 (OP.val (v := (.pointer (some ⟨b8, 0, none⟩))) rfl (x_fieldAddr (fsz := 1) 0 0 0 U33 rfl Tryz_T2 rfl rfl rfl) ?_))
       refine OW.cons (OP.yes' rfl rfl hb138 (OP.val (v := (.int .i64 a0.Boats)) rfl (x_load1 U2 rfl rfl (hL.cellB 0 rfl rfl)) ?_))
       refine OW.cons (OP.yes' rfl rfl hb138 (OP.val (v := (.int .i64 (w64 (a0.Boats - 1)))) rfl (x_sub rfl rfl) ?_))
       obtain ⟨x139, hx140, hm⟩ := bndE hm
       refine OW.cons (OP.yes' rfl rfl hb138 (OP.call rfl (x_call (vs := [(.int .i64 a3), (.int .i64 0), (.int .i64 (w64 (a0.Boats - 1)))]) Tryz_C17 ⟨rfl, rfl, rfl, trivial⟩) (M.spec_l01In_ok _ a3 0 (w64 (a0.Boats - 1)) hx140) ?_))
       rintro e141 wd142 ⟨rfl, hF143⟩
       refine ⟨_, rfl, ?_⟩
       have hL := hL.pushAll hF143
       simp only [lA, lB, lC, lD] at hL
       refine OW.cons (OP.yes' rfl rfl hb138 (OP.val (v := (.bool (!x139))) rfl (x_not rfl) ?_))
       refine OW.cons (OP.yes' rfl rfl hb132 (OP.val (v := (.bool (!x139))) rfl (x_pickF' rfl hb138 rfl) ?_))
       refine OV (.bool (!x139)) rfl (x_pickT' rfl hb132 rfl) ?_
       refine OW.nil ?_
       exact ⟨!x139, hm, ⟨rfl, rfl, rfl, rfl, rfl, rfl, hL⟩⟩
     refine OW.cons (OP.no' rfl rfl hb132 rfl ?_)
     refine OW.cons (OP.no' rfl rfl hb132 rfl ?_)
     refine OW.cons (OP.no' rfl rfl hb132 rfl ?_)
     refine OW.cons (OP.no' rfl rfl hb132 rfl ?_)
     refine OW.cons (OP.noU rfl rfl rfl ?_)
     refine OW.cons (OP.noU rfl rfl rfl ?_)
     refine OW.cons (OP.noU rfl rfl rfl ?_)
     refine OW.cons (OP.noU rfl rfl rfl ?_)
     refine OW.cons (OP.noU rfl rfl rfl ?_)
     refine OW.cons (OP.noU rfl rfl rfl ?_)
     refine OW.cons (OP.no' rfl rfl hb132 rfl ?_)
     refine OV (.bool false) rfl (x_pickF' rfl hb132 rfl) ?_
     refine OW.nil ?_
     exact ⟨false, hm, ⟨rfl, rfl, rfl, rfl, rfl, rfl, hL⟩⟩
   intro s_j2 F123 wd124 hJ hm
   unfold M.spec_PlacesLost_j2 at hm
   obtain ⟨f125, f126, f127, f128, f129, f130, hL⟩ := hJ
   refine CW.condM (t := s_j2) f130 hm (fun hb131 hm => ?_) (fun hb131 hm => ?_)
   · refine CW.regionL ?_
     refine OV (.int .i64 2) rfl (x_assign) ?_
     refine OW.nil ?_
     exact ⟨2, hm, ⟨f125, f126, f127, f128, rfl, hL⟩⟩
   refine CW.skip ?_
   exact ⟨x9, hm, ⟨f125, f126, f127, f128, f129, hL⟩⟩
 intro s_j1 F47 wd48 hJ hm
 unfold M.spec_PlacesLost_j1 at hm
 obtain ⟨f49, f50, f51, f52, f53, hL⟩ := hJ
 refine CW.seq ?_
 refine CSR ?_
 refine OV (.int .i64 s_j1) rfl (x_mv f53) ?_
 refine OV (.bool (s_j1 != 0)) rfl (x_neq rfl rfl) ?_
 refine OW.nil ?_
 refine CW.condM (t := s_j1 != 0) rfl hm (fun hb54 hm => ?_) (fun hb54 hm => ?_)
 · refine CSR ?_
   refine OV (.int .i64 s_j1) rfl (x_mv f53) ?_
   refine OV (.int .i64 0) rfl (x_assign) ?_
   refine OV (.int .i64 s_j1) rfl (x_assign) ?_
   refine OW.nil ?_
   refine CW.ret ?_
   obtain rfl := Option.some.inj hm
   exact RR2 rfl rfl rfl ⟨rfl, hL.fresh 1 rfl [] (by decide) (by decide) rfl⟩
 refine CW.skip ?_
 refine CW.seq ?_
 refine CW.drawH (fun w' => Hp w0 [Ent.blk b8 33 #[(.int .i64 a0.Boats), (.int .i64 a0.Scheme), v1], Ent.snap w0 w0.heap.size] w') Tryz_mixed ?_
 have hL := hL.call (Mod.drew _)
 have hS := (hL.sel [0, 1] (by decide) rfl)
 refine DH.take 0 rfl (by kernel_rfl) (by kernel_rfl) (by kernel_rfl) rfl rfl hS (YH.val (v := (.agg #[(.int .i64 a0.Boats), (.int .i64 a0.Scheme), v1])) (fun w' hS' => x_loadN (cs := [(.int .i64 a0.Boats), (.int .i64 a0.Scheme), v1]) U33 Tryz_T33 rfl f52 (hS'.cellsB 0 rfl (o := 0) (l := [(.int .i64 a0.Boats), (.int .i64 a0.Scheme), v1]) (by intro j u hj; exact (by simpa using hj))))) ?_
 have hS := (hL.sel [0, 1] (by decide) rfl)
 refine DH.take 1 rfl (by kernel_rfl) (by kernel_rfl) (by kernel_rfl) rfl rfl hS (YH.val (v := v3) (fun w' hS' => x_mv f49)) ?_
 have hS := (hL.sel [0, 1] (by decide) rfl)
 refine DH.take 3 rfl (by kernel_rfl) (by kernel_rfl) (by kernel_rfl) rfl rfl hS (YH.val (v := v5) (fun w' hS' => x_mv f50)) ?_
 have hS := (hL.sel [0, 1] (by decide) rfl)
 refine DH.take 4 rfl (by kernel_rfl) (by kernel_rfl) (by kernel_rfl) rfl rfl hS (YH.val (v := (.int .i64 a3)) (fun w' hS' => x_mv f51)) ?_
 have hS := (hL.sel [0, 1] (by decide) rfl)
 refine DH.take 6 rfl (by kernel_rfl) (by kernel_rfl) (by kernel_rfl) rfl rfl hS (YH.val (v := (.agg #[(.int .i64 a0.Boats), (.int .i64 a0.Scheme), v1])) (fun w' hS' => x_loadN (cs := [(.int .i64 a0.Boats), (.int .i64 a0.Scheme), v1]) U33 Tryz_T33 rfl f52 (hS'.cellsB 0 rfl (o := 0) (l := [(.int .i64 a0.Boats), (.int .i64 a0.Scheme), v1]) (by intro j u hj; exact (by simpa using hj))))) ?_
 have hS := (hL.sel [0, 1] (by decide) rfl)
 refine DH.take 8 rfl (by kernel_rfl) (by kernel_rfl) (by kernel_rfl) rfl rfl hS (YH.val (v := v5) (fun w' hS' => x_mv f50)) ?_
 have hS := (hL.sel [0, 1] (by decide) rfl)
 refine DH.take 9 rfl (by kernel_rfl) (by kernel_rfl) (by kernel_rfl) rfl rfl hS (YH.val (v := (.int .i64 a3)) (fun w' hS' => x_mv f51)) ?_
 obtain ⟨x83, hx84, hm⟩ := bndE hm
 refine DH.only 2 rfl (by kernel_rfl) (OP.call rfl (x_call (vs := [(.agg #[(.int .i64 a0.Boats), (.int .i64 a0.Scheme), v1]), v3]) Tryz_C19 ⟨rfl, rfl, trivial⟩) (M.spec_l21Table_ok _ a0 (hL.rdS 1 rfl h2) a1 (hL.rdS 1 rfl h4) hx84) ?_)
 rintro e89 wd90 ⟨v86, S85, v88, S87, rfl, hF91⟩
 refine ⟨_, rfl, ?_⟩
 have hL := hL.pushAll hF91
 simp only [lA, lB, lC, lD] at hL
 refine ⟨(hL.sel [2, 3] (by decide) rfl), ?_⟩
 obtain ⟨x92, hx93, hm⟩ := bndE hm
 refine DH.only 5 rfl (by kernel_rfl) (OP.call rfl (x_call (vs := [(.agg #[(.int .i64 x83.Boats), v86, v88]), v5, (.int .i64 a3)]) Tryz_C18 ⟨rfl, rfl, rfl, trivial⟩) (M.spec_l28Rank_ok _ x83 (hL.rdO 0 rfl) (hL.rdO 1 rfl) a2 (hL.rdS 3 rfl h6) a3 hx93) ?_)
 rintro e94 wd95 ⟨rfl, hF96⟩
 refine ⟨_, rfl, ?_⟩
 have hL := hL.pushAll hF96
 simp only [lA, lB, lC, lD] at hL
 refine ⟨(hL.sel [2, 3] (by decide) rfl), ?_⟩
 obtain ⟨x97, hx98, hm⟩ := bndE hm
 refine DH.only 7 rfl (by kernel_rfl) (OP.call rfl (x_call (vs := [(.agg #[(.int .i64 a0.Boats), (.int .i64 a0.Scheme), v1]), (.slice none 0 0)]) Tryz_C19 ⟨rfl, rfl, trivial⟩) (M.spec_l21Table_ok _ a0 (hL.rdS 3 rfl h2) ([] : List Penalty) rdL_nil hx98) ?_)
 rintro e103 wd104 ⟨v100, S99, v102, S101, rfl, hF105⟩
 refine ⟨_, rfl, ?_⟩
 have hL := hL.pushAll hF105
 simp only [lA, lB, lC, lD] at hL
 refine ⟨(hL.sel [4, 5] (by decide) rfl), ?_⟩
 obtain ⟨x106, hx107, hm⟩ := bndE hm
 refine DH.only 10 rfl (by kernel_rfl) (OP.call rfl (x_call (vs := [(.agg #[(.int .i64 x97.Boats), v100, v102]), v5, (.int .i64 a3)]) Tryz_C18 ⟨rfl, rfl, rfl, trivial⟩) (M.spec_l28Rank_ok _ x97 (hL.rdO 0 rfl) (hL.rdO 1 rfl) a2 (hL.rdS 5 rfl h6) a3 hx107) ?_)
 rintro e108 wd109 ⟨rfl, hF110⟩
 refine ⟨_, rfl, ?_⟩
 have hL := hL.pushAll hF110
 simp only [lA, lB, lC, lD] at hL
 refine ⟨(hL.sel [4, 5] (by decide) rfl), ?_⟩
 have hS := (hL.sel [4, 5] (by decide) rfl)
 refine DH.take 11 rfl (by kernel_rfl) (by kernel_rfl) (by kernel_rfl) rfl rfl hS (YH.val (v := (.int .i64 (w64 (x92 - x106)))) (fun w' hS' => x_sub rfl rfl)) ?_
 have hS := (hL.sel [4, 5] (by decide) rfl)
 refine DH.take 12 rfl (by kernel_rfl) (by kernel_rfl) (by kernel_rfl) rfl rfl hS (YH.val (v := (.int .i64 (w64 (x92 - x106)))) (fun w' hS' => x_assign)) ?_
 have hS := (hL.sel [4, 5] (by decide) rfl)
 refine DH.take 13 rfl (by kernel_rfl) (by kernel_rfl) (by kernel_rfl) rfl rfl hS (YH.val (v := (.int .i64 0)) (fun w' hS' => x_assign)) ?_
 refine DH.done (by kernel_rfl) ?_
 refine CW.ret ?_
 obtain rfl := Option.some.inj hm
 exact RR2 rfl rfl rfl ⟨rfl, hL.fresh 5 rfl [] (by decide) (by decide) rfl⟩

theorem M.impl_within_ok (w0 : World) (a0 : Int) (a1 : Int) (a2 : Int) {r : Bool} (hm : M.impl_within a0 a1 a2 = some r) :
    Calls Tryz.prog 24 #[(.int .i64 a0), (.int .i64 a1), (.int .i64 a2)] w0 fun e w' => e = .returned (.bool r) ∧ Fresh w0 w' [] := by
 unfold M.impl_within at hm
 refine calls_CW (args := [(.int .i64 a0), (.int .i64 a1), (.int .i64 a2)]) Tryz.func24 rfl rfl rfl ?_
 have hL := Hp.start w0
 refine CSR ?_
 refine OV (.bool false) rfl (x_assign) ?_
 refine OW.nil ?_
 refine CW.seqJ (fun (s_j1 : Bool) (F : Fr) (w : World) => F 6 = (.bool s_j1) ∧ Hp w0 [Ent.snap w0 w0.heap.size] w) (fun s_j1 => M.impl_within_j1 s_j1 = some r) ?_ ?_
 · refine CW.regionL ?_
   refine OV (.int .i64 a0) rfl (x_move) ?_
   refine OV (.int .i64 a1) rfl (x_move) ?_
   refine OV (.bool (decide (a1 ≤ a0))) rfl (x_geq rfl rfl) ?_
   refine OV (.bool (decide (a1 ≤ a0))) rfl (x_move) ?_
   refine ifB_elim hm (fun hb5 hm => ?_) (fun hb5 hm => ?_)
   · refine OW.cons (OP.yes' rfl rfl hb5 (OP.val (v := (.int .i64 a0)) rfl (x_move) ?_))
     refine OW.cons (OP.yes' rfl rfl hb5 (OP.val (v := (.int .i64 a2)) rfl (x_move) ?_))
     refine OW.cons (OP.yes' rfl rfl hb5 (OP.val (v := (.bool (decide (a0 ≤ a2)))) rfl (x_leq rfl rfl) ?_))
     refine OV (.bool (decide (a0 ≤ a2))) rfl (x_pickT' rfl hb5 rfl) ?_
     refine OV (.bool (decide (a0 ≤ a2))) rfl (x_assign) ?_
     refine OW.nil ?_
     exact ⟨decide (a0 ≤ a2), hm, ⟨rfl, hL⟩⟩
   refine OW.cons (OP.no' rfl rfl hb5 rfl ?_)
   refine OW.cons (OP.no' rfl rfl hb5 rfl ?_)
   refine OW.cons (OP.no' rfl rfl hb5 rfl ?_)
   refine OV (.bool false) rfl (x_pickF' rfl hb5 rfl) ?_
   refine OV (.bool false) rfl (x_assign) ?_
   refine OW.nil ?_
   exact ⟨false, hm, ⟨rfl, hL⟩⟩
 intro s_j1 F2 wd3 hJ hm
 unfold M.impl_within_j1 at hm
 obtain ⟨f4, hL⟩ := hJ
 refine CW.ret ?_
 obtain rfl := Option.some.inj hm
 exact RR1 rfl f4 ⟨rfl, hL.fresh 0 rfl [] (by decide) (by decide) rfl⟩

theorem M.impl_isBoat_ok (w0 : World) (a0 : Int) {r : Bool} (hm : M.impl_isBoat a0 = some r) :
    Calls Tryz.prog 84 #[(.int .i64 a0)] w0 fun e w' => e = .returned (.bool r) ∧ Fresh w0 w' [] := by
 unfold M.impl_isBoat at hm
 refine calls_CW (args := [(.int .i64 a0)]) Tryz.func84 rfl rfl rfl ?_
 have hL := Hp.start w0
 refine CSR ?_
 refine OV (.bool false) rfl (x_assign) ?_
 refine ONR ?_
 refine OV (.int .i64 a0) rfl (x_move) ?_
 obtain ⟨x1, hx2, hm⟩ := bndE hm
 refine OW.cons (OP.call rfl (x_call (vs := [(.int .i64 a0), (.int .i64 0), (.int .i64 15)]) Tryz_C24 ⟨rfl, rfl, rfl, trivial⟩) (M.impl_within_ok _ a0 0 15 hx2) ?_)
 rintro e3 wd4 ⟨rfl, hF5⟩
 refine ⟨_, rfl, ?_⟩
 have hL := hL.pushAll hF5
 simp only [lA, lB, lC, lD] at hL
 refine OV (.bool x1) rfl (x_assign) ?_
 refine OW.nil ?_
 refine CW.ret ?_
 obtain rfl := Option.some.inj hm
 exact RR1 rfl rfl ⟨rfl, hL.fresh 0 rfl [] (by decide) (by decide) rfl⟩

theorem M.impl_IsFinish_ok (w0 : World) (a0 : Finish) {r : Bool} (hm : M.impl_IsFinish a0 = some r) :
    Calls Tryz.prog 79 #[(.agg #[(.int .i64 a0.Boat), (.int .i64 a0.Code), (.int .i64 a0.Time)])] w0 fun e w' => e = .returned (.bool r) ∧ Fresh w0 w' [] := by
 unfold M.impl_IsFinish at hm
 refine calls_CW (args := [(.agg #[(.int .i64 a0.Boat), (.int .i64 a0.Code), (.int .i64 a0.Time)])]) Tryz.func79 rfl rfl rfl ?_
 have hL := Hp.start w0
 refine CSR ?_
 refine OW.cons (S_box (cs := #[(.int .i64 a0.Boat), (.int .i64 a0.Code), (.int .i64 a0.Time)]) hL rfl rfl rfl ?_)
 intro wd1 b2 hL
 refine OV (.bool false) rfl (x_assign) ?_
 refine ONS ?_
 refine CSR ?_
 refine OV (.pointer (some ⟨b2, 1, none⟩)) rfl (x_fieldAddr (fsz := 1) 0 1 1 U79 rfl Tryz_T2 rfl rfl rfl) ?_
 refine OV (.int .i64 a0.Code) rfl (x_load1 U2 rfl rfl (hL.cellB 0 rfl rfl)) ?_
 refine OV (.bool (a0.Code == 0)) rfl (x_eql rfl rfl) ?_
 refine OW.nil ?_
 refine CW.condM (t := a0.Code == 0) rfl hm (fun hb3 hm => ?_) (fun hb3 hm => ?_)
 · refine CW.seqJ (fun (s_j1 : Bool) (F : Fr) (w : World) => F 2 = (.bool s_j1) ∧ Hp w0 [Ent.blk b2 79 #[(.int .i64 a0.Boat), (.int .i64 a0.Code), (.int .i64 a0.Time)], Ent.snap w0 w0.heap.size] w) (fun s_j1 => M.impl_IsFinish_j1 s_j1 = some r) ?_ ?_
   · refine CW.regionL ?_
     refine OV (.pointer (some ⟨b2, 0, none⟩)) rfl (x_fieldAddr (fsz := 1) 0 0 0 U79 rfl Tryz_T2 rfl rfl rfl) ?_
     refine OV (.int .i64 a0.Boat) rfl (x_load1 U2 rfl rfl (hL.cellB 0 rfl rfl)) ?_
     obtain ⟨x18, hx19, hm⟩ := bndE hm
     refine OW.cons (OP.call rfl (x_call (vs := [(.int .i64 a0.Boat)]) Tryz_C84 ⟨rfl, trivial⟩) (M.impl_isBoat_ok _ a0.Boat hx19) ?_)
     rintro e20 wd21 ⟨rfl, hF22⟩
     refine ⟨_, rfl, ?_⟩
     have hL := hL.pushAll hF22
     simp only [lA, lB, lC, lD] at hL
     refine OV (.bool x18) rfl (x_move) ?_
     refine ifB_elim hm (fun hb23 hm => ?_) (fun hb23 hm => ?_)
     · refine OW.cons (OP.yes' rfl rfl hb23 (OP.val (v := (.pointer (some ⟨b2, 2, none⟩))) rfl (x_fieldAddr (fsz := 1) 0 2 2 U79 rfl Tryz_T2 rfl rfl rfl) ?_))
       refine OW.cons (OP.yes' rfl rfl hb23 (OP.val (v := (.int .i64 a0.Time)) rfl (x_load1 U2 rfl rfl (hL.cellB 0 rfl rfl)) ?_))
       obtain ⟨x24, hx25, hm⟩ := bndE hm
       refine OW.cons (OP.yes' rfl rfl hb23 (OP.call rfl (x_call (vs := [(.int .i64 a0.Time), (.int .i64 1), (.int .i64 1000000000)]) Tryz_C24 ⟨rfl, rfl, rfl, trivial⟩) (M.impl_within_ok _ a0.Time 1 1000000000 hx25) ?_))
       rintro e26 wd27 ⟨rfl, hF28⟩
       refine ⟨_, rfl, ?_⟩
       have hL := hL.pushAll hF28
       simp only [lA, lB, lC, lD] at hL
       refine OV (.bool x24) rfl (x_pickT' rfl hb23 rfl) ?_
       refine OV (.bool x24) rfl (x_assign) ?_
       refine OW.nil ?_
       exact ⟨x24, hm, ⟨rfl, hL⟩⟩
     refine OW.cons (OP.no' rfl rfl hb23 rfl ?_)
     refine OW.cons (OP.no' rfl rfl hb23 rfl ?_)
     refine OW.cons (OP.no' rfl rfl hb23 rfl ?_)
     refine OV (.bool false) rfl (x_pickF' rfl hb23 rfl) ?_
     refine OV (.bool false) rfl (x_assign) ?_
     refine OW.nil ?_
     exact ⟨false, hm, ⟨rfl, hL⟩⟩
   intro s_j1 F15 wd16 hJ hm
   unfold M.impl_IsFinish_j1 at hm
   obtain ⟨f17, hL⟩ := hJ
   refine CW.ret ?_
   obtain rfl := Option.some.inj hm
   exact RR1 rfl f17 ⟨rfl, hL.fresh 1 rfl [] (by decide) (by decide) rfl⟩
 refine CW.skip ?_
 refine CW.seqJ (fun (s_j2 : Bool) (F : Fr) (w : World) => F 2 = (.bool s_j2) ∧ Hp w0 [Ent.blk b2 79 #[(.int .i64 a0.Boat), (.int .i64 a0.Code), (.int .i64 a0.Time)], Ent.snap w0 w0.heap.size] w) (fun s_j2 => M.impl_IsFinish_j2 s_j2 = some r) ?_ ?_
 · refine CW.regionL ?_
   refine OV (.pointer (some ⟨b2, 0, none⟩)) rfl (x_fieldAddr (fsz := 1) 0 0 0 U79 rfl Tryz_T2 rfl rfl rfl) ?_
   refine OV (.int .i64 a0.Boat) rfl (x_load1 U2 rfl rfl (hL.cellB 0 rfl rfl)) ?_
   obtain ⟨x44, hx45, hm⟩ := bndE hm
   refine OW.cons (OP.call rfl (x_call (vs := [(.int .i64 a0.Boat)]) Tryz_C84 ⟨rfl, trivial⟩) (M.impl_isBoat_ok _ a0.Boat hx45) ?_)
   rintro e46 wd47 ⟨rfl, hF48⟩
   refine ⟨_, rfl, ?_⟩
   have hL := hL.pushAll hF48
   simp only [lA, lB, lC, lD] at hL
   refine OV (.bool x44) rfl (x_move) ?_
   refine ifB_elim hm (fun hb49 hm => ?_) (fun hb49 hm => ?_)
   · refine OW.cons (OP.yes' rfl rfl hb49 (OP.val (v := (.pointer (some ⟨b2, 1, none⟩))) rfl (x_fieldAddr (fsz := 1) 0 1 1 U79 rfl Tryz_T2 rfl rfl rfl) ?_))
     refine OW.cons (OP.yes' rfl rfl hb49 (OP.val (v := (.int .i64 a0.Code)) rfl (x_load1 U2 rfl rfl (hL.cellB 0 rfl rfl)) ?_))
     obtain ⟨x50, hx51, hm⟩ := bndE hm
     refine OW.cons (OP.yes' rfl rfl hb49 (OP.call rfl (x_call (vs := [(.int .i64 a0.Code), (.int .i64 1), (.int .i64 9)]) Tryz_C24 ⟨rfl, rfl, rfl, trivial⟩) (M.impl_within_ok _ a0.Code 1 9 hx51) ?_))
     rintro e52 wd53 ⟨rfl, hF54⟩
     refine ⟨_, rfl, ?_⟩
     have hL := hL.pushAll hF54
     simp only [lA, lB, lC, lD] at hL
     refine OV (.bool x50) rfl (x_pickT' rfl hb49 rfl) ?_
     refine OV (.bool x50) rfl (x_move) ?_
     refine ifB_elim hm (fun hb55 hm => ?_) (fun hb55 hm => ?_)
     · refine OW.cons (OP.yes' rfl rfl hb55 (OP.val (v := (.pointer (some ⟨b2, 2, none⟩))) rfl (x_fieldAddr (fsz := 1) 0 2 2 U79 rfl Tryz_T2 rfl rfl rfl) ?_))
       refine OW.cons (OP.yes' rfl rfl hb55 (OP.val (v := (.int .i64 a0.Time)) rfl (x_load1 U2 rfl rfl (hL.cellB 0 rfl rfl)) ?_))
       refine OW.cons (OP.yes' rfl rfl hb55 (OP.val (v := (.bool (a0.Time == 0))) rfl (x_eql rfl rfl) ?_))
       refine OV (.bool (a0.Time == 0)) rfl (x_pickT' rfl hb55 rfl) ?_
       refine OV (.bool (a0.Time == 0)) rfl (x_assign) ?_
       refine OW.nil ?_
       exact ⟨a0.Time == 0, hm, ⟨rfl, hL⟩⟩
     refine OW.cons (OP.no' rfl rfl hb55 rfl ?_)
     refine OW.cons (OP.no' rfl rfl hb55 rfl ?_)
     refine OW.cons (OP.no' rfl rfl hb55 rfl ?_)
     refine OV (.bool false) rfl (x_pickF' rfl hb55 rfl) ?_
     refine OV (.bool false) rfl (x_assign) ?_
     refine OW.nil ?_
     exact ⟨false, hm, ⟨rfl, hL⟩⟩
   refine OW.cons (OP.no' rfl rfl hb49 rfl ?_)
   refine OW.cons (OP.no' rfl rfl hb49 rfl ?_)
   refine OW.cons (OP.no' rfl rfl hb49 rfl ?_)
   refine OV (.bool false) rfl (x_pickF' rfl hb49 rfl) ?_
   refine OV (.bool false) rfl (x_move) ?_
   refine OW.cons (OP.no' rfl rfl rfl rfl ?_)
   refine OW.cons (OP.no' rfl rfl rfl rfl ?_)
   refine OW.cons (OP.no' rfl rfl rfl rfl ?_)
   refine OV (.bool false) rfl (x_pickF' rfl rfl rfl) ?_
   refine OV (.bool false) rfl (x_assign) ?_
   refine OW.nil ?_
   exact ⟨false, hm, ⟨rfl, hL⟩⟩
 intro s_j2 F41 wd42 hJ hm
 unfold M.impl_IsFinish_j2 at hm
 obtain ⟨f43, hL⟩ := hJ
 refine CW.ret ?_
 obtain rfl := Option.some.inj hm
 exact RR1 rfl f43 ⟨rfl, hL.fresh 1 rfl [] (by decide) (by decide) rfl⟩

theorem M.impl_areFinishes_ok (w0 : World) (a0 : Int) (a1 : List Finish) {v1 : Value} (h2 : rdL (· < w0.heap.size) w0 v1 a1) {r : Bool} (hm : M.impl_areFinishes a0 a1 = some r) :
    Calls Tryz.prog 71 #[(.int .i64 a0), v1] w0 fun e w' => e = .returned (.bool r) ∧ Fresh w0 w' [] := by
 unfold M.impl_areFinishes at hm
 refine calls_CW (args := [(.int .i64 a0), v1]) Tryz.func71 rfl rfl rfl ?_
 have hL := Hp.start w0
 refine CSR ?_
 refine OV (.bool false) rfl (x_assign) ?_
 refine ONS ?_
 refine CW.seqJ (fun (s_j1 : Bool) (F : Fr) (w : World) => F 1 = v1 ∧ F 15 = (.bool s_j1) ∧ Hp w0 [Ent.snap w0 w0.heap.size] w) (fun s_j1 => M.impl_areFinishes_j1 a1 s_j1 = some r) ?_ ?_
 · refine CW.regionL ?_
   refine OV (.int .i64 a0) rfl (x_move) ?_
   obtain ⟨x118, hx119, hm⟩ := bndE hm
   refine OW.cons (OP.call rfl (x_call (vs := [(.int .i64 a0), (.int .i64 1), (.int .i64 16)]) Tryz_C24 ⟨rfl, rfl, rfl, trivial⟩) (M.impl_within_ok _ a0 1 16 hx119) ?_)
   rintro e120 wd121 ⟨rfl, hF122⟩
   refine ⟨_, rfl, ?_⟩
   have hL := hL.pushAll hF122
   simp only [lA, lB, lC, lD] at hL
   refine OV (.bool (!x118)) rfl (x_not rfl) ?_
   refine OV (.bool (!x118)) rfl (x_move) ?_
   refine ifB_elim hm (fun hb123 hm => ?_) (fun hb123 hm => ?_)
   · refine OW.cons (OP.no' rfl rfl hb123 rfl ?_)
     refine OW.cons (OP.no' rfl rfl hb123 rfl ?_)
     refine OW.cons (OP.no' rfl rfl hb123 rfl ?_)
     refine OW.cons (OP.no' rfl rfl hb123 rfl ?_)
     refine OV (.bool true) rfl (x_pickT' rfl hb123 rfl) ?_
     refine OW.nil ?_
     exact ⟨true, hm, ⟨rfl, rfl, hL⟩⟩
   refine OW.cons (OP.yes' rfl rfl hb123 (OP.val (v := v1) rfl (x_move) ?_))
   refine OW.cons (OP.yes' rfl rfl hb123 (OP.val (v := (.int .i64 (a1.length : Int))) rfl (x_lenR U73 rfl (hL.rdS 0 rfl h2)) ?_))
   refine OW.cons (OP.yes' rfl rfl hb123 (OP.val (v := (.int .i64 a0)) rfl (x_move) ?_))
   refine OW.cons (OP.yes' rfl rfl hb123 (OP.val (v := (.bool ((a1.length : Int) != a0))) rfl (x_neq rfl rfl) ?_))
   refine OV (.bool ((a1.length : Int) != a0)) rfl (x_pickF' rfl hb123 rfl) ?_
   refine OW.nil ?_
   exact ⟨(a1.length : Int) != a0, hm, ⟨rfl, rfl, hL⟩⟩
 intro s_j1 F9 wd10 hJ hm
 unfold M.impl_areFinishes_j1 at hm
 obtain ⟨f11, f12, hL⟩ := hJ
 refine CW.condM (t := s_j1) f12 hm (fun hb13 hm => ?_) (fun hb13 hm => ?_)
 · refine CSR ?_
   refine OV (.bool false) rfl (x_assign) ?_
   refine OW.nil ?_
   refine CW.ret ?_
   obtain rfl := Option.some.inj hm
   exact RR1 rfl rfl ⟨rfl, hL.fresh 0 rfl [] (by decide) (by decide) rfl⟩
 refine CW.skip ?_
 refine CW.seq ?_
 refine CSR ?_
 refine OV v1 rfl (x_mv f11) ?_
 refine OV (.int .i64 (a1.length : Int)) rfl (x_lenR U73 rfl (hL.rdS 0 rfl h2)) ?_
 refine OV (.int .i64 0) rfl (x_move) ?_
 refine OW.nil ?_
 obtain ⟨o76, ho77, hm⟩ := bndE hm
 refine CW.loopB (fun (s_l1 : Int) (F : Fr) (w : World) => F 16 = v1 ∧ F 17 = (.int .i64 (a1.length : Int)) ∧ F 18 = (.int .i64 s_l1) ∧ Hp w0 [Ent.snap w0 w0.heap.size] w) (fun o => outc o (fun x => some x) (fun s => M.impl_areFinishes_a1 s) = some r) ho77 hm ⟨rfl, rfl, rfl, hL⟩ ?_ ?_
 · intro s_l1 F78 wd79 hJ hm
   have hm := outcE hm
   have hm : M.impl_areFinishes_a1 s_l1 = some r := hm
   unfold M.impl_areFinishes_a1 at hm
   obtain ⟨f80, f81, f82, hL⟩ := hJ
   refine CSR ?_
   refine OV (.bool true) rfl (x_assign) ?_
   refine OW.nil ?_
   refine CW.ret ?_
   obtain rfl := Option.some.inj hm
   exact RR1 rfl rfl ⟨rfl, hL.fresh 0 rfl [] (by decide) (by decide) rfl⟩
 intro s_l1 F83 wd84 t74 hJ hm hr75
 unfold M.impl_areFinishes_l1 at hm
 obtain ⟨f85, f86, f87, hL⟩ := hJ
 refine CSR ?_
 refine OV (.bool (decide (s_l1 < (a1.length : Int)))) rfl (x_lss f87 f86) ?_
 refine ONS ?_
 refine CW.condM (t := decide (s_l1 < (a1.length : Int))) rfl hm (fun hb88 hm => ?_) (fun hb88 hm => ?_)
 · refine CW.skip ?_
   refine CW.seq ?_
   refine CW.block ?_
   refine CSR ?_
   refine OV (.int .i64 s_l1) rfl (x_mv f87) ?_
   obtain ⟨x89, ha90, hm⟩ := bndE hm
   obtain ⟨hz91, ha95⟩ := idxE ha90
   obtain ⟨b92, q93, hix94⟩ := rdL_ix (hL.rdS 0 rfl h2) hz91 ha95
   refine OV (.pointer (some ⟨b92, q93, none⟩)) rfl (x_ix U73 Tryz_T79 f85 f87 hix94) ?_
   refine OV (.agg #[(.int .i64 x89.Boat), (.int .i64 x89.Code), (.int .i64 x89.Time)]) rfl (x_loadN (cs := [(.int .i64 x89.Boat), (.int .i64 x89.Code), (.int .i64 x89.Time)]) U79 Tryz_T79 rfl rfl (rdF_cells (hL.rdS 0 rfl h2) hix94 ha95)) ?_
   refine OW.cons (S_alloc (cs := #[(.int .i64 0), (.int .i64 0), (.int .i64 0)]) hL Tryz_T79 rfl rfl ?_)
   intro wd96 b97 hL
   refine OV (.int .i64 s_l1) rfl (x_assign) ?_
   refine OW.cons (S_storeN (l := [(.int .i64 x89.Boat), (.int .i64 x89.Code), (.int .i64 x89.Time)]) (cs' := #[(.int .i64 x89.Boat), (.int .i64 x89.Code), (.int .i64 x89.Time)]) hL 0 rfl Tryz_T79 rfl rfl (List.forall_mem_cons.2 ⟨rfl, (List.forall_mem_cons.2 ⟨rfl, (List.forall_mem_cons.2 ⟨rfl, (fun _ h => by cases h)⟩)⟩)⟩) rfl (Nat.le_of_ble_eq_true rfl) rfl ?_)
   intro wd98 hL
   refine OW.nil ?_
   refine CW.seqJ (fun (s_j2 : Bool) (F : Fr) (w : World) => F 16 = v1 ∧ F 17 = (.int .i64 (a1.length : Int)) ∧ F 18 = (.int .i64 s_l1) ∧ F 31 = (.bool s_j2) ∧ Hp w0 [Ent.blk b97 79 #[(.int .i64 x89.Boat), (.int .i64 x89.Code), (.int .i64 x89.Time)], Ent.snap w0 w0.heap.size] w) (fun s_j2 => M.impl_areFinishes_j2 s_l1 s_j2 = some t74) ?_ ?_
   · refine CW.regionL ?_
     refine OV (.pointer (some ⟨b97, 0, none⟩)) rfl (x_fieldAddr (fsz := 1) 0 0 0 U79 rfl Tryz_T2 rfl rfl rfl) ?_
     refine OV (.int .i64 x89.Boat) rfl (x_load1 U2 rfl rfl (hL.cellB 0 rfl rfl)) ?_
     refine OV (.int .i64 s_l1) rfl (x_move) ?_
     refine OV (.bool (x89.Boat != s_l1)) rfl (x_neq rfl rfl) ?_
     refine OV (.bool (x89.Boat != s_l1)) rfl (x_move) ?_
     refine ifB_elim hm (fun hb112 hm => ?_) (fun hb112 hm => ?_)
     · refine OW.cons (OP.no' rfl rfl hb112 rfl ?_)
       refine OW.cons (OP.no' rfl rfl hb112 rfl ?_)
       refine OW.cons (OP.no' rfl rfl hb112 rfl ?_)
       refine OV (.bool true) rfl (x_pickT' rfl hb112 rfl) ?_
       refine OW.nil ?_
       exact ⟨true, hm, ⟨f85, f86, f87, rfl, hL⟩⟩
     refine OW.cons (OP.yes' rfl rfl hb112 (OP.val (v := (.agg #[(.int .i64 x89.Boat), (.int .i64 x89.Code), (.int .i64 x89.Time)])) rfl (x_loadN (cs := [(.int .i64 x89.Boat), (.int .i64 x89.Code), (.int .i64 x89.Time)]) U79 Tryz_T79 rfl rfl (hL.cellsB 0 rfl (o := 0) (l := [(.int .i64 x89.Boat), (.int .i64 x89.Code), (.int .i64 x89.Time)]) (by intro j u hj; exact (by simpa using hj)))) ?_))
     obtain ⟨x113, hx114, hm⟩ := bndE hm
     refine OW.cons (OP.yes' rfl rfl hb112 (OP.call rfl (x_call (vs := [(.agg #[(.int .i64 x89.Boat), (.int .i64 x89.Code), (.int .i64 x89.Time)])]) Tryz_C79 ⟨rfl, trivial⟩) (M.impl_IsFinish_ok _ x89 hx114) ?_))
     rintro e115 wd116 ⟨rfl, hF117⟩
     refine ⟨_, rfl, ?_⟩
     have hL := hL.pushAll hF117
     simp only [lA, lB, lC, lD] at hL
     refine OW.cons (OP.yes' rfl rfl hb112 (OP.val (v := (.bool (!x113))) rfl (x_not rfl) ?_))
     refine OV (.bool (!x113)) rfl (x_pickF' rfl hb112 rfl) ?_
     refine OW.nil ?_
     exact ⟨!x113, hm, ⟨f85, f86, f87, rfl, hL⟩⟩
   intro s_j2 F105 wd106 hJ hm
   unfold M.impl_areFinishes_j2 at hm
   obtain ⟨f107, f108, f109, f110, hL⟩ := hJ
   refine CW.condM (t := s_j2) f110 hm (fun hb111 hm => ?_) (fun hb111 hm => ?_)
   · refine CSR ?_
     refine OV (.bool false) rfl (x_assign) ?_
     refine OW.nil ?_
     refine CW.ret ?_
     obtain rfl := Option.some.inj hm
     have hm := hr75 _ rfl
     obtain rfl := Option.some.inj hm
     exact RR1 rfl rfl ⟨rfl, hL.fresh 1 rfl [] (by decide) (by decide) rfl⟩
   refine CW.skip ?_
   refine CW.regionL ?_
   refine OV (.int .i64 (w64 (s_l1 + 1))) rfl (x_add f109 rfl) ?_
   refine OV (.int .i64 (w64 (s_l1 + 1))) rfl (x_move) ?_
   refine OW.nil ?_
   have hL := hL.sel [1] (by decide) rfl
   obtain rfl := Option.some.inj hm
   exact ⟨_, rfl, ⟨f107, f108, rfl, hL⟩⟩
 refine CW.exit ?_
 refine XJ.hit ?_
 obtain rfl := Option.some.inj hm
 exact ⟨_, rfl, ⟨f85, f86, f87, hL⟩⟩

theorem M.impl_IsRace_ok (w0 : World) (a0 : Int) (a1 : Race) {v1 : Value} (h2 : rdL (· < w0.heap.size) w0 v1 a1.Finishes) {r : Bool} (hm : M.impl_IsRace a0 a1 = some r) :
    Calls Tryz.prog 57 #[(.int .i64 a0), (.agg #[v1])] w0 fun e w' => e = .returned (.bool r) ∧ Fresh w0 w' [] := by
 unfold M.impl_IsRace at hm
 refine calls_CW (args := [(.int .i64 a0), (.agg #[v1])]) Tryz.func57 rfl rfl rfl ?_
 have hL := Hp.start w0
 refine CSR ?_
 refine OW.cons (S_box (cs := #[v1]) hL rfl rfl rfl ?_)
 intro wd3 b4 hL
 refine OV (.bool false) rfl (x_assign) ?_
 refine ONR ?_
 refine OV (.int .i64 a0) rfl (x_move) ?_
 refine OV (.pointer (some ⟨b4, 0, none⟩)) rfl (x_fieldAddr (fsz := 1) 0 0 0 U75 rfl Tryz_T73 rfl rfl rfl) ?_
 refine OV v1 rfl (x_load1 U73 rfl rfl (hL.cellB 0 rfl rfl)) ?_
 obtain ⟨x5, hx6, hm⟩ := bndE hm
 refine OW.cons (OP.call rfl (x_call (vs := [(.int .i64 a0), v1]) Tryz_C71 ⟨rfl, rfl, trivial⟩) (M.impl_areFinishes_ok _ a0 a1.Finishes (hL.rdS 1 rfl h2) hx6) ?_)
 rintro e7 wd8 ⟨rfl, hF9⟩
 refine ⟨_, rfl, ?_⟩
 have hL := hL.pushAll hF9
 simp only [lA, lB, lC, lD] at hL
 refine OV (.bool x5) rfl (x_assign) ?_
 refine OW.nil ?_
 refine CW.ret ?_
 obtain rfl := Option.some.inj hm
 exact RR1 rfl rfl ⟨rfl, hL.fresh 1 rfl [] (by decide) (by decide) rfl⟩

theorem M.impl_isScheme_ok (w0 : World) (a0 : Int) {r : Bool} (hm : M.impl_isScheme a0 = some r) :
    Calls Tryz.prog 58 #[(.int .i64 a0)] w0 fun e w' => e = .returned (.bool r) ∧ Fresh w0 w' [] := by
 unfold M.impl_isScheme at hm
 refine calls_CW (args := [(.int .i64 a0)]) Tryz.func58 rfl rfl rfl ?_
 have hL := Hp.start w0
 refine CSR ?_
 refine OV (.bool false) rfl (x_assign) ?_
 refine ONR ?_
 refine OV (.int .i64 a0) rfl (x_move) ?_
 obtain ⟨x1, hx2, hm⟩ := bndE hm
 refine OW.cons (OP.call rfl (x_call (vs := [(.int .i64 a0), (.int .i64 0), (.int .i64 1)]) Tryz_C24 ⟨rfl, rfl, rfl, trivial⟩) (M.impl_within_ok _ a0 0 1 hx2) ?_)
 rintro e3 wd4 ⟨rfl, hF5⟩
 refine ⟨_, rfl, ?_⟩
 have hL := hL.pushAll hF5
 simp only [lA, lB, lC, lD] at hL
 refine OV (.bool x1) rfl (x_assign) ?_
 refine OW.nil ?_
 refine CW.ret ?_
 obtain rfl := Option.some.inj hm
 exact RR1 rfl rfl ⟨rfl, hL.fresh 0 rfl [] (by decide) (by decide) rfl⟩

end Go.Proofs.YtgelmamcinlahaaGreat
