/- Links: each Go function returns what its model computes and leaves what was there. Printed by my generator. -/
import Derived.Test.YtpobaajdhfoomaaLnkFnTiedC
namespace Go.Proofs.Ytpobaajdhfoomaa
set_option maxRecDepth 10000
open Go Go.RowKit Go.ChangeShapes Go.WideShapes
set_option linter.unusedVariables false
set_option linter.unusedSimpArgs false

theorem M.laws_likeRows_ok (w0 : World) (a0 : List (List Int)) {v1 : Value} (h2 : rdL (· < w0.heap.size) w0 v1 a0) (a1 : List (List Int)) {v3 : Value} (h4 : rdL (· < w0.heap.size) w0 v3 a1) {r : Bool} (hm : M.laws_likeRows a0 a1 = some r) :
    Calls Try.prog 55 #[v1, v3] w0 fun e w' => e = .returned (.bool r) ∧ Fresh w0 w' [] := by
 unfold M.laws_likeRows at hm
 refine calls_CW (args := [v1, v3]) Try.func55 rfl rfl rfl ?_
 have hL := Hp.start w0
 refine CSR <| OV (.bool false) rfl (x_assign) <| ONS <| CSR <| OV v1 rfl (x_move) <| OV (.int .i64 (a0.length : Int)) rfl (x_lenR U22 rfl (hL.rdS 0 rfl h2)) <| OV v3 rfl (x_move) <| OV (.int .i64 (a1.length : Int)) rfl (x_lenR U22 rfl (hL.rdS 0 rfl h4)) <| OV (.bool ((a0.length : Int) != (a1.length : Int))) rfl (x_neq rfl rfl) <| OW.nil ?_
 refine CW.condM (t := (a0.length : Int) != (a1.length : Int)) rfl hm (fun hb5 hm => ?_) (fun hb5 hm => ?_)
 · refine CSR <| OV (.bool false) rfl (x_assign) <| OW.nil <| CW.ret ?_
   obtain rfl := Option.some.inj hm
   exact RR1 rfl rfl ⟨rfl, hL.fresh 0 rfl [] (by decide) (by decide) rfl⟩
 refine CW.skip <| CW.seq <| CSR <| OV (.int .i64 0) rfl (x_assign) <| OW.nil ?_
 obtain ⟨o62, ho63, hm⟩ := bndE hm
 refine CW.loopB (fun (s_l1 : Int) (F : Fr) (w : World) => F 0 = v1 ∧ F 1 = v3 ∧ F 5 = (.int .i64 s_l1) ∧ Hp w0 [Ent.snap w0 w0.heap.size] w) (fun o => outc o (fun x => some x) (fun s => M.laws_likeRows_a1 s) = some r) ho63 hm ⟨rfl, rfl, rfl, hL⟩ ?_ ?_
 · intro s_l1 F64 wd65 hJ hm
   have hm := outcE hm
   have hm : M.laws_likeRows_a1 s_l1 = some r := hm
   unfold M.laws_likeRows_a1 at hm
   obtain ⟨f66, f67, f68, hL⟩ := hJ
   refine CSR <| OV (.bool true) rfl (x_assign) <| OW.nil <| CW.ret ?_
   obtain rfl := Option.some.inj hm
   exact RR1 rfl rfl ⟨rfl, hL.fresh 0 rfl [] (by decide) (by decide) rfl⟩
 intro s_l1 F69 wd70 t60 hJ hm hr61
 unfold M.laws_likeRows_l1 at hm
 obtain ⟨f71, f72, f73, hL⟩ := hJ
 refine CW.seq <| CSR <| OV (.int .i64 s_l1) rfl (x_mv f73) <| OV v1 rfl (x_mv f71) <| OV (.int .i64 (a0.length : Int)) rfl (x_lenR U22 rfl (hL.rdS 0 rfl h2)) <| OV (.bool (decide (s_l1 < (a0.length : Int)))) rfl (x_lss rfl rfl) <| OW.nil ?_
 refine CW.condM (t := decide (s_l1 < (a0.length : Int))) rfl hm (fun hb74 hm => ?_) (fun hb74 hm => ?_)
 · refine CW.skip <| CW.seq <| CW.block <| CW.seq ?_
   refine CW.draw Try_mixed ?_
   have hL := hL.call (Mod.drew _)
   refine DW.pre (fuel := 0) (fin := bma 10 1023) (C := fun w' => Mod None_ _ w') [0, 1, 2, 3, 4, 5, 6, 7, 8, 9] (Mod.refl _ _) (by kernel_rfl) (by kernel_rfl) ?_
   refine QV v1 rfl rfl (fun w' hm' => x_mv f71) <| QV (.int .i64 s_l1) rfl rfl (fun w' hm' => x_mv f73) ?_
   obtain ⟨x75, ha76, hm⟩ := bndE hm
   obtain ⟨hz77, ha85⟩ := idxE ha76
   obtain ⟨b78, q79, v80, hix81, hs82, hc83, hr84⟩ := rdN_at h2 hz77 ha85
   refine QV (.pointer (some ⟨b78, q79, none⟩)) rfl rfl (fun w' hm' => x_ix U22 Try_T25 rfl rfl hix81) <| QV v80 rfl rfl (fun w' hm' => x_load1 U25 rfl rfl ((hL.call hm').cellS 0 rfl hs82 hc83)) <| QV v3 rfl rfl (fun w' hm' => x_mv f72) <| QV (.int .i64 s_l1) rfl rfl (fun w' hm' => x_mv f73) ?_
   obtain ⟨x86, ha87, hm⟩ := bndE hm
   obtain ⟨hz88, ha96⟩ := idxE ha87
   obtain ⟨b89, q90, v91, hix92, hs93, hc94, hr95⟩ := rdN_at h4 hz88 ha96
   refine QV (.pointer (some ⟨b89, q90, none⟩)) rfl rfl (fun w' hm' => x_ix U22 Try_T25 rfl rfl hix92) <| QV v91 rfl rfl (fun w' hm' => x_load1 U25 rfl rfl ((hL.call hm').cellS 0 rfl hs93 hc94)) ?_
   obtain ⟨x97, hx98, hm⟩ := bndE hm
   refine QW.cons rfl (QP.call (v := (.bool x97)) rfl (fun w' hm' => x_call (vs := [v80, v91]) Try_C40 ⟨rfl, rfl, trivial⟩) (fun w' hm' => (M.laws_likeInts_ok w' x75 ((hL.call hm').rdS 0 rfl hr84) x86 ((hL.call hm').rdS 0 rfl hr95) hx98).mono (fun e w'' h => ⟨h.1, hm'.trans h.2.mod⟩)) ?_)
   refine QV (.bool (!x97)) rfl rfl (fun w' hm' => x_not rfl) ?_
   refine QW.nil ?_
   intro wd99 hmod
   have hL := hL.call hmod
   refine DW.done (by kernel_rfl) ?_
   refine CW.condM (t := !x97) rfl hm (fun hb100 hm => ?_) (fun hb100 hm => ?_)
   · refine CSR <| OV (.bool false) rfl (x_assign) <| OW.nil <| CW.ret ?_
     obtain rfl := Option.some.inj hm
     have hm := hr61 _ rfl
     obtain rfl := Option.some.inj hm
     exact RR1 rfl rfl ⟨rfl, hL.fresh 0 rfl [] (by decide) (by decide) rfl⟩
   refine CW.skip <| CW.regionL <| OV (.int .i64 s_l1) rfl (x_mv f73) <| OV (.int .i64 (w64 (s_l1 + 1))) rfl (x_add rfl rfl) <| OV (.int .i64 (w64 (s_l1 + 1))) rfl (x_assign) <| OW.nil ?_
   obtain rfl := Option.some.inj hm
   exact ⟨_, rfl, ⟨f71, f72, rfl, hL⟩⟩
 refine CW.exit ?_
 refine XJ.hit ?_
 obtain rfl := Option.some.inj hm
 exact ⟨_, rfl, ⟨f71, f72, f73, hL⟩⟩

theorem M.spec_DrawDecidingRace_ok (w0 : World) (a0 : List UInt8) {v1 : Value} (h2 : rdL (· < w0.heap.size) w0 v1 a0) {r : Table × (List Int) × Int × Int} (hm : M.spec_DrawDecidingRace a0 = some r) :
    Calls Try.prog 56 #[v1] w0 fun e w' => ∃ (rv0 : Value) (rS0 : Nat → Prop), ∃ (rv1 : Value) (rS1 : Nat → Prop), ∃ (rv2 : Value) (rS2 : Nat → Prop), e = .returned (.tuple #[(.agg #[(.int .i64 r.1.Boats), rv0, rv1]), rv2, (.int .i64 r.2.2.1), (.int .i64 r.2.2.2)]) ∧ Fresh w0 w' [Ent.rdx rS0 rv0 r.1.Points, Ent.rdx rS1 rv1 r.1.Codes, Ent.rdx rS2 rv2 r.2.1] := by
 unfold M.spec_DrawDecidingRace at hm
 refine calls_CW (args := [v1]) Try.func56 rfl rfl rfl ?_
 have hL := Hp.start w0
 refine CSR ?_
 refine OW.cons (S_alloc (cs := #[(.int .i64 0), (.slice none 0 0), (.slice none 0 0)]) hL Try_T29 rfl rfl ?_)
 intro wd3 b4 hL
 refine OV (.slice none 0 0) rfl (x_assign) <| OV (.int .i64 0) rfl (x_assign) <| OV (.int .i64 0) rfl (x_assign) <| ONR <| OV v1 rfl (x_move) ?_
 obtain ⟨x5, hx6, hm⟩ := bndE hm
 refine OW.cons (OP.call rfl (x_call (vs := [v1]) Try_C91 ⟨rfl, trivial⟩) (M.spec_l28Draw_ok _ a0 (hL.rdS 1 rfl h2) hx6) ?_)
 rintro e13 wd14 ⟨v8, S7, v10, S9, v12, S11, rfl, hF15⟩
 refine ⟨_, rfl, ?_⟩
 have hL := hL.pushAll hF15
 simp only [lA, lB, lC, lD] at hL
 obtain ⟨wz16, hL, ho17⟩ := hL.cndFz 0 rfl
 simp only [lC, lD] at hL
 obtain ⟨wz18, hL, ho19⟩ := hL.rdxFz 1 rfl
 simp only [lC, lD] at hL
 obtain ⟨wz20, hL, ho21⟩ := hL.rdxFz 2 rfl
 simp only [lC, lD] at hL
 refine OV (.tuple #[(.agg #[(.int .i64 x5.1.Boats), v8, v10]), v12, (.int .i64 x5.2.2.1), (.int .i64 x5.2.2.2)]) rfl (x_move) <| OV (.agg #[(.int .i64 x5.1.Boats), v8, v10]) rfl (x_extract rfl rfl) <| OV v12 rfl (x_extract rfl rfl) <| OV (.int .i64 x5.2.2.1) rfl (x_extract rfl rfl) <| OV (.int .i64 x5.2.2.2) rfl (x_extract rfl rfl) ?_
 refine OW.cons (S_alloc (cs := #[(.int .i64 0), (.slice none 0 0), (.slice none 0 0)]) hL Try_T29 rfl rfl ?_)
 intro wd22 b23 hL
 refine OW.cons (S_storeN (l := [(.int .i64 x5.1.Boats), v8, v10]) (cs' := #[(.int .i64 x5.1.Boats), v8, v10]) hL 0 rfl Try_T29 rfl rfl (List.forall_mem_cons.2 ⟨rfl, (List.forall_mem_cons.2 ⟨rdL_one (hL.rdF 1 rfl ho17.1.rdL), (List.forall_mem_cons.2 ⟨rdL_one (hL.rdF 2 rfl ho19.1.rdL), (fun _ h => by cases h)⟩)⟩)⟩) rfl (Nat.le_of_ble_eq_true rfl) rfl ?_)
 intro wd24 hL
 refine OV v12 rfl (x_assign) <| OV (.int .i64 x5.2.2.1) rfl (x_assign) <| OV (.int .i64 x5.2.2.2) rfl (x_assign) <| OW.nil ?_
 refine CW.seqJ (fun (s_j1 : (List (List Int))) (F : Fr) (w : World) => ∃ (v411 : Value) (S412 : Nat → Prop), F 2 = (.pointer (some ⟨b4, 0, none⟩)) ∧ F 6 = (.pointer (some ⟨b23, 0, none⟩)) ∧ F 7 = v12 ∧ F 8 = (.int .i64 x5.2.2.1) ∧ F 9 = (.int .i64 x5.2.2.2) ∧ Hp w0 [Ent.rdx S412 v411 s_j1, Ent.blk b23 29 #[(.int .i64 x5.1.Boats), v411, v10], Ent.frzS wz18 S9, Ent.frzS wz20 S11, Ent.blk b4 29 #[(.int .i64 0), (.slice none 0 0), (.slice none 0 0)], Ent.snap w0 w0.heap.size] w) (fun s_j1 => M.spec_DrawDecidingRace_j1 x5 s_j1 = some r) ?_ ?_
 · refine CW.seqJ (fun (s_j2 : Bool) (F : Fr) (w : World) => F 2 = (.pointer (some ⟨b4, 0, none⟩)) ∧ F 6 = (.pointer (some ⟨b23, 0, none⟩)) ∧ F 7 = v12 ∧ F 8 = (.int .i64 x5.2.2.1) ∧ F 9 = (.int .i64 x5.2.2.2) ∧ F 25 = (.bool s_j2) ∧ Hp w0 [Ent.blk b23 29 #[(.int .i64 x5.1.Boats), v8, v10], Ent.frzS wz16 S7, Ent.frzS wz18 S9, Ent.frzS wz20 S11, Ent.blk b4 29 #[(.int .i64 0), (.slice none 0 0), (.slice none 0 0)], Ent.snap w0 w0.heap.size] w) (fun s_j2 => M.spec_DrawDecidingRace_j2 x5 s_j2 = some r) ?_ ?_
   · refine CW.regionL <| OV v1 rfl (x_move) <| OV (.int .i64 (a0.length : Int)) rfl (x_lenR U47 rfl (hL.rdS 5 rfl h2)) <| OV (.int .i64 ((a0.length : Int).tmod 2)) rfl (x_rem rfl rfl (by decide)) <| OV (.bool (((a0.length : Int).tmod 2) == 0)) rfl (x_eql rfl rfl) <| OV (.bool (((a0.length : Int).tmod 2) == 0)) rfl (x_move) ?_
     refine ifB_elim hm (fun hb801 hm => ?_) (fun hb801 hm => ?_)
     · refine OW.cons (OP.yes' rfl rfl hb801 (OP.val (v := (.agg #[(.int .i64 x5.1.Boats), v8, v10])) rfl (x_loadN (cs := [(.int .i64 x5.1.Boats), v8, v10]) U29 Try_T29 rfl rfl (hL.cellsB 0 rfl (o := 0) (l := [(.int .i64 x5.1.Boats), v8, v10]) (by intro j u hj; exact (by simpa using hj)))) ?_))
       obtain ⟨x802, hx803, hm⟩ := bndE hm
       refine OW.cons (OP.yes' rfl rfl hb801 (OP.call rfl (x_call (vs := [(.agg #[(.int .i64 x5.1.Boats), v8, v10])]) Try_C94 ⟨rfl, trivial⟩) (M.spec_IsTable_ok _ x5.1 (hL.rdF 1 rfl ho17.1.rdL) (hL.rdF 2 rfl ho19.1.rdL) hx803) ?_))
       rintro e804 wd805 ⟨rfl, hF806⟩
       refine ⟨_, rfl, ?_⟩
       have hL := hL.pushAll hF806
       simp only [lA, lB, lC, lD] at hL
       refine OV (.bool x802) rfl (x_pickT' rfl hb801 rfl) <| OW.nil ?_
       exact ⟨x802, hm, ⟨rfl, rfl, rfl, rfl, rfl, rfl, hL⟩⟩
     refine OW.cons (OP.no' rfl rfl hb801 rfl ?_)
     refine OW.cons (OP.no' rfl rfl hb801 rfl ?_)
     refine OV (.bool false) rfl (x_pickF' rfl hb801 rfl) <| OW.nil ?_
     exact ⟨false, hm, ⟨rfl, rfl, rfl, rfl, rfl, rfl, hL⟩⟩
   intro s_j2 F427 wd428 hJ hm
   unfold M.spec_DrawDecidingRace_j2 at hm
   obtain ⟨f429, f430, f431, f432, f433, f434, hL⟩ := hJ
   refine CW.condM (t := s_j2) f434 hm (fun hb435 hm => ?_) (fun hb435 hm => ?_)
   · obtain ⟨hC436, hm⟩ := chkE hm
     have hL := hL.cndOwn 1 rfl ho17 hC436
     simp only [lC, lD] at hL
     refine CSR <| OV (.int .i64 0) rfl (x_assign) <| OW.nil ?_
     obtain ⟨o669, ho670, hm⟩ := bndE hm
     refine CW.loopB (fun (s_l1 : (List (List Int)) × Int) (F : Fr) (w : World) => ∃ (S666 : Nat → Prop), F 2 = (.pointer (some ⟨b4, 0, none⟩)) ∧ F 6 = (.pointer (some ⟨b23, 0, none⟩)) ∧ F 7 = v12 ∧ F 8 = (.int .i64 x5.2.2.1) ∧ F 9 = (.int .i64 x5.2.2.2) ∧ F 10 = (.int .i64 s_l1.2) ∧ Hp w0 [Ent.blk b23 29 #[(.int .i64 x5.1.Boats), v8, v10], Ent.own 25 S666 v8 s_l1.1, Ent.frzS wz18 S9, Ent.frzS wz20 S11, Ent.blk b4 29 #[(.int .i64 0), (.slice none 0 0), (.slice none 0 0)], Ent.snap w0 w0.heap.size] w) (fun o => outc o (fun x => some x) (fun s => M.spec_DrawDecidingRace_a1 x5 s) = some r) ho670 hm ⟨S7, f429, f430, f431, f432, f433, rfl, hL⟩ ?_ ?_
     · intro s_l1 F671 wd672 hJ hm
       have hm := outcE hm
       have hm : M.spec_DrawDecidingRace_a1 x5 s_l1 = some r := hm
       unfold M.spec_DrawDecidingRace_a1 at hm
       obtain ⟨S666, f673, f674, f675, f676, f677, f678, hL⟩ := hJ
       have hL := hL.rdxIn 1 rfl
       simp only [lC, lD] at hL
       have hL := hL.sel [1, 0, 2, 3, 4, 5] (by decide) rfl
       exact ⟨s_l1.1, hm, ⟨v8, S666, f673, f674, f675, f676, f677, hL⟩⟩
     intro s_l1 F679 wd680 t667 hJ hm hr668
     unfold M.spec_DrawDecidingRace_l1 at hm
     obtain ⟨S666, f681, f682, f683, f684, f685, f686, hL⟩ := hJ
     refine CW.seq ?_
     refine CW.seqJ (fun (s_j3 : Bool) (F : Fr) (w : World) => F 2 = (.pointer (some ⟨b4, 0, none⟩)) ∧ F 6 = (.pointer (some ⟨b23, 0, none⟩)) ∧ F 7 = v12 ∧ F 8 = (.int .i64 x5.2.2.1) ∧ F 9 = (.int .i64 x5.2.2.2) ∧ F 10 = (.int .i64 s_l1.2) ∧ F 51 = (.bool s_j3) ∧ Hp w0 [Ent.blk b23 29 #[(.int .i64 x5.1.Boats), v8, v10], Ent.own 25 S666 v8 s_l1.1, Ent.frzS wz18 S9, Ent.frzS wz20 S11, Ent.blk b4 29 #[(.int .i64 0), (.slice none 0 0), (.slice none 0 0)], Ent.snap w0 w0.heap.size] w) (fun s_j3 => M.spec_DrawDecidingRace_j3 x5 s_l1 s_j3 = some t667) ?_ ?_
     · refine CW.regionL <| OV (.int .i64 s_l1.2) rfl (x_mv f686) <| OV (.int .i64 (w64 (s_l1.2 + 1))) rfl (x_add rfl rfl) <| OV (.pointer (some ⟨b23, 1, none⟩)) rfl (x_fieldAddr (fsz := 1) 0 1 1 U29 rfl Try_T22 rfl f682 rfl) <| OV v8 rfl (x_load1 U22 rfl rfl (hL.cellB 0 rfl rfl)) <| OV (.int .i64 (s_l1.1.length : Int)) rfl (x_lenR U22 rfl (hL.rdO 1 rfl)) <| OV (.bool (decide ((w64 (s_l1.2 + 1)) < (s_l1.1.length : Int)))) rfl (x_lss rfl rfl) <| OV (.bool (decide ((w64 (s_l1.2 + 1)) < (s_l1.1.length : Int)))) rfl (x_move) ?_
       refine ifB_elim hm (fun hb797 hm => ?_) (fun hb797 hm => ?_)
       · refine OW.cons (OP.yes' rfl rfl hb797 (OP.val (v := (.int .i64 x5.2.2.1)) rfl (x_mv f684) ?_))
         refine OW.cons (OP.yes' rfl rfl hb797 (OP.val (v := (.bool (decide (0 ≤ x5.2.2.1)))) rfl (x_geq rfl rfl) ?_))
         refine OV (.bool (decide (0 ≤ x5.2.2.1))) rfl (x_pickT' rfl hb797 rfl) <| OV (.bool (decide (0 ≤ x5.2.2.1))) rfl (x_move) ?_
         refine ifB_elim hm (fun hb798 hm => ?_) (fun hb798 hm => ?_)
         · refine OW.cons (OP.yes' rfl rfl hb798 (OP.val (v := (.int .i64 x5.2.2.2)) rfl (x_mv f685) ?_))
           refine OW.cons (OP.yes' rfl rfl hb798 (OP.val (v := (.bool (decide (0 ≤ x5.2.2.2)))) rfl (x_geq rfl rfl) ?_))
           refine OV (.bool (decide (0 ≤ x5.2.2.2))) rfl (x_pickT' rfl hb798 rfl) <| OV (.bool (decide (0 ≤ x5.2.2.2))) rfl (x_move) ?_
           refine ifB_elim hm (fun hb799 hm => ?_) (fun hb799 hm => ?_)
           · refine OW.cons (OP.yes' rfl rfl hb799 (OP.val (v := (.int .i64 x5.2.2.1)) rfl (x_mv f684) ?_))
             refine OW.cons (OP.yes' rfl rfl hb799 (OP.val (v := (.pointer (some ⟨b23, 0, none⟩))) rfl (x_fieldAddr (fsz := 1) 0 0 0 U29 rfl Try_T2 rfl f682 rfl) ?_))
             refine OW.cons (OP.yes' rfl rfl hb799 (OP.val (v := (.int .i64 x5.1.Boats)) rfl (x_load1 U2 rfl rfl (hL.cellB 0 rfl rfl)) ?_))
             refine OW.cons (OP.yes' rfl rfl hb799 (OP.val (v := (.bool (decide (x5.2.2.1 < x5.1.Boats)))) rfl (x_lss rfl rfl) ?_))
             refine OV (.bool (decide (x5.2.2.1 < x5.1.Boats))) rfl (x_pickT' rfl hb799 rfl) <| OV (.bool (decide (x5.2.2.1 < x5.1.Boats))) rfl (x_move) ?_
             refine ifB_elim hm (fun hb800 hm => ?_) (fun hb800 hm => ?_)
             · refine OW.cons (OP.yes' rfl rfl hb800 (OP.val (v := (.int .i64 x5.2.2.2)) rfl (x_mv f685) ?_))
               refine OW.cons (OP.yes' rfl rfl hb800 (OP.val (v := (.pointer (some ⟨b23, 0, none⟩))) rfl (x_fieldAddr (fsz := 1) 0 0 0 U29 rfl Try_T2 rfl f682 rfl) ?_))
               refine OW.cons (OP.yes' rfl rfl hb800 (OP.val (v := (.int .i64 x5.1.Boats)) rfl (x_load1 U2 rfl rfl (hL.cellB 0 rfl rfl)) ?_))
               refine OW.cons (OP.yes' rfl rfl hb800 (OP.val (v := (.bool (decide (x5.2.2.2 < x5.1.Boats)))) rfl (x_lss rfl rfl) ?_))
               refine OV (.bool (decide (x5.2.2.2 < x5.1.Boats))) rfl (x_pickT' rfl hb800 rfl) <| OW.nil ?_
               exact ⟨decide (x5.2.2.2 < x5.1.Boats), hm, ⟨f681, f682, f683, f684, f685, f686, rfl, hL⟩⟩
             refine OW.cons (OP.no' rfl rfl hb800 rfl ?_)
             refine OW.cons (OP.no' rfl rfl hb800 rfl ?_)
             refine OW.cons (OP.no' rfl rfl hb800 rfl ?_)
             refine OW.cons (OP.no' rfl rfl hb800 rfl ?_)
             refine OV (.bool false) rfl (x_pickF' rfl hb800 rfl) <| OW.nil ?_
             exact ⟨false, hm, ⟨f681, f682, f683, f684, f685, f686, rfl, hL⟩⟩
           refine OW.cons (OP.no' rfl rfl hb799 rfl ?_)
           refine OW.cons (OP.no' rfl rfl hb799 rfl ?_)
           refine OW.cons (OP.no' rfl rfl hb799 rfl ?_)
           refine OW.cons (OP.no' rfl rfl hb799 rfl ?_)
           refine OV (.bool false) rfl (x_pickF' rfl hb799 rfl) <| OV (.bool false) rfl (x_move) ?_
           refine OW.cons (OP.no' rfl rfl rfl rfl ?_)
           refine OW.cons (OP.no' rfl rfl rfl rfl ?_)
           refine OW.cons (OP.no' rfl rfl rfl rfl ?_)
           refine OW.cons (OP.no' rfl rfl rfl rfl ?_)
           refine OV (.bool false) rfl (x_pickF' rfl rfl rfl) <| OW.nil ?_
           exact ⟨false, hm, ⟨f681, f682, f683, f684, f685, f686, rfl, hL⟩⟩
         refine OW.cons (OP.no' rfl rfl hb798 rfl ?_)
         refine OW.cons (OP.no' rfl rfl hb798 rfl ?_)
         refine OV (.bool false) rfl (x_pickF' rfl hb798 rfl) <| OV (.bool false) rfl (x_move) ?_
         refine OW.cons (OP.no' rfl rfl rfl rfl ?_)
         refine OW.cons (OP.no' rfl rfl rfl rfl ?_)
         refine OW.cons (OP.no' rfl rfl rfl rfl ?_)
         refine OW.cons (OP.no' rfl rfl rfl rfl ?_)
         refine OV (.bool false) rfl (x_pickF' rfl rfl rfl) <| OV (.bool false) rfl (x_move) ?_
         refine OW.cons (OP.no' rfl rfl rfl rfl ?_)
         refine OW.cons (OP.no' rfl rfl rfl rfl ?_)
         refine OW.cons (OP.no' rfl rfl rfl rfl ?_)
         refine OW.cons (OP.no' rfl rfl rfl rfl ?_)
         refine OV (.bool false) rfl (x_pickF' rfl rfl rfl) <| OW.nil ?_
         exact ⟨false, hm, ⟨f681, f682, f683, f684, f685, f686, rfl, hL⟩⟩
       refine OW.cons (OP.no' rfl rfl hb797 rfl ?_)
       refine OW.cons (OP.no' rfl rfl hb797 rfl ?_)
       refine OV (.bool false) rfl (x_pickF' rfl hb797 rfl) <| OV (.bool false) rfl (x_move) ?_
       refine OW.cons (OP.no' rfl rfl rfl rfl ?_)
       refine OW.cons (OP.no' rfl rfl rfl rfl ?_)
       refine OV (.bool false) rfl (x_pickF' rfl rfl rfl) <| OV (.bool false) rfl (x_move) ?_
       refine OW.cons (OP.no' rfl rfl rfl rfl ?_)
       refine OW.cons (OP.no' rfl rfl rfl rfl ?_)
       refine OW.cons (OP.no' rfl rfl rfl rfl ?_)
       refine OW.cons (OP.no' rfl rfl rfl rfl ?_)
       refine OV (.bool false) rfl (x_pickF' rfl rfl rfl) <| OV (.bool false) rfl (x_move) ?_
       refine OW.cons (OP.no' rfl rfl rfl rfl ?_)
       refine OW.cons (OP.no' rfl rfl rfl rfl ?_)
       refine OW.cons (OP.no' rfl rfl rfl rfl ?_)
       refine OW.cons (OP.no' rfl rfl rfl rfl ?_)
       refine OV (.bool false) rfl (x_pickF' rfl rfl rfl) <| OW.nil ?_
       exact ⟨false, hm, ⟨f681, f682, f683, f684, f685, f686, rfl, hL⟩⟩
     intro s_j3 F691 wd692 hJ hm
     unfold M.spec_DrawDecidingRace_j3 at hm
     obtain ⟨f693, f694, f695, f696, f697, f698, f699, hL⟩ := hJ
     refine CW.condM (t := s_j3) f699 hm (fun hb700 hm => ?_) (fun hb700 hm => ?_)
     · refine CW.skip <| CW.seq <| CW.block <| CW.seq ?_
       obtain ⟨wz701, hL, ho702⟩ := hL.freeze 1 rfl
       simp only [lC, lD] at hL
       refine CW.draw Try_mixed ?_
       have hL := hL.call (Mod.drew _)
       refine DW.pre (fuel := 1) (fin := bma 17 65535) (C := fun w' => Mod None_ _ w') [0, 1, 2, 3, 4, 5, 6, 7, 8, 9, 10, 11, 12, 13, 14, 15] (Mod.refl _ _) (by kernel_rfl) (by kernel_rfl) ?_
       refine QV (.pointer (some ⟨b23, 1, none⟩)) rfl rfl (fun w' hm' => x_fieldAddr (fsz := 1) 0 1 1 U29 rfl Try_T22 rfl f694 rfl) <| QV v8 rfl rfl (fun w' hm' => x_load1 U22 rfl rfl ((hL.call hm').cellB 0 rfl rfl)) <| QV (.int .i64 s_l1.2) rfl rfl (fun w' hm' => x_mv f698) ?_
       obtain ⟨x703, ha704, hm⟩ := bndE hm
       obtain ⟨hz705, ha713⟩ := idxE ha704
       obtain ⟨b706, q707, v708, hix709, hs710, hc711, hr712⟩ := rdN_at ho702.1.rdL hz705 ha713
       refine QV (.pointer (some ⟨b706, q707, none⟩)) rfl rfl (fun w' hm' => x_ix U22 Try_T25 rfl rfl hix709) <| QV v708 rfl rfl (fun w' hm' => x_load1 U25 rfl rfl ((hL.call hm').cellF 1 rfl hs710 hc711)) <| QV (.int .i64 x5.2.2.2) rfl rfl (fun w' hm' => x_mv f697) <| QV (.pointer (some ⟨b23, 1, none⟩)) rfl rfl (fun w' hm' => x_fieldAddr (fsz := 1) 0 1 1 U29 rfl Try_T22 rfl f694 rfl) <| QV v8 rfl rfl (fun w' hm' => x_load1 U22 rfl rfl ((hL.call hm').cellB 0 rfl rfl)) <| QV (.int .i64 s_l1.2) rfl rfl (fun w' hm' => x_mv f698) <| QV (.int .i64 (w64 (s_l1.2 + 1))) rfl rfl (fun w' hm' => x_add rfl rfl) ?_
       obtain ⟨x714, ha715, hm⟩ := bndE hm
       obtain ⟨hz716, ha724⟩ := idxE ha715
       obtain ⟨b717, q718, v719, hix720, hs721, hc722, hr723⟩ := rdN_at ho702.1.rdL hz716 ha724
       refine QV (.pointer (some ⟨b717, q718, none⟩)) rfl rfl (fun w' hm' => x_ix U22 Try_T25 rfl rfl hix720) <| QV v719 rfl rfl (fun w' hm' => x_load1 U25 rfl rfl ((hL.call hm').cellF 1 rfl hs721 hc722)) <| QV (.int .i64 x5.2.2.1) rfl rfl (fun w' hm' => x_mv f696) ?_
       obtain ⟨x725, ha726, hm⟩ := bndE hm
       obtain ⟨hz727, ha731⟩ := idxE ha726
       obtain ⟨b728, q729, hix730⟩ := rdL_ix (hL.rdF 1 rfl hr723) hz727 ha731
       refine QV (.pointer (some ⟨b728, q729, none⟩)) rfl rfl (fun w' hm' => x_ix U25 Try_T2 rfl rfl hix730) <| QV (.int .i64 x725) rfl rfl (fun w' hm' => x_load1 U2 rfl rfl (rdF_cells ((hL.call hm').rdF 1 rfl hr723) hix730 ha731 0 _ rfl)) ?_
       obtain ⟨x732, ha733, hm⟩ := bndE hm
       obtain ⟨hz734, ha738⟩ := idxE ha733
       obtain ⟨b735, q736, hix737⟩ := rdL_ix (hL.rdF 1 rfl hr712) hz734 ha738
       refine QV (.pointer (some ⟨b735, q736, none⟩)) rfl rfl (fun w' hm' => x_ix U25 Try_T2 rfl rfl hix737) ?_
       refine QW.nil ?_
       intro wd739 hmod
       have hL := hL.call hmod
       have hc741 := hL.cellF 1 rfl hs710 hc711
       have hL := hL.thaw 1 rfl ho702
       simp only [lC, lD] at hL
       refine DW.only 16 rfl (by kernel_rfl) (S_inRowC (α := Int) (x703.set (x5.2.2.2 : Int).toNat x725) (x703.set (x5.2.2.2 : Int).toNat x725) rfl hL 1 rfl hix709 ha713 hc741 (fun E2 S1 hL hK => S_storeX (j := 0) x725 hL 0 rfl Try_T2 hix737 ha738 rfl rfl rfl rfl rfl rfl hK) ?_)
       intro wd740 S742 hL hc743 ha744
       simp only [lC, lD] at hL
       obtain ⟨wz745, hL, ho746, hs747, hc748, hr749⟩ := hL.freezeAt (α := Int) 1 rfl hix709 ha744 hc743
       simp only [lC, lD] at hL
       refine DW.done (by kernel_rfl) ?_
       refine CW.draw Try_mixed ?_
       have hL := hL.call (Mod.drew _)
       refine DW.pre (fuel := 1) (fin := bma 17 65535) (C := fun w' => Mod None_ _ w') [0, 1, 2, 3, 4, 5, 6, 7, 8, 9, 10, 11, 12, 13, 14, 15] (Mod.refl _ _) (by kernel_rfl) (by kernel_rfl) ?_
       refine QV (.pointer (some ⟨b23, 1, none⟩)) rfl rfl (fun w' hm' => x_fieldAddr (fsz := 1) 0 1 1 U29 rfl Try_T22 rfl f694 rfl) <| QV v8 rfl rfl (fun w' hm' => x_load1 U22 rfl rfl ((hL.call hm').cellB 0 rfl rfl)) <| QV (.int .i64 s_l1.2) rfl rfl (fun w' hm' => x_mv f698) <| QV (.int .i64 (w64 (s_l1.2 + 1))) rfl rfl (fun w' hm' => x_add rfl rfl) ?_
       obtain ⟨x750, ha751, hm⟩ := bndE hm
       obtain ⟨hz752, ha760⟩ := idxE ha751
       obtain ⟨b753, q754, v755, hix756, hs757, hc758, hr759⟩ := rdN_at ho746.1.rdL hz752 ha760
       refine QV (.pointer (some ⟨b753, q754, none⟩)) rfl rfl (fun w' hm' => x_ix U22 Try_T25 rfl rfl hix756) <| QV v755 rfl rfl (fun w' hm' => x_load1 U25 rfl rfl ((hL.call hm').cellF 1 rfl hs757 hc758)) <| QV (.int .i64 x5.2.2.2) rfl rfl (fun w' hm' => x_mv f697) <| QV (.pointer (some ⟨b23, 1, none⟩)) rfl rfl (fun w' hm' => x_fieldAddr (fsz := 1) 0 1 1 U29 rfl Try_T22 rfl f694 rfl) <| QV v8 rfl rfl (fun w' hm' => x_load1 U22 rfl rfl ((hL.call hm').cellB 0 rfl rfl)) <| QV (.int .i64 s_l1.2) rfl rfl (fun w' hm' => x_mv f698) ?_
       obtain ⟨x761, ha762, hm⟩ := bndE hm
       obtain ⟨hz763, ha771⟩ := idxE ha762
       obtain ⟨b764, q765, v766, hix767, hs768, hc769, hr770⟩ := rdN_at ho746.1.rdL hz763 ha771
       refine QV (.pointer (some ⟨b764, q765, none⟩)) rfl rfl (fun w' hm' => x_ix U22 Try_T25 rfl rfl hix767) <| QV v766 rfl rfl (fun w' hm' => x_load1 U25 rfl rfl ((hL.call hm').cellF 1 rfl hs768 hc769)) <| QV (.int .i64 x5.2.2.1) rfl rfl (fun w' hm' => x_mv f696) ?_
       obtain ⟨x772, ha773, hm⟩ := bndE hm
       obtain ⟨hz774, ha778⟩ := idxE ha773
       obtain ⟨b775, q776, hix777⟩ := rdL_ix (hL.rdF 1 rfl hr770) hz774 ha778
       refine QV (.pointer (some ⟨b775, q776, none⟩)) rfl rfl (fun w' hm' => x_ix U25 Try_T2 rfl rfl hix777) <| QV (.int .i64 x772) rfl rfl (fun w' hm' => x_load1 U2 rfl rfl (rdF_cells ((hL.call hm').rdF 1 rfl hr770) hix777 ha778 0 _ rfl)) ?_
       obtain ⟨x779, ha780, hm⟩ := bndE hm
       obtain ⟨hz781, ha785⟩ := idxE ha780
       obtain ⟨b782, q783, hix784⟩ := rdL_ix (hL.rdF 1 rfl hr759) hz781 ha785
       refine QV (.pointer (some ⟨b782, q783, none⟩)) rfl rfl (fun w' hm' => x_ix U25 Try_T2 rfl rfl hix784) ?_
       refine QW.nil ?_
       intro wd786 hmod
       have hL := hL.call hmod
       have hc788 := hL.cellF 1 rfl hs757 hc758
       have hL := hL.thaw 1 rfl ho746
       simp only [lC, lD] at hL
       refine DW.only 16 rfl (by kernel_rfl) (S_inRowC (α := Int) (x750.set (x5.2.2.2 : Int).toNat x772) (x750.set (x5.2.2.2 : Int).toNat x772) rfl hL 1 rfl hix756 ha760 hc788 (fun E2 S1 hL hK => S_storeX (j := 0) x772 hL 0 rfl Try_T2 hix784 ha785 rfl rfl rfl rfl rfl rfl hK) ?_)
       intro wd787 S789 hL hc790 ha791
       simp only [lC, lD] at hL
       obtain ⟨wz792, hL, ho793, hs794, hc795, hr796⟩ := hL.freezeAt (α := Int) 1 rfl hix756 ha791 hc790
       simp only [lC, lD] at hL
       refine DW.done (by kernel_rfl) ?_
       refine CW.regionL <| OV (.int .i64 s_l1.2) rfl (x_mv f698) <| OV (.int .i64 (w64 (s_l1.2 + 2))) rfl (x_add rfl rfl) <| OV (.int .i64 (w64 (s_l1.2 + 2))) rfl (x_assign) <| OW.nil ?_
       have hL := hL.thaw 1 rfl ho793
       obtain rfl := Option.some.inj hm
       exact ⟨_, rfl, ⟨S789, f693, f694, f695, f696, f697, rfl, hL⟩⟩
     refine CW.exit ?_
     refine XJ.hit ?_
     obtain rfl := Option.some.inj hm
     exact ⟨_, rfl, ⟨S666, f693, f694, f695, f696, f697, f698, hL⟩⟩
   refine CW.skip ?_
   have hL := hL.cndOut 1 rfl ho17
   simp only [lC, lD] at hL
   have hL := hL.cndX 1 rfl
   simp only [lC, lD] at hL
   have hL := hL.sel [1, 0, 2, 3, 4, 5] (by decide) rfl
   exact ⟨x5.1.Points, hm, ⟨v8, S7, f429, f430, f431, f432, f433, hL⟩⟩
 intro s_j1 F413 wd414 hJ hm
 unfold M.spec_DrawDecidingRace_j1 at hm
 obtain ⟨v411, S412, f415, f416, f417, f418, f419, hL⟩ := hJ
 refine CSR <| OV (.agg #[(.int .i64 x5.1.Boats), v411, v10]) rfl (x_loadN (cs := [(.int .i64 x5.1.Boats), v411, v10]) U29 Try_T29 rfl f416 (hL.cellsB 1 rfl (o := 0) (l := [(.int .i64 x5.1.Boats), v411, v10]) (by intro j u hj; exact (by simpa using hj)))) <| OV v12 rfl (x_mv f417) <| OV (.int .i64 x5.2.2.1) rfl (x_mv f418) <| OV (.int .i64 x5.2.2.2) rfl (x_mv f419) ?_
 refine OW.cons (S_storeN (l := [(.int .i64 x5.1.Boats), v411, v10]) (cs' := #[(.int .i64 x5.1.Boats), v411, v10]) hL 4 rfl Try_T29 f415 rfl (List.forall_mem_cons.2 ⟨rfl, (List.forall_mem_cons.2 ⟨rdL_one (hL.rdX 0 rfl), (List.forall_mem_cons.2 ⟨rdL_one (hL.rdF 2 rfl ho19.1.rdL), (fun _ h => by cases h)⟩)⟩)⟩) rfl (Nat.le_of_ble_eq_true rfl) rfl ?_)
 intro wd420 hL
 refine OV v12 rfl (x_assign) <| OV (.int .i64 x5.2.2.1) rfl (x_assign) <| OV (.int .i64 x5.2.2.2) rfl (x_assign) <| OW.nil <| CW.ret ?_
 have hL := hL.rdxOut 2 rfl ho19
 simp only [lC, lD] at hL
 have hL := hL.rdxOut 3 rfl ho21
 simp only [lC, lD] at hL
 obtain rfl := Option.some.inj hm
 exact RRs (v := (.agg #[(.int .i64 x5.1.Boats), v411, v10])) (v2 := v12) (vs := [(.int .i64 x5.2.2.1), (.int .i64 x5.2.2.2)]) (rs := [.cell 2 29, .tmp 3, .tmp 4, .tmp 5]) rfl ⟨resCell f415 (run_loadBlk U29 Try_T29 (hL.get 4 rfl) rfl), resTmp rfl, resTmp rfl, resTmp rfl, trivial⟩ ⟨v411, S412, v10, S9, v12, S11, rfl, hL.fresh 5 rfl [0, 2, 3] (by decide) (by decide) rfl⟩

theorem M.laws_FnTied_ok (w0 : World) (a0 : List UInt8) {v1 : Value} (h2 : rdL (· < w0.heap.size) w0 v1 a0) {r : Bool} (hm : M.laws_FnTied a0 = some r) :
    Calls Try.prog 12 #[v1] w0 fun e w' => e = .returned (.bool r) ∧ Fresh w0 w' [] := by
 unfold M.laws_FnTied at hm
 refine calls_CW (args := [v1]) Try.func12 rfl rfl rfl ?_
 have hL := Hp.start w0
 refine CSR <| OV (.bool false) rfl (x_assign) <| ONS <| CSR <| OV v1 rfl (x_move) ?_
 obtain ⟨x3, hx4, hm⟩ := bndE hm
 refine OW.cons (OP.call rfl (x_call (vs := [v1]) Try_C36 ⟨rfl, trivial⟩) (M.laws_big_ok _ a0 (hL.rdS 0 rfl h2) hx4) ?_)
 rintro e5 wd6 ⟨rfl, hF7⟩
 refine ⟨_, rfl, ?_⟩
 have hL := hL.pushAll hF7
 simp only [lA, lB, lC, lD] at hL
 refine OW.nil ?_
 refine CW.condM (t := x3) rfl hm (fun hb8 hm => ?_) (fun hb8 hm => ?_)
 · refine CSR <| OV (.bool true) rfl (x_assign) <| OW.nil <| CW.ret ?_
   obtain rfl := Option.some.inj hm
   exact RR1 rfl rfl ⟨rfl, hL.fresh 0 rfl [] (by decide) (by decide) rfl⟩
 refine CW.skip <| CSR <| OV v1 rfl (x_move) ?_
 obtain ⟨x9, hx10, hm⟩ := bndE hm
 refine OW.cons (OP.call rfl (x_call (vs := [v1]) Try_C54 ⟨rfl, trivial⟩) (M.spec_DrawTiedBoats_ok _ a0 (hL.rdS 0 rfl h2) hx10) ?_)
 rintro e17 wd18 ⟨v12, S11, v14, S13, v16, S15, rfl, hF19⟩
 refine ⟨_, rfl, ?_⟩
 have hL := hL.pushAll hF19
 simp only [lA, lB, lC, lD] at hL
 obtain ⟨wz20, hL, ho21⟩ := hL.rdxFz 0 rfl
 simp only [lC, lD] at hL
 obtain ⟨wz22, hL, ho23⟩ := hL.rdxFz 1 rfl
 simp only [lC, lD] at hL
 obtain ⟨wz24, hL, ho25⟩ := hL.rdxFz 2 rfl
 simp only [lC, lD] at hL
 refine OV (.tuple #[(.agg #[(.int .i64 x9.1.Boats), v12, v14]), v16]) rfl (x_move) <| OV (.agg #[(.int .i64 x9.1.Boats), v12, v14]) rfl (x_extract rfl rfl) <| OV v16 rfl (x_extract rfl rfl) ?_
 refine OW.cons (S_alloc (cs := #[(.int .i64 0), (.slice none 0 0), (.slice none 0 0)]) hL Try_T29 rfl rfl ?_)
 intro wd26 b27 hL
 refine OW.cons (S_storeN (l := [(.int .i64 x9.1.Boats), v12, v14]) (cs' := #[(.int .i64 x9.1.Boats), v12, v14]) hL 0 rfl Try_T29 rfl rfl (List.forall_mem_cons.2 ⟨rfl, (List.forall_mem_cons.2 ⟨rdL_one (hL.rdF 1 rfl ho21.1.rdL), (List.forall_mem_cons.2 ⟨rdL_one (hL.rdF 2 rfl ho23.1.rdL), (fun _ h => by cases h)⟩)⟩)⟩) rfl (Nat.le_of_ble_eq_true rfl) rfl ?_)
 intro wd28 hL
 refine OV v16 rfl (x_assign) <| ONR <| OV (.agg #[(.int .i64 x9.1.Boats), v12, v14]) rfl (x_loadN (cs := [(.int .i64 x9.1.Boats), v12, v14]) U29 Try_T29 rfl rfl (hL.cellsB 0 rfl (o := 0) (l := [(.int .i64 x9.1.Boats), v12, v14]) (by intro j u hj; exact (by simpa using hj)))) <| OV v16 rfl (x_move) ?_
 obtain ⟨x29, hx30, hm⟩ := bndE hm
 refine OW.cons (OP.call rfl (x_call (vs := [(.agg #[(.int .i64 x9.1.Boats), v12, v14]), v16]) Try_C32 ⟨rfl, rfl, trivial⟩) (M.impl_TiedBoats_ok _ x9.1 (hL.rdF 1 rfl ho21.1.rdL) (hL.rdF 2 rfl ho23.1.rdL) x9.2 (hL.rdF 3 rfl ho25.1.rdL) hx30) ?_)
 rintro e33 wd34 ⟨v32, S31, rfl, hF35⟩
 refine ⟨_, rfl, ?_⟩
 have hL := hL.pushAll hF35
 simp only [lA, lB, lC, lD] at hL
 refine OV (.tuple #[v32, (.int .i64 x29.2)]) rfl (x_move) <| OV v32 rfl (x_extract rfl rfl) <| OV (.int .i64 x29.2) rfl (x_extract rfl rfl) <| OV v32 rfl (x_assign) <| OV (.int .i64 x29.2) rfl (x_assign) <| ONR <| OV v1 rfl (x_move) ?_
 obtain ⟨x36, hx37, hm⟩ := bndE hm
 refine OW.cons (OP.call rfl (x_call (vs := [v1]) Try_C54 ⟨rfl, trivial⟩) (M.spec_DrawTiedBoats_ok _ a0 (hL.rdS 5 rfl h2) hx37) ?_)
 rintro e44 wd45 ⟨v39, S38, v41, S40, v43, S42, rfl, hF46⟩
 refine ⟨_, rfl, ?_⟩
 have hL := hL.pushAll hF46
 simp only [lA, lB, lC, lD] at hL
 obtain ⟨wz47, hL, ho48⟩ := hL.rdxFz 0 rfl
 simp only [lC, lD] at hL
 obtain ⟨wz49, hL, ho50⟩ := hL.rdxFz 1 rfl
 simp only [lC, lD] at hL
 obtain ⟨wz51, hL, ho52⟩ := hL.rdxFz 2 rfl
 simp only [lC, lD] at hL
 refine OV (.tuple #[(.agg #[(.int .i64 x36.1.Boats), v39, v41]), v43]) rfl (x_move) <| OV (.agg #[(.int .i64 x36.1.Boats), v39, v41]) rfl (x_extract rfl rfl) <| OV v43 rfl (x_extract rfl rfl) ?_
 refine OW.cons (S_storeN (l := [(.int .i64 x36.1.Boats), v39, v41]) (cs' := #[(.int .i64 x36.1.Boats), v39, v41]) hL 4 rfl Try_T29 rfl rfl (List.forall_mem_cons.2 ⟨rfl, (List.forall_mem_cons.2 ⟨rdL_one (hL.rdF 0 rfl ho48.1.rdL), (List.forall_mem_cons.2 ⟨rdL_one (hL.rdF 1 rfl ho50.1.rdL), (fun _ h => by cases h)⟩)⟩)⟩) rfl (Nat.le_of_ble_eq_true rfl) rfl ?_)
 intro wd53 hL
 refine OV v43 rfl (x_assign) <| ONR <| OV (.agg #[(.int .i64 x36.1.Boats), v39, v41]) rfl (x_loadN (cs := [(.int .i64 x36.1.Boats), v39, v41]) U29 Try_T29 rfl rfl (hL.cellsB 4 rfl (o := 0) (l := [(.int .i64 x36.1.Boats), v39, v41]) (by intro j u hj; exact (by simpa using hj)))) <| OV v43 rfl (x_move) ?_
 obtain ⟨x54, hx55, hm⟩ := bndE hm
 refine OW.cons (OP.call rfl (x_call (vs := [(.agg #[(.int .i64 x36.1.Boats), v39, v41]), v43]) Try_C31 ⟨rfl, rfl, trivial⟩) (M.spec_TiedBoats_ok _ x36.1 (hL.rdF 0 rfl ho48.1.rdL) (hL.rdF 1 rfl ho50.1.rdL) x36.2 (hL.rdF 2 rfl ho52.1.rdL) hx55) ?_)
 rintro e58 wd59 ⟨v57, S56, rfl, hF60⟩
 refine ⟨_, rfl, ?_⟩
 have hL := hL.pushAll hF60
 simp only [lA, lB, lC, lD] at hL
 refine OV (.tuple #[v57, (.int .i64 x54.2)]) rfl (x_move) <| OV v57 rfl (x_extract rfl rfl) <| OV (.int .i64 x54.2) rfl (x_extract rfl rfl) <| OV v57 rfl (x_assign) <| OV (.int .i64 x54.2) rfl (x_assign) <| ONS ?_
 refine CW.seqJ (fun (s_j1 : Bool) (F : Fr) (w : World) => F 0 = v1 ∧ F 3 = (.pointer (some ⟨b27, 0, none⟩)) ∧ F 4 = v43 ∧ F 6 = (.int .i64 x29.2) ∧ F 7 = v57 ∧ F 58 = (.bool s_j1) ∧ Hp w0 [Ent.own 25 S56 v57 x54.1, Ent.frzS wz47 S38, Ent.frzS wz49 S40, Ent.frzS wz51 S42, Ent.blk b27 29 #[(.int .i64 x36.1.Boats), v39, v41], Ent.snap w0 w0.heap.size] w) (fun s_j1 => M.laws_FnTied_j1 a0 x29 x36 x54 s_j1 = some r) ?_ ?_
 · refine CW.regionL <| OV (.int .i64 x29.2) rfl (x_move) <| OV (.int .i64 x54.2) rfl (x_move) <| OV (.bool (x29.2 != x54.2)) rfl (x_neq rfl rfl) <| OV (.bool (x29.2 != x54.2)) rfl (x_move) ?_
   refine ifB_elim hm (fun hb1045 hm => ?_) (fun hb1045 hm => ?_)
   · refine OW.cons (OP.no' rfl rfl hb1045 rfl ?_)
     refine OW.cons (OP.no' rfl rfl hb1045 rfl ?_)
     refine OW.cons (OP.no' rfl rfl hb1045 rfl ?_)
     refine OW.cons (OP.no' rfl rfl hb1045 rfl ?_)
     refine OV (.bool true) rfl (x_pickT' rfl hb1045 rfl) <| OW.nil ?_
     have hL := hL.sel [0, 1, 2, 3, 5, 9] (by decide) rfl
     exact ⟨true, hm, ⟨rfl, rfl, rfl, rfl, rfl, rfl, hL⟩⟩
   refine OW.cons (OP.yes' rfl rfl hb1045 (OP.val (v := v32) rfl (x_move) ?_))
   refine OW.cons (OP.yes' rfl rfl hb1045 (OP.val (v := v57) rfl (x_move) ?_))
   obtain ⟨x1046, hx1047, hm⟩ := bndE hm
   refine OW.cons (OP.yes' rfl rfl hb1045 (OP.call rfl (x_call (vs := [v32, v57]) Try_C55 ⟨rfl, rfl, trivial⟩) (M.laws_likeRows_ok _ x29.1 (hL.rdO 4 rfl) x54.1 (hL.rdO 0 rfl) hx1047) ?_))
   rintro e1048 wd1049 ⟨rfl, hF1050⟩
   refine ⟨_, rfl, ?_⟩
   have hL := hL.pushAll hF1050
   simp only [lA, lB, lC, lD] at hL
   refine OW.cons (OP.yes' rfl rfl hb1045 (OP.val (v := (.bool (!x1046))) rfl (x_not rfl) ?_))
   refine OV (.bool (!x1046)) rfl (x_pickF' rfl hb1045 rfl) <| OW.nil ?_
   have hL := hL.sel [0, 1, 2, 3, 5, 9] (by decide) rfl
   exact ⟨!x1046, hm, ⟨rfl, rfl, rfl, rfl, rfl, rfl, hL⟩⟩
 intro s_j1 F67 wd68 hJ hm
 unfold M.laws_FnTied_j1 at hm
 obtain ⟨f69, f70, f71, f72, f73, f74, hL⟩ := hJ
 refine CW.condM (t := s_j1) f74 hm (fun hb75 hm => ?_) (fun hb75 hm => ?_)
 · refine CSR <| OV (.bool false) rfl (x_assign) <| OW.nil <| CW.ret ?_
   obtain rfl := Option.some.inj hm
   exact RR1 rfl rfl ⟨rfl, hL.fresh 5 rfl [] (by decide) (by decide) rfl⟩
 refine CW.skip <| CSR <| OV v1 rfl (x_mv f69) ?_
 obtain ⟨x76, hx77, hm⟩ := bndE hm
 refine OW.cons (OP.call rfl (x_call (vs := [v1]) Try_C56 ⟨rfl, trivial⟩) (M.spec_DrawDecidingRace_ok _ a0 (hL.rdS 5 rfl h2) hx77) ?_)
 rintro e84 wd85 ⟨v79, S78, v81, S80, v83, S82, rfl, hF86⟩
 refine ⟨_, rfl, ?_⟩
 have hL := hL.pushAll hF86
 simp only [lA, lB, lC, lD] at hL
 obtain ⟨wz87, hL, ho88⟩ := hL.rdxFz 0 rfl
 simp only [lC, lD] at hL
 obtain ⟨wz89, hL, ho90⟩ := hL.rdxFz 1 rfl
 simp only [lC, lD] at hL
 obtain ⟨wz91, hL, ho92⟩ := hL.rdxFz 2 rfl
 simp only [lC, lD] at hL
 refine OV (.tuple #[(.agg #[(.int .i64 x76.1.Boats), v79, v81]), v83, (.int .i64 x76.2.2.1), (.int .i64 x76.2.2.2)]) rfl (x_move) <| OV (.agg #[(.int .i64 x76.1.Boats), v79, v81]) rfl (x_extract rfl rfl) <| OV v83 rfl (x_extract rfl rfl) <| OV (.int .i64 x76.2.2.1) rfl (x_extract rfl rfl) <| OV (.int .i64 x76.2.2.2) rfl (x_extract rfl rfl) ?_
 refine OW.cons (S_alloc (cs := #[(.int .i64 0), (.slice none 0 0), (.slice none 0 0)]) hL Try_T29 rfl rfl ?_)
 intro wd93 b94 hL
 refine OW.cons (S_storeN (l := [(.int .i64 x76.1.Boats), v79, v81]) (cs' := #[(.int .i64 x76.1.Boats), v79, v81]) hL 0 rfl Try_T29 rfl rfl (List.forall_mem_cons.2 ⟨rfl, (List.forall_mem_cons.2 ⟨rdL_one (hL.rdF 1 rfl ho88.1.rdL), (List.forall_mem_cons.2 ⟨rdL_one (hL.rdF 2 rfl ho90.1.rdL), (fun _ h => by cases h)⟩)⟩)⟩) rfl (Nat.le_of_ble_eq_true rfl) rfl ?_)
 intro wd95 hL
 refine OV v83 rfl (x_assign) <| OV (.int .i64 x76.2.2.1) rfl (x_assign) <| OV (.int .i64 x76.2.2.2) rfl (x_assign) <| ONR <| OV (.agg #[(.int .i64 x76.1.Boats), v79, v81]) rfl (x_loadN (cs := [(.int .i64 x76.1.Boats), v79, v81]) U29 Try_T29 rfl rfl (hL.cellsB 0 rfl (o := 0) (l := [(.int .i64 x76.1.Boats), v79, v81]) (by intro j u hj; exact (by simpa using hj)))) <| OV v83 rfl (x_move) <| OV (.int .i64 x76.2.2.1) rfl (x_move) <| OV (.int .i64 x76.2.2.2) rfl (x_move) ?_
 obtain ⟨x96, hx97, hm⟩ := bndE hm
 refine OW.cons (OP.call rfl (x_call (vs := [(.agg #[(.int .i64 x76.1.Boats), v79, v81]), v83, (.int .i64 x76.2.2.1), (.int .i64 x76.2.2.2)]) Try_C21 ⟨rfl, rfl, rfl, rfl, trivial⟩) (M.impl_DecidingRace_ok _ x76.1 (hL.rdF 1 rfl ho88.1.rdL) (hL.rdF 2 rfl ho90.1.rdL) x76.2.1 (hL.rdF 3 rfl ho92.1.rdL) x76.2.2.1 x76.2.2.2 hx97) ?_)
 rintro e98 wd99 ⟨rfl, hF100⟩
 refine ⟨_, rfl, ?_⟩
 have hL := hL.pushAll hF100
 simp only [lA, lB, lC, lD] at hL
 refine OV (.tuple #[(.int .i64 x96.1), (.int .i64 x96.2)]) rfl (x_move) <| OV (.int .i64 x96.1) rfl (x_extract rfl rfl) <| OV (.int .i64 x96.2) rfl (x_extract rfl rfl) <| OV (.int .i64 x96.1) rfl (x_assign) <| OV (.int .i64 x96.2) rfl (x_assign) <| ONR <| OV v1 rfl (x_mv f69) ?_
 obtain ⟨x101, hx102, hm⟩ := bndE hm
 refine OW.cons (OP.call rfl (x_call (vs := [v1]) Try_C56 ⟨rfl, trivial⟩) (M.spec_DrawDecidingRace_ok _ a0 (hL.rdS 9 rfl h2) hx102) ?_)
 rintro e109 wd110 ⟨v104, S103, v106, S105, v108, S107, rfl, hF111⟩
 refine ⟨_, rfl, ?_⟩
 have hL := hL.pushAll hF111
 simp only [lA, lB, lC, lD] at hL
 obtain ⟨wz112, hL, ho113⟩ := hL.rdxFz 0 rfl
 simp only [lC, lD] at hL
 obtain ⟨wz114, hL, ho115⟩ := hL.rdxFz 1 rfl
 simp only [lC, lD] at hL
 obtain ⟨wz116, hL, ho117⟩ := hL.rdxFz 2 rfl
 simp only [lC, lD] at hL
 refine OV (.tuple #[(.agg #[(.int .i64 x101.1.Boats), v104, v106]), v108, (.int .i64 x101.2.2.1), (.int .i64 x101.2.2.2)]) rfl (x_move) <| OV (.agg #[(.int .i64 x101.1.Boats), v104, v106]) rfl (x_extract rfl rfl) <| OV v108 rfl (x_extract rfl rfl) <| OV (.int .i64 x101.2.2.1) rfl (x_extract rfl rfl) <| OV (.int .i64 x101.2.2.2) rfl (x_extract rfl rfl) ?_
 refine OW.cons (S_storeN (l := [(.int .i64 x101.1.Boats), v104, v106]) (cs' := #[(.int .i64 x101.1.Boats), v104, v106]) hL 3 rfl Try_T29 rfl rfl (List.forall_mem_cons.2 ⟨rfl, (List.forall_mem_cons.2 ⟨rdL_one (hL.rdF 0 rfl ho113.1.rdL), (List.forall_mem_cons.2 ⟨rdL_one (hL.rdF 1 rfl ho115.1.rdL), (fun _ h => by cases h)⟩)⟩)⟩) rfl (Nat.le_of_ble_eq_true rfl) rfl ?_)
 intro wd118 hL
 refine OV v108 rfl (x_assign) <| OV (.int .i64 x101.2.2.1) rfl (x_assign) <| OV (.int .i64 x101.2.2.2) rfl (x_assign) <| ONR <| OV (.agg #[(.int .i64 x101.1.Boats), v104, v106]) rfl (x_loadN (cs := [(.int .i64 x101.1.Boats), v104, v106]) U29 Try_T29 rfl rfl (hL.cellsB 3 rfl (o := 0) (l := [(.int .i64 x101.1.Boats), v104, v106]) (by intro j u hj; exact (by simpa using hj)))) <| OV v108 rfl (x_move) <| OV (.int .i64 x101.2.2.1) rfl (x_move) <| OV (.int .i64 x101.2.2.2) rfl (x_move) ?_
 obtain ⟨x119, hx120, hm⟩ := bndE hm
 refine OW.cons (OP.call rfl (x_call (vs := [(.agg #[(.int .i64 x101.1.Boats), v104, v106]), v108, (.int .i64 x101.2.2.1), (.int .i64 x101.2.2.2)]) Try_C20 ⟨rfl, rfl, rfl, rfl, trivial⟩) (M.spec_DecidingRace_ok _ x101.1 (hL.rdF 0 rfl ho113.1.rdL) (hL.rdF 1 rfl ho115.1.rdL) x101.2.1 (hL.rdF 2 rfl ho117.1.rdL) x101.2.2.1 x101.2.2.2 hx120) ?_)
 rintro e121 wd122 ⟨rfl, hF123⟩
 refine ⟨_, rfl, ?_⟩
 have hL := hL.pushAll hF123
 simp only [lA, lB, lC, lD] at hL
 refine OV (.tuple #[(.int .i64 x119.1), (.int .i64 x119.2)]) rfl (x_move) <| OV (.int .i64 x119.1) rfl (x_extract rfl rfl) <| OV (.int .i64 x119.2) rfl (x_extract rfl rfl) <| OV (.int .i64 x119.1) rfl (x_assign) <| OV (.int .i64 x119.2) rfl (x_assign) <| ONS ?_
 refine CW.seqJ (fun (s_j2 : Bool) (F : Fr) (w : World) => F 3 = (.pointer (some ⟨b27, 0, none⟩)) ∧ F 4 = v43 ∧ F 6 = (.int .i64 x29.2) ∧ F 7 = v57 ∧ F 9 = (.pointer (some ⟨b94, 0, none⟩)) ∧ F 11 = (.int .i64 x101.2.2.1) ∧ F 12 = (.int .i64 x101.2.2.2) ∧ F 13 = (.int .i64 x96.1) ∧ F 14 = (.int .i64 x96.2) ∧ F 96 = (.bool s_j2) ∧ Hp w0 [Ent.frzS wz112 S103, Ent.frzS wz114 S105, Ent.blk b94 29 #[(.int .i64 x101.1.Boats), v104, v106], Ent.own 25 S56 v57 x54.1, Ent.frzS wz47 S38, Ent.frzS wz49 S40, Ent.frzS wz51 S42, Ent.blk b27 29 #[(.int .i64 x36.1.Boats), v39, v41], Ent.snap w0 w0.heap.size] w) (fun s_j2 => M.laws_FnTied_j2 x29 x36 x54 x96 x101 s_j2 = some r) ?_ ?_
 · refine CW.regionL <| OV (.int .i64 x96.2) rfl (x_move) <| OV (.int .i64 x119.2) rfl (x_move) <| OV (.bool (x96.2 != x119.2)) rfl (x_neq rfl rfl) <| OV (.bool (x96.2 != x119.2)) rfl (x_move) ?_
   refine ifB_elim hm (fun hb1044 hm => ?_) (fun hb1044 hm => ?_)
   · refine OW.cons (OP.no' rfl rfl hb1044 rfl ?_)
     refine OW.cons (OP.no' rfl rfl hb1044 rfl ?_)
     refine OW.cons (OP.no' rfl rfl hb1044 rfl ?_)
     refine OV (.bool true) rfl (x_pickT' rfl hb1044 rfl) <| OW.nil ?_
     have hL := hL.sel [0, 1, 3, 7, 8, 9, 10, 11, 12] (by decide) rfl
     exact ⟨true, hm, ⟨f70, f71, f72, f73, rfl, rfl, rfl, rfl, rfl, rfl, hL⟩⟩
   refine OW.cons (OP.yes' rfl rfl hb1044 (OP.val (v := (.int .i64 x96.1)) rfl (x_move) ?_))
   refine OW.cons (OP.yes' rfl rfl hb1044 (OP.val (v := (.int .i64 x119.1)) rfl (x_move) ?_))
   refine OW.cons (OP.yes' rfl rfl hb1044 (OP.val (v := (.bool (x96.1 != x119.1))) rfl (x_neq rfl rfl) ?_))
   refine OV (.bool (x96.1 != x119.1)) rfl (x_pickF' rfl hb1044 rfl) <| OW.nil ?_
   have hL := hL.sel [0, 1, 3, 7, 8, 9, 10, 11, 12] (by decide) rfl
   exact ⟨x96.1 != x119.1, hm, ⟨f70, f71, f72, f73, rfl, rfl, rfl, rfl, rfl, rfl, hL⟩⟩
 intro s_j2 F125 wd126 hJ hm
 unfold M.laws_FnTied_j2 at hm
 obtain ⟨f127, f128, f129, f130, f131, f132, f133, f134, f135, f136, hL⟩ := hJ
 refine CW.condM (t := s_j2) f136 hm (fun hb137 hm => ?_) (fun hb137 hm => ?_)
 · refine CSR <| OV (.bool false) rfl (x_assign) <| OW.nil <| CW.ret ?_
   obtain rfl := Option.some.inj hm
   exact RR1 rfl rfl ⟨rfl, hL.fresh 8 rfl [] (by decide) (by decide) rfl⟩
 refine CW.skip <| CW.seq <| CSR <| OV (.int .i64 x96.1) rfl (x_mv f134) <| OV (.int .i64 x96.1) rfl (x_assign) <| OW.nil ?_
 obtain ⟨o252, ho253, hm⟩ := bndE hm
 refine CW.loopB (fun (s_l1 : Int) (F : Fr) (w : World) => F 3 = (.pointer (some ⟨b27, 0, none⟩)) ∧ F 4 = v43 ∧ F 6 = (.int .i64 x29.2) ∧ F 7 = v57 ∧ F 9 = (.pointer (some ⟨b94, 0, none⟩)) ∧ F 11 = (.int .i64 x101.2.2.1) ∧ F 12 = (.int .i64 x101.2.2.2) ∧ F 13 = (.int .i64 x96.1) ∧ F 14 = (.int .i64 x96.2) ∧ F 17 = (.int .i64 s_l1) ∧ Hp w0 [Ent.frzS wz112 S103, Ent.frzS wz114 S105, Ent.blk b94 29 #[(.int .i64 x101.1.Boats), v104, v106], Ent.own 25 S56 v57 x54.1, Ent.frzS wz47 S38, Ent.frzS wz49 S40, Ent.frzS wz51 S42, Ent.blk b27 29 #[(.int .i64 x36.1.Boats), v39, v41], Ent.snap w0 w0.heap.size] w) (fun o => outc o (fun x => some x) (fun s => M.laws_FnTied_a1 x29 x36 x54 s) = some r) ho253 hm ⟨f127, f128, f129, f130, f131, f132, f133, f134, f135, rfl, hL⟩ ?_ ?_
 · intro s_l1 F254 wd255 hJ hm
   have hm := outcE hm
   have hm : M.laws_FnTied_a1 x29 x36 x54 s_l1 = some r := hm
   unfold M.laws_FnTied_a1 at hm
   obtain ⟨f256, f257, f258, f259, f260, f261, f262, f263, f264, f265, hL⟩ := hJ
   refine CW.seq <| CSR <| OV (.int .i64 x29.2) rfl (x_mv f258) <| OV (.bool (x29.2 != 0)) rfl (x_neq rfl rfl) <| OW.nil ?_
   refine CW.condM (t := x29.2 != 0) rfl hm (fun hb266 hm => ?_) (fun hb266 hm => ?_)
   · refine CSR <| OV (.bool true) rfl (x_assign) <| OW.nil <| CW.ret ?_
     obtain rfl := Option.some.inj hm
     exact RR1 rfl rfl ⟨rfl, hL.fresh 8 rfl [] (by decide) (by decide) rfl⟩
   refine CW.skip <| CSR <| OV (.agg #[(.int .i64 x36.1.Boats), v39, v41]) rfl (x_loadN (cs := [(.int .i64 x36.1.Boats), v39, v41]) U29 Try_T29 rfl f256 (hL.cellsB 7 rfl (o := 0) (l := [(.int .i64 x36.1.Boats), v39, v41]) (by intro j u hj; exact (by simpa using hj)))) <| OV v43 rfl (x_mv f257) ?_
   obtain ⟨x267, hx268, hm⟩ := bndE hm
   refine OW.cons (OP.call rfl (x_call (vs := [(.agg #[(.int .i64 x36.1.Boats), v39, v41]), v43]) Try_C46 ⟨rfl, rfl, trivial⟩) (M.impl_NetScores_ok _ x36.1 (hL.rdF 4 rfl ho48.1.rdL) (hL.rdF 5 rfl ho50.1.rdL) x36.2 (hL.rdF 6 rfl ho52.1.rdL) hx268) ?_)
   rintro e271 wd272 ⟨v270, S269, rfl, hF273⟩
   refine ⟨_, rfl, ?_⟩
   have hL := hL.pushAll hF273
   simp only [lA, lB, lC, lD] at hL
   refine OV (.tuple #[v270, (.int .i64 x267.2)]) rfl (x_move) <| OV v270 rfl (x_extract rfl rfl) <| OV (.int .i64 x267.2) rfl (x_extract rfl rfl) <| OV v270 rfl (x_assign) <| OV (.int .i64 x267.2) rfl (x_assign) <| ONS ?_
   refine CW.seqJ (fun (s_j3 : Bool) (F : Fr) (w : World) => F 3 = (.pointer (some ⟨b27, 0, none⟩)) ∧ F 4 = v43 ∧ F 7 = v57 ∧ F 18 = v270 ∧ F 146 = (.bool s_j3) ∧ Hp w0 [Ent.own 2 S269 v270 x267.1, Ent.frzS wz112 S103, Ent.frzS wz114 S105, Ent.blk b94 29 #[(.int .i64 x101.1.Boats), v104, v106], Ent.own 25 S56 v57 x54.1, Ent.frzS wz47 S38, Ent.frzS wz49 S40, Ent.frzS wz51 S42, Ent.blk b27 29 #[(.int .i64 x36.1.Boats), v39, v41], Ent.snap w0 w0.heap.size] w) (fun s_j3 => M.laws_FnTied_j3 x36 x54 x267 s_j3 = some r) ?_ ?_
   · refine CW.regionL <| OV (.int .i64 x267.2) rfl (x_move) <| OV (.bool (x267.2 != 0)) rfl (x_neq rfl rfl) <| OV (.bool (x267.2 != 0)) rfl (x_move) ?_
     refine ifB_elim hm (fun hb975 hm => ?_) (fun hb975 hm => ?_)
     · refine OW.cons (OP.no' rfl rfl hb975 rfl ?_)
       refine OW.cons (OP.no' rfl rfl hb975 rfl ?_)
       refine OW.cons (OP.no' rfl rfl hb975 rfl ?_)
       refine OW.cons (OP.no' rfl rfl hb975 rfl ?_)
       refine OW.cons (OP.no' rfl rfl hb975 rfl ?_)
       refine OV (.bool true) rfl (x_pickT' rfl hb975 rfl) <| OW.nil ?_
       exact ⟨true, hm, ⟨f256, f257, f259, rfl, rfl, hL⟩⟩
     refine OW.cons (OP.yes' rfl rfl hb975 (OP.val (v := v270) rfl (x_move) ?_))
     refine OW.cons (OP.yes' rfl rfl hb975 (OP.val (v := (.int .i64 (x267.1.length : Int))) rfl (x_lenR U25 rfl (hL.rdO 0 rfl)) ?_))
     refine OW.cons (OP.yes' rfl rfl hb975 (OP.val (v := (.pointer (some ⟨b27, 0, none⟩))) rfl (x_fieldAddr (fsz := 1) 0 0 0 U29 rfl Try_T2 rfl f256 rfl) ?_))
     refine OW.cons (OP.yes' rfl rfl hb975 (OP.val (v := (.int .i64 x36.1.Boats)) rfl (x_load1 U2 rfl rfl (hL.cellB 8 rfl rfl)) ?_))
     refine OW.cons (OP.yes' rfl rfl hb975 (OP.val (v := (.bool ((x267.1.length : Int) != x36.1.Boats))) rfl (x_neq rfl rfl) ?_))
     refine OV (.bool ((x267.1.length : Int) != x36.1.Boats)) rfl (x_pickF' rfl hb975 rfl) <| OW.nil ?_
     exact ⟨(x267.1.length : Int) != x36.1.Boats, hm, ⟨f256, f257, f259, rfl, rfl, hL⟩⟩
   intro s_j3 F275 wd276 hJ hm
   unfold M.laws_FnTied_j3 at hm
   obtain ⟨f277, f278, f279, f280, f281, hL⟩ := hJ
   refine CW.condM (t := s_j3) f281 hm (fun hb282 hm => ?_) (fun hb282 hm => ?_)
   · refine CSR <| OV (.bool false) rfl (x_assign) <| OW.nil <| CW.ret ?_
     obtain rfl := Option.some.inj hm
     exact RR1 rfl rfl ⟨rfl, hL.fresh 9 rfl [] (by decide) (by decide) rfl⟩
   refine CW.skip <| CW.seq <| CSR <| OV (.int .i64 0) rfl (x_assign) <| OW.nil ?_
   obtain ⟨o723, ho724, hm⟩ := bndE hm
   refine CW.loopB (fun (s_l2 : Int) (F : Fr) (w : World) => F 3 = (.pointer (some ⟨b27, 0, none⟩)) ∧ F 4 = v43 ∧ F 7 = v57 ∧ F 18 = v270 ∧ F 20 = (.int .i64 s_l2) ∧ Hp w0 [Ent.own 2 S269 v270 x267.1, Ent.frzS wz112 S103, Ent.frzS wz114 S105, Ent.blk b94 29 #[(.int .i64 x101.1.Boats), v104, v106], Ent.own 25 S56 v57 x54.1, Ent.frzS wz47 S38, Ent.frzS wz49 S40, Ent.frzS wz51 S42, Ent.blk b27 29 #[(.int .i64 x36.1.Boats), v39, v41], Ent.snap w0 w0.heap.size] w) (fun o => outc o (fun x => some x) (fun s => M.laws_FnTied_a2 x36 s) = some r) ho724 hm ⟨f277, f278, f279, f280, rfl, hL⟩ ?_ ?_
   · intro s_l2 F725 wd726 hJ hm
     have hm := outcE hm
     have hm : M.laws_FnTied_a2 x36 s_l2 = some r := hm
     unfold M.laws_FnTied_a2 at hm
     obtain ⟨f727, f728, f729, f730, f731, hL⟩ := hJ
     refine CSR <| OV (.agg #[(.int .i64 x36.1.Boats), v39, v41]) rfl (x_loadN (cs := [(.int .i64 x36.1.Boats), v39, v41]) U29 Try_T29 rfl f727 (hL.cellsB 8 rfl (o := 0) (l := [(.int .i64 x36.1.Boats), v39, v41]) (by intro j u hj; exact (by simpa using hj)))) <| OV v43 rfl (x_mv f728) ?_
     obtain ⟨x732, hx733, hm⟩ := bndE hm
     refine OW.cons (OP.call rfl (x_call (vs := [(.agg #[(.int .i64 x36.1.Boats), v39, v41]), v43]) Try_C30 ⟨rfl, rfl, trivial⟩) (M.impl_LeadOf_ok _ x36.1 (hL.rdF 5 rfl ho48.1.rdL) (hL.rdF 6 rfl ho50.1.rdL) x36.2 (hL.rdF 7 rfl ho52.1.rdL) hx733) ?_)
     rintro e734 wd735 ⟨rfl, hF736⟩
     refine ⟨_, rfl, ?_⟩
     have hL := hL.pushAll hF736
     simp only [lA, lB, lC, lD] at hL
     refine OV (.tuple #[(.int .i64 x732.1), (.int .i64 x732.2)]) rfl (x_move) <| OV (.int .i64 x732.1) rfl (x_extract rfl rfl) <| OV (.int .i64 x732.2) rfl (x_extract rfl rfl) <| OV (.int .i64 x732.1) rfl (x_assign) <| OV (.int .i64 x732.2) rfl (x_assign) <| ONR <| OV (.agg #[(.int .i64 x36.1.Boats), v39, v41]) rfl (x_loadN (cs := [(.int .i64 x36.1.Boats), v39, v41]) U29 Try_T29 rfl f727 (hL.cellsB 8 rfl (o := 0) (l := [(.int .i64 x36.1.Boats), v39, v41]) (by intro j u hj; exact (by simpa using hj)))) <| OV v43 rfl (x_mv f728) ?_
     obtain ⟨x737, hx738, hm⟩ := bndE hm
     refine OW.cons (OP.call rfl (x_call (vs := [(.agg #[(.int .i64 x36.1.Boats), v39, v41]), v43]) Try_C29 ⟨rfl, rfl, trivial⟩) (M.spec_LeadOf_ok _ x36.1 (hL.rdF 5 rfl ho48.1.rdL) (hL.rdF 6 rfl ho50.1.rdL) x36.2 (hL.rdF 7 rfl ho52.1.rdL) hx738) ?_)
     rintro e739 wd740 ⟨rfl, hF741⟩
     refine ⟨_, rfl, ?_⟩
     have hL := hL.pushAll hF741
     simp only [lA, lB, lC, lD] at hL
     refine OV (.tuple #[(.int .i64 x737.1), (.int .i64 x737.2)]) rfl (x_move) <| OV (.int .i64 x737.1) rfl (x_extract rfl rfl) <| OV (.int .i64 x737.2) rfl (x_extract rfl rfl) <| OV (.int .i64 x737.1) rfl (x_assign) <| OV (.int .i64 x737.2) rfl (x_assign) <| OW.nil ?_
     refine CW.seqJ (fun (s_j4 : Bool) (F : Fr) (w : World) => F 2 = (.bool s_j4) ∧ Hp w0 [Ent.frzS wz112 S103, Ent.frzS wz114 S105, Ent.blk b94 29 #[(.int .i64 x101.1.Boats), v104, v106], Ent.frzS wz47 S38, Ent.frzS wz49 S40, Ent.blk b27 29 #[(.int .i64 x36.1.Boats), v39, v41], Ent.snap w0 w0.heap.size] w) (fun s_j4 => M.laws_FnTied_j4 s_j4 = some r) ?_ ?_
     · refine CW.regionL <| OV (.int .i64 x732.2) rfl (x_move) <| OV (.int .i64 x737.2) rfl (x_move) <| OV (.bool (x732.2 == x737.2)) rfl (x_eql rfl rfl) <| OV (.bool (x732.2 == x737.2)) rfl (x_move) ?_
       refine ifB_elim hm (fun hb747 hm => ?_) (fun hb747 hm => ?_)
       · refine OW.cons (OP.yes' rfl rfl hb747 (OP.val (v := (.int .i64 x732.1)) rfl (x_move) ?_))
         refine OW.cons (OP.yes' rfl rfl hb747 (OP.val (v := (.int .i64 x737.1)) rfl (x_move) ?_))
         refine OW.cons (OP.yes' rfl rfl hb747 (OP.val (v := (.bool (x732.1 == x737.1))) rfl (x_eql rfl rfl) ?_))
         refine OV (.bool (x732.1 == x737.1)) rfl (x_pickT' rfl hb747 rfl) <| OV (.bool (x732.1 == x737.1)) rfl (x_move) ?_
         refine ifB_elim hm (fun hb748 hm => ?_) (fun hb748 hm => ?_)
         · refine OW.cons (OP.yes' rfl rfl hb748 (OP.val (v := (.int .i64 x732.1)) rfl (x_move) ?_))
           refine OW.cons (OP.yes' rfl rfl hb748 (OP.val (v := (.bool (decide (0 ≤ x732.1)))) rfl (x_geq rfl rfl) ?_))
           refine OV (.bool (decide (0 ≤ x732.1))) rfl (x_pickT' rfl hb748 rfl) <| OV (.bool (decide (0 ≤ x732.1))) rfl (x_assign) <| OW.nil ?_
           have hL := hL.sel [1, 2, 3, 5, 6, 8, 9] (by decide) rfl
           exact ⟨decide (0 ≤ x732.1), hm, ⟨rfl, hL⟩⟩
         refine OW.cons (OP.no' rfl rfl hb748 rfl ?_)
         refine OW.cons (OP.no' rfl rfl hb748 rfl ?_)
         refine OV (.bool false) rfl (x_pickF' rfl hb748 rfl) <| OV (.bool false) rfl (x_assign) <| OW.nil ?_
         have hL := hL.sel [1, 2, 3, 5, 6, 8, 9] (by decide) rfl
         exact ⟨false, hm, ⟨rfl, hL⟩⟩
       refine OW.cons (OP.no' rfl rfl hb747 rfl ?_)
       refine OW.cons (OP.no' rfl rfl hb747 rfl ?_)
       refine OW.cons (OP.no' rfl rfl hb747 rfl ?_)
       refine OV (.bool false) rfl (x_pickF' rfl hb747 rfl) <| OV (.bool false) rfl (x_move) ?_
       refine OW.cons (OP.no' rfl rfl rfl rfl ?_)
       refine OW.cons (OP.no' rfl rfl rfl rfl ?_)
       refine OV (.bool false) rfl (x_pickF' rfl rfl rfl) <| OV (.bool false) rfl (x_assign) <| OW.nil ?_
       have hL := hL.sel [1, 2, 3, 5, 6, 8, 9] (by decide) rfl
       exact ⟨false, hm, ⟨rfl, hL⟩⟩
     intro s_j4 F744 wd745 hJ hm
     unfold M.laws_FnTied_j4 at hm
     obtain ⟨f746, hL⟩ := hJ
     refine CW.ret ?_
     obtain rfl := Option.some.inj hm
     exact RR1 rfl f746 ⟨rfl, hL.fresh 6 rfl [] (by decide) (by decide) rfl⟩
   intro s_l2 F749 wd750 t721 hJ hm hr722
   unfold M.laws_FnTied_l2 at hm
   obtain ⟨f751, f752, f753, f754, f755, hL⟩ := hJ
   refine CW.seq <| CSR <| OV (.int .i64 s_l2) rfl (x_mv f755) <| OV v57 rfl (x_mv f753) <| OV (.int .i64 (x54.1.length : Int)) rfl (x_lenR U22 rfl (hL.rdO 4 rfl)) <| OV (.bool (decide (s_l2 < (x54.1.length : Int)))) rfl (x_lss rfl rfl) <| OW.nil ?_
   refine CW.condM (t := decide (s_l2 < (x54.1.length : Int))) rfl hm (fun hb756 hm => ?_) (fun hb756 hm => ?_)
   · refine CW.skip <| CW.seq <| CW.block <| CSR <| OV (.int .i64 1) rfl (x_assign) <| OW.nil ?_
     obtain ⟨o891, ho892, hm⟩ := bndE hm
     refine CW.loopB (fun (s_l3 : Int) (F : Fr) (w : World) => F 3 = (.pointer (some ⟨b27, 0, none⟩)) ∧ F 4 = v43 ∧ F 7 = v57 ∧ F 18 = v270 ∧ F 20 = (.int .i64 s_l2) ∧ F 21 = (.int .i64 s_l3) ∧ Hp w0 [Ent.own 2 S269 v270 x267.1, Ent.frzS wz112 S103, Ent.frzS wz114 S105, Ent.blk b94 29 #[(.int .i64 x101.1.Boats), v104, v106], Ent.own 25 S56 v57 x54.1, Ent.frzS wz47 S38, Ent.frzS wz49 S40, Ent.frzS wz51 S42, Ent.blk b27 29 #[(.int .i64 x36.1.Boats), v39, v41], Ent.snap w0 w0.heap.size] w) (fun o => outc o (fun x => some (.ret x)) (fun s => M.laws_FnTied_a3 s_l2 s) = some t721) ho892 hm ⟨f751, f752, f753, f754, f755, rfl, hL⟩ ?_ ?_
     · intro s_l3 F893 wd894 hJ hm
       have hm := outcE hm
       have hm : M.laws_FnTied_a3 s_l2 s_l3 = some t721 := hm
       unfold M.laws_FnTied_a3 at hm
       obtain ⟨f895, f896, f897, f898, f899, f900, hL⟩ := hJ
       refine CW.regionL <| OV (.int .i64 s_l2) rfl (x_mv f899) <| OV (.int .i64 (w64 (s_l2 + 1))) rfl (x_add rfl rfl) <| OV (.int .i64 (w64 (s_l2 + 1))) rfl (x_assign) <| OW.nil ?_
       obtain rfl := Option.some.inj hm
       exact ⟨_, rfl, ⟨f895, f896, f897, f898, rfl, hL⟩⟩
     intro s_l3 F901 wd902 t889 hJ hm hr890
     unfold M.laws_FnTied_l3 at hm
     obtain ⟨f903, f904, f905, f906, f907, f908, hL⟩ := hJ
     refine CW.seq <| CSR <| OV (.int .i64 s_l3) rfl (x_mv f908) <| OV v57 rfl (x_mv f905) <| OV (.int .i64 s_l2) rfl (x_mv f907) ?_
     obtain ⟨wz909, hL, ho910⟩ := hL.freeze 4 rfl
     simp only [lC, lD] at hL
     obtain ⟨x911, ha912, hm⟩ := bndE hm
     obtain ⟨hz913, ha921⟩ := idxE ha912
     obtain ⟨b914, q915, v916, hix917, hs918, hc919, hr920⟩ := rdN_at ho910.1.rdL hz913 ha921
     refine OV (.pointer (some ⟨b914, q915, none⟩)) rfl (x_ix U22 Try_T25 rfl rfl hix917) <| OV v916 rfl (x_load1 U25 rfl rfl (hL.cellF 4 rfl hs918 hc919)) <| OV (.int .i64 (x911.length : Int)) rfl (x_lenR U25 rfl (hL.rdF 4 rfl hr920)) <| OV (.bool (decide (s_l3 < (x911.length : Int)))) rfl (x_lss rfl rfl) <| OW.nil ?_
     refine CW.condM (t := decide (s_l3 < (x911.length : Int))) rfl hm (fun hb922 hm => ?_) (fun hb922 hm => ?_)
     · refine CW.skip <| CW.seq <| CW.block <| CW.seq ?_
       refine CW.draw Try_mixed ?_
       have hL := hL.call (Mod.drew _)
       refine DW.pre (fuel := 0) (fin := bma 20 1048575) (C := fun w' => Mod None_ _ w') [0, 1, 2, 3, 4, 5, 6, 7, 8, 9, 10, 11, 12, 13, 14, 15, 16, 17, 18, 19] (Mod.refl _ _) (by kernel_rfl) (by kernel_rfl) ?_
       refine QV v270 rfl rfl (fun w' hm' => x_mv f906) <| QV v57 rfl rfl (fun w' hm' => x_mv f905) <| QV (.int .i64 s_l2) rfl rfl (fun w' hm' => x_mv f907) ?_
       obtain ⟨x923, ha924, hm⟩ := bndE hm
       obtain ⟨hz925, ha933⟩ := idxE ha924
       obtain ⟨b926, q927, v928, hix929, hs930, hc931, hr932⟩ := rdN_at ho910.1.rdL hz925 ha933
       refine QV (.pointer (some ⟨b926, q927, none⟩)) rfl rfl (fun w' hm' => x_ix U22 Try_T25 rfl rfl hix929) <| QV v928 rfl rfl (fun w' hm' => x_load1 U25 rfl rfl ((hL.call hm').cellF 4 rfl hs930 hc931)) ?_
       obtain ⟨x934, ha935, hm⟩ := bndE hm
       obtain ⟨hz936, ha940⟩ := idxE ha935
       obtain ⟨b937, q938, hix939⟩ := rdL_ix (hL.rdF 4 rfl hr932) hz936 ha940
       refine QV (.pointer (some ⟨b937, q938, none⟩)) rfl rfl (fun w' hm' => x_ix U25 Try_T2 rfl rfl hix939) <| QV (.int .i64 x934) rfl rfl (fun w' hm' => x_load1 U2 rfl rfl (rdF_cells ((hL.call hm').rdF 4 rfl hr932) hix939 ha940 0 _ rfl)) ?_
       obtain ⟨x941, ha942, hm⟩ := bndE hm
       obtain ⟨hz943, ha947⟩ := idxE ha942
       obtain ⟨b944, q945, hix946⟩ := rdL_ix (hL.rdO 0 rfl) hz943 ha947
       refine QV (.pointer (some ⟨b944, q945, none⟩)) rfl rfl (fun w' hm' => x_ix U25 Try_T2 rfl rfl hix946) <| QV (.int .i64 x941) rfl rfl (fun w' hm' => x_load1 U2 rfl rfl (rdF_cells ((hL.call hm').rdO 0 rfl) hix946 ha947 0 _ rfl)) <| QV v270 rfl rfl (fun w' hm' => x_mv f906) <| QV v57 rfl rfl (fun w' hm' => x_mv f905) <| QV (.int .i64 s_l2) rfl rfl (fun w' hm' => x_mv f907) ?_
       obtain ⟨x948, ha949, hm⟩ := bndE hm
       obtain ⟨hz950, ha958⟩ := idxE ha949
       obtain ⟨b951, q952, v953, hix954, hs955, hc956, hr957⟩ := rdN_at ho910.1.rdL hz950 ha958
       refine QV (.pointer (some ⟨b951, q952, none⟩)) rfl rfl (fun w' hm' => x_ix U22 Try_T25 rfl rfl hix954) <| QV v953 rfl rfl (fun w' hm' => x_load1 U25 rfl rfl ((hL.call hm').cellF 4 rfl hs955 hc956)) <| QV (.int .i64 s_l3) rfl rfl (fun w' hm' => x_mv f908) ?_
       obtain ⟨x959, ha960, hm⟩ := bndE hm
       obtain ⟨hz961, ha965⟩ := idxE ha960
       obtain ⟨b962, q963, hix964⟩ := rdL_ix (hL.rdF 4 rfl hr957) hz961 ha965
       refine QV (.pointer (some ⟨b962, q963, none⟩)) rfl rfl (fun w' hm' => x_ix U25 Try_T2 rfl rfl hix964) <| QV (.int .i64 x959) rfl rfl (fun w' hm' => x_load1 U2 rfl rfl (rdF_cells ((hL.call hm').rdF 4 rfl hr957) hix964 ha965 0 _ rfl)) ?_
       obtain ⟨x966, ha967, hm⟩ := bndE hm
       obtain ⟨hz968, ha972⟩ := idxE ha967
       obtain ⟨b969, q970, hix971⟩ := rdL_ix (hL.rdO 0 rfl) hz968 ha972
       refine QV (.pointer (some ⟨b969, q970, none⟩)) rfl rfl (fun w' hm' => x_ix U25 Try_T2 rfl rfl hix971) <| QV (.int .i64 x966) rfl rfl (fun w' hm' => x_load1 U2 rfl rfl (rdF_cells ((hL.call hm').rdO 0 rfl) hix971 ha972 0 _ rfl)) <| QV (.bool (x941 != x966)) rfl rfl (fun w' hm' => x_neq rfl rfl) ?_
       refine QW.nil ?_
       intro wd973 hmod
       have hL := hL.call hmod
       refine DW.done (by kernel_rfl) ?_
       refine CW.condM (t := x941 != x966) rfl hm (fun hb974 hm => ?_) (fun hb974 hm => ?_)
       · refine CSR <| OV (.bool false) rfl (x_assign) <| OW.nil <| CW.ret ?_
         have hL := hL.thaw 4 rfl ho910
         obtain rfl := Option.some.inj hm
         have hm := hr890 _ rfl
         obtain rfl := Option.some.inj hm
         have hm := hr722 _ rfl
         obtain rfl := Option.some.inj hm
         exact RR1 rfl rfl ⟨rfl, hL.fresh 9 rfl [] (by decide) (by decide) rfl⟩
       refine CW.skip <| CW.regionL <| OV (.int .i64 s_l3) rfl (x_mv f908) <| OV (.int .i64 (w64 (s_l3 + 1))) rfl (x_add rfl rfl) <| OV (.int .i64 (w64 (s_l3 + 1))) rfl (x_assign) <| OW.nil ?_
       have hL := hL.thaw 4 rfl ho910
       obtain rfl := Option.some.inj hm
       exact ⟨_, rfl, ⟨f903, f904, f905, f906, f907, rfl, hL⟩⟩
     refine CW.exit ?_
     refine XJ.hit ?_
     have hL := hL.thaw 4 rfl ho910
     obtain rfl := Option.some.inj hm
     exact ⟨_, rfl, ⟨f903, f904, f905, f906, f907, f908, hL⟩⟩
   refine CW.exit ?_
   refine XJ.hit ?_
   obtain rfl := Option.some.inj hm
   exact ⟨_, rfl, ⟨f751, f752, f753, f754, f755, hL⟩⟩
 intro s_l1 F976 wd977 t250 hJ hm hr251
 unfold M.laws_FnTied_l1 at hm
 obtain ⟨f978, f979, f980, f981, f982, f983, f984, f985, f986, f987, hL⟩ := hJ
 refine CW.seq ?_
 refine CW.seqJ (fun (s_j5 : Bool) (F : Fr) (w : World) => F 3 = (.pointer (some ⟨b27, 0, none⟩)) ∧ F 4 = v43 ∧ F 6 = (.int .i64 x29.2) ∧ F 7 = v57 ∧ F 9 = (.pointer (some ⟨b94, 0, none⟩)) ∧ F 11 = (.int .i64 x101.2.2.1) ∧ F 12 = (.int .i64 x101.2.2.2) ∧ F 13 = (.int .i64 x96.1) ∧ F 14 = (.int .i64 x96.2) ∧ F 17 = (.int .i64 s_l1) ∧ F 106 = (.bool s_j5) ∧ Hp w0 [Ent.frzS wz112 S103, Ent.frzS wz114 S105, Ent.blk b94 29 #[(.int .i64 x101.1.Boats), v104, v106], Ent.own 25 S56 v57 x54.1, Ent.frzS wz47 S38, Ent.frzS wz49 S40, Ent.frzS wz51 S42, Ent.blk b27 29 #[(.int .i64 x36.1.Boats), v39, v41], Ent.snap w0 w0.heap.size] w) (fun s_j5 => M.laws_FnTied_j5 x96 x101 s_l1 s_j5 = some t250) ?_ ?_
 · refine CW.regionL <| OV (.int .i64 x96.2) rfl (x_mv f986) <| OV (.bool (x96.2 == 0)) rfl (x_eql rfl rfl) <| OV (.bool (x96.2 == 0)) rfl (x_move) ?_
   refine ifB_elim hm (fun hb1043 hm => ?_) (fun hb1043 hm => ?_)
   · refine OW.cons (OP.yes' rfl rfl hb1043 (OP.val (v := (.int .i64 s_l1)) rfl (x_mv f987) ?_))
     refine OW.cons (OP.yes' rfl rfl hb1043 (OP.val (v := (.pointer (some ⟨b94, 1, none⟩))) rfl (x_fieldAddr (fsz := 1) 0 1 1 U29 rfl Try_T22 rfl f982 rfl) ?_))
     refine OW.cons (OP.yes' rfl rfl hb1043 (OP.val (v := v104) rfl (x_load1 U22 rfl rfl (hL.cellB 2 rfl rfl)) ?_))
     refine OW.cons (OP.yes' rfl rfl hb1043 (OP.val (v := (.int .i64 (x101.1.Points.length : Int))) rfl (x_lenR U22 rfl (hL.rdF 0 rfl ho113.1.rdL)) ?_))
     refine OW.cons (OP.yes' rfl rfl hb1043 (OP.val (v := (.bool (decide (s_l1 < (x101.1.Points.length : Int))))) rfl (x_lss rfl rfl) ?_))
     refine OV (.bool (decide (s_l1 < (x101.1.Points.length : Int)))) rfl (x_pickT' rfl hb1043 rfl) <| OW.nil ?_
     exact ⟨decide (s_l1 < (x101.1.Points.length : Int)), hm, ⟨f978, f979, f980, f981, f982, f983, f984, f985, f986, f987, rfl, hL⟩⟩
   refine OW.cons (OP.no' rfl rfl hb1043 rfl ?_)
   refine OW.cons (OP.no' rfl rfl hb1043 rfl ?_)
   refine OW.cons (OP.no' rfl rfl hb1043 rfl ?_)
   refine OW.cons (OP.no' rfl rfl hb1043 rfl ?_)
   refine OW.cons (OP.no' rfl rfl hb1043 rfl ?_)
   refine OV (.bool false) rfl (x_pickF' rfl hb1043 rfl) <| OW.nil ?_
   exact ⟨false, hm, ⟨f978, f979, f980, f981, f982, f983, f984, f985, f986, f987, rfl, hL⟩⟩
 intro s_j5 F989 wd990 hJ hm
 unfold M.laws_FnTied_j5 at hm
 obtain ⟨f991, f992, f993, f994, f995, f996, f997, f998, f999, f1000, f1001, hL⟩ := hJ
 refine CW.condM (t := s_j5) f1001 hm (fun hb1002 hm => ?_) (fun hb1002 hm => ?_)
 · refine CW.skip <| CW.seq <| CW.block <| CW.seq ?_
   obtain ⟨wz1003, hL, ho1004⟩ := hL.freeze 3 rfl
   simp only [lC, lD] at hL
   refine CW.draw Try_mixed ?_
   have hL := hL.call (Mod.drew _)
   refine DW.pre (fuel := 0) (fin := bma 21 2097151) (C := fun w' => Mod None_ _ w') [0, 1, 2, 3, 4, 5, 6, 7, 8, 9, 10, 11, 12, 13, 14, 15, 16, 17, 18, 19, 20] (Mod.refl _ _) (by kernel_rfl) (by kernel_rfl) ?_
   refine QV (.pointer (some ⟨b94, 1, none⟩)) rfl rfl (fun w' hm' => x_fieldAddr (fsz := 1) 0 1 1 U29 rfl Try_T22 rfl f995 rfl) <| QV v104 rfl rfl (fun w' hm' => x_load1 U22 rfl rfl ((hL.call hm').cellB 2 rfl rfl)) <| QV (.int .i64 s_l1) rfl rfl (fun w' hm' => x_mv f1000) ?_
   obtain ⟨x1005, ha1006, hm⟩ := bndE hm
   obtain ⟨hz1007, ha1015⟩ := idxE ha1006
   obtain ⟨b1008, q1009, v1010, hix1011, hs1012, hc1013, hr1014⟩ := rdN_at ho113.1.rdL hz1007 ha1015
   refine QV (.pointer (some ⟨b1008, q1009, none⟩)) rfl rfl (fun w' hm' => x_ix U22 Try_T25 rfl rfl hix1011) <| QV v1010 rfl rfl (fun w' hm' => x_load1 U25 rfl rfl ((hL.call hm').cellF 0 rfl hs1012 hc1013)) <| QV (.int .i64 x101.2.2.1) rfl rfl (fun w' hm' => x_mv f996) ?_
   obtain ⟨x1016, ha1017, hm⟩ := bndE hm
   obtain ⟨hz1018, ha1022⟩ := idxE ha1017
   obtain ⟨b1019, q1020, hix1021⟩ := rdL_ix (hL.rdF 0 rfl hr1014) hz1018 ha1022
   refine QV (.pointer (some ⟨b1019, q1020, none⟩)) rfl rfl (fun w' hm' => x_ix U25 Try_T2 rfl rfl hix1021) <| QV (.int .i64 x1016) rfl rfl (fun w' hm' => x_load1 U2 rfl rfl (rdF_cells ((hL.call hm').rdF 0 rfl hr1014) hix1021 ha1022 0 _ rfl)) <| QV (.pointer (some ⟨b94, 1, none⟩)) rfl rfl (fun w' hm' => x_fieldAddr (fsz := 1) 0 1 1 U29 rfl Try_T22 rfl f995 rfl) <| QV v104 rfl rfl (fun w' hm' => x_load1 U22 rfl rfl ((hL.call hm').cellB 2 rfl rfl)) <| QV (.int .i64 s_l1) rfl rfl (fun w' hm' => x_mv f1000) ?_
   obtain ⟨x1023, ha1024, hm⟩ := bndE hm
   obtain ⟨hz1025, ha1033⟩ := idxE ha1024
   obtain ⟨b1026, q1027, v1028, hix1029, hs1030, hc1031, hr1032⟩ := rdN_at ho113.1.rdL hz1025 ha1033
   refine QV (.pointer (some ⟨b1026, q1027, none⟩)) rfl rfl (fun w' hm' => x_ix U22 Try_T25 rfl rfl hix1029) <| QV v1028 rfl rfl (fun w' hm' => x_load1 U25 rfl rfl ((hL.call hm').cellF 0 rfl hs1030 hc1031)) <| QV (.int .i64 x101.2.2.2) rfl rfl (fun w' hm' => x_mv f997) ?_
   obtain ⟨x1034, ha1035, hm⟩ := bndE hm
   obtain ⟨hz1036, ha1040⟩ := idxE ha1035
   obtain ⟨b1037, q1038, hix1039⟩ := rdL_ix (hL.rdF 0 rfl hr1032) hz1036 ha1040
   refine QV (.pointer (some ⟨b1037, q1038, none⟩)) rfl rfl (fun w' hm' => x_ix U25 Try_T2 rfl rfl hix1039) <| QV (.int .i64 x1034) rfl rfl (fun w' hm' => x_load1 U2 rfl rfl (rdF_cells ((hL.call hm').rdF 0 rfl hr1032) hix1039 ha1040 0 _ rfl)) <| QV (.bool (x1016 == x1034)) rfl rfl (fun w' hm' => x_eql rfl rfl) <| QV (.int .i64 s_l1) rfl rfl (fun w' hm' => x_mv f1000) <| QV (.int .i64 x96.1) rfl rfl (fun w' hm' => x_mv f998) <| QV (.bool (decide (x96.1 < s_l1))) rfl rfl (fun w' hm' => x_gtr rfl rfl) <| QV (.bool ((x1016 == x1034) != (decide (x96.1 < s_l1)))) rfl rfl (fun w' hm' => x_neqB U4 rfl rfl) ?_
   refine QW.nil ?_
   intro wd1041 hmod
   have hL := hL.call hmod
   refine DW.done (by kernel_rfl) ?_
   refine CW.condM (t := (x1016 == x1034) != (decide (x96.1 < s_l1))) rfl hm (fun hb1042 hm => ?_) (fun hb1042 hm => ?_)
   · refine CSR <| OV (.bool false) rfl (x_assign) <| OW.nil <| CW.ret ?_
     have hL := hL.thaw 3 rfl ho1004
     obtain rfl := Option.some.inj hm
     have hm := hr251 _ rfl
     obtain rfl := Option.some.inj hm
     exact RR1 rfl rfl ⟨rfl, hL.fresh 8 rfl [] (by decide) (by decide) rfl⟩
   refine CW.skip <| CW.regionL <| OV (.int .i64 s_l1) rfl (x_mv f1000) <| OV (.int .i64 (w64 (s_l1 + 1))) rfl (x_add rfl rfl) <| OV (.int .i64 (w64 (s_l1 + 1))) rfl (x_assign) <| OW.nil ?_
   have hL := hL.thaw 3 rfl ho1004
   obtain rfl := Option.some.inj hm
   exact ⟨_, rfl, ⟨f991, f992, f993, f994, f995, f996, f997, f998, f999, rfl, hL⟩⟩
 refine CW.exit ?_
 refine XJ.hit ?_
 obtain rfl := Option.some.inj hm
 exact ⟨_, rfl, ⟨f991, f992, f993, f994, f995, f996, f997, f998, f999, f1000, hL⟩⟩

end Go.Proofs.Ytpobaajdhfoomaa
