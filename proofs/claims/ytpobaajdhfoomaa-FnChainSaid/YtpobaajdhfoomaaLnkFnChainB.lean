/- Links: each Go function returns what its model computes and leaves what was there. Printed by my generator. -/
import Derived.Test.YtpobaajdhfoomaaLnkFnChainA
namespace Go.Proofs.Ytpobaajdhfoomaa
set_option maxRecDepth 10000
open Go Go.RowKit Go.ChangeShapes Go.WideShapes
set_option linter.unusedVariables false
set_option linter.unusedSimpArgs false

theorem M.impl_discardsOf_ok (w0 : World) (a0 : Table) {v1 : Value} {v3 : Value} (h2 : rdL (· < w0.heap.size) w0 v1 a0.Points) (h4 : rdL (· < w0.heap.size) w0 v3 a0.Codes) (a1 : List Int) {v5 : Value} (h6 : rdL (· < w0.heap.size) w0 v5 a1) (a2 : Int) {r : (List Int)} (hm : M.impl_discardsOf a0 a1 a2 = some r) :
    Calls Try.prog 78 #[(.agg #[(.int .i64 a0.Boats), v1, v3]), v5, (.int .i64 a2)] w0 fun e w' => ∃ (rv0 : Value) (rS0 : Nat → Prop), e = .returned rv0 ∧ Fresh w0 w' [Ent.own 2 rS0 rv0 r] := by
 unfold M.impl_discardsOf at hm
 refine calls_CW (args := [(.agg #[(.int .i64 a0.Boats), v1, v3]), v5, (.int .i64 a2)]) Try.func78 rfl rfl rfl ?_
 have hL := Hp.start w0
 refine CSR ?_
 refine OW.cons (S_box (cs := #[(.int .i64 a0.Boats), v1, v3]) hL rfl rfl rfl ?_)
 intro wd7 b8 hL
 refine OW.cons (S_box (cs := #[(.int .i64 a2)]) hL rfl rfl rfl ?_)
 intro wd9 b10 hL
 refine OV (.slice none 0 0) rfl (x_assign) ?_
 refine ONR ?_
 refine OW.cons (S_lit ([] : List Int) hL U25 Try_T2 rfl (by decide) (by first | (simp [Instr.fill, madeCells, Value.cells, ev, upd, Flat.enc, Flat.sz]; done) | rfl | kernel_rfl) rfl rfl ?_)
 intro wd11 v12 S13 hL
 refine OV v5 rfl (x_move) ?_
 refine OV (.pointer (some ⟨b8, 1, none⟩)) rfl (x_fieldAddr (fsz := 1) 0 1 1 U29 rfl Try_T22 rfl rfl rfl) ?_
 refine OV v1 rfl (x_load1 U22 rfl rfl (hL.cellB 2 rfl rfl)) ?_
 refine OV (.int .i64 (a0.Points.length : Int)) rfl (x_lenR U22 rfl (hL.rdS 3 rfl h2)) ?_
 obtain ⟨x14, hx15, hm⟩ := bndE hm
 refine OW.cons (OP.call rfl (x_call (vs := [v5, (.int .i64 (a0.Points.length : Int))]) Try_C82 ⟨rfl, rfl, trivial⟩) (M.impl_discardCount_ok _ a1 (hL.rdS 3 rfl h6) (a0.Points.length : Int) hx15) ?_)
 rintro e16 wd17 ⟨rfl, hF18⟩
 refine ⟨_, rfl, ?_⟩
 have hL := hL.pushAll hF18
 simp only [lA, lB, lC, lD] at hL
 refine OV v12 rfl (x_assign) ?_
 refine OV (.int .i64 x14) rfl (x_assign) ?_
 refine ONS ?_
 refine CSR ?_
 refine OV (.pointer (some ⟨b8, 1, none⟩)) rfl (x_fieldAddr (fsz := 1) 0 1 1 U29 rfl Try_T22 rfl rfl rfl) ?_
 refine OV v1 rfl (x_load1 U22 rfl rfl (hL.cellB 2 rfl rfl)) ?_
 refine OV (.int .i64 (a0.Points.length : Int)) rfl (x_lenR U22 rfl (hL.rdS 3 rfl h2)) ?_
 refine OV (.func (.func 106) #[] #[(.pointer (some ⟨b8, 0, none⟩)), (.pointer (some ⟨b10, 0, none⟩))]) rfl (x_makeFunc (vs := [(.pointer (some ⟨b8, 0, none⟩)), (.pointer (some ⟨b10, 0, none⟩))]) ⟨rfl, rfl, trivial⟩) ?_
 obtain ⟨x19, hx20, hm⟩ := bndE hm
 refine OW.cons (OP.call rfl (x_call (vs := [(.int .i64 (a0.Points.length : Int)), (.func (.func 106) #[] #[(.pointer (some ⟨b8, 0, none⟩)), (.pointer (some ⟨b10, 0, none⟩))])]) Try_C73 ⟨rfl, rfl, trivial⟩) (M.impl_sortedIndices_ok _ (a0.Points.length : Int) (fun y0 y1 => M.impl_discardsOf_1 y0 y1 a0 a2) ⟨Try_C106, fun yw hag yvs yv hR => by obtain ⟨y0, y1, yr, rfl, hyf, rfl⟩ := hR; exact M.impl_discardsOf_1_ok yw y0 y1 a0 (hag.rdL (hL.rdS 3 rfl h2)) (hag.rdL (hL.rdS 3 rfl h4)) (hag.bx (hL.bxB 2 rfl)) a2 (hag.bx (hL.bxB 1 rfl)) hyf⟩ hx20) ?_)
 rintro e23 wd24 ⟨v22, S21, rfl, hF25⟩
 refine ⟨_, rfl, ?_⟩
 have hL := hL.pushAll hF25
 simp only [lA, lB, lC, lD] at hL
 refine OV (.int .i64 (x19.length : Int)) rfl (x_lenR U25 rfl (hL.rdO 0 rfl)) ?_
 refine OV (.int .i64 0) rfl (x_move) ?_
 refine OW.nil ?_
 obtain ⟨o644, ho645, hm⟩ := bndE hm
 have hL := hL.sel [1, 0, 2, 3, 4] (by decide) rfl
 refine CW.loopB (fun (s_l1 : (List Int) × Int × Int) (F : Fr) (w : World) => ∃ (v640 : Value) (S641 : Nat → Prop), F 3 = (.pointer (some ⟨b8, 0, none⟩)) ∧ F 5 = (.pointer (some ⟨b10, 0, none⟩)) ∧ F 7 = v640 ∧ F 8 = (.int .i64 s_l1.2.1) ∧ F 21 = v22 ∧ F 22 = (.int .i64 (x19.length : Int)) ∧ F 23 = (.int .i64 s_l1.2.2) ∧ Hp w0 [Ent.own 2 S641 v640 s_l1.1, Ent.own 2 S21 v22 x19, Ent.blk b10 2 #[(.int .i64 a2)], Ent.blk b8 29 #[(.int .i64 a0.Boats), v1, v3], Ent.snap w0 w0.heap.size] w) (fun o => outc o (fun x => some x) (fun s => M.impl_discardsOf_a1 s) = some r) ho645 hm ⟨v12, S13, rfl, rfl, rfl, rfl, rfl, rfl, rfl, hL⟩ ?_ ?_
 · intro s_l1 F646 wd647 hJ hm
   have hm := outcE hm
   have hm : M.impl_discardsOf_a1 s_l1 = some r := hm
   unfold M.impl_discardsOf_a1 at hm
   obtain ⟨v640, S641, f648, f649, f650, f651, f652, f653, f654, hL⟩ := hJ
   refine CSR ?_
   refine OV v640 rfl (x_mv f650) ?_
   obtain ⟨x655, hx656, hm⟩ := bndE hm
   refine OW.cons (OP.call rfl (x_call (vs := [v640]) Try_C107 ⟨rfl, trivial⟩) (M.slices_Sort___int64_int64__ok _ s_l1.1 (hL.get 0 rfl) hx656) ?_)
   rintro e657 wd658 ⟨S660, rfl, hF659⟩
   refine ⟨_, rfl, ?_⟩
   have hL := hL.mut 0 rfl hF659
   simp only [lA, lB, lC, lD] at hL
   refine ONR ?_
   refine OV v640 rfl (x_mv f650) ?_
   refine OV v640 rfl (x_assign) ?_
   refine OW.nil ?_
   refine CW.ret ?_
   obtain rfl := Option.some.inj hm
   exact RR1 rfl rfl ⟨v640, S660, rfl, hL.fresh 4 rfl [0] (by decide) (by decide) rfl⟩
 intro s_l1 F661 wd662 t642 hJ hm hr643
 unfold M.impl_discardsOf_l1 at hm
 obtain ⟨v640, S641, f663, f664, f665, f666, f667, f668, f669, hL⟩ := hJ
 refine CSR ?_
 refine OV (.bool (decide (s_l1.2.2 < (x19.length : Int)))) rfl (x_lss f669 f668) ?_
 refine ONS ?_
 refine CW.condM (t := decide (s_l1.2.2 < (x19.length : Int))) rfl hm (fun hb670 hm => ?_) (fun hb670 hm => ?_)
 · refine CW.skip ?_
   refine CW.seqJ (fun (s_j1 : (List Int) × Int) (F : Fr) (w : World) => ∃ (v818 : Value) (S819 : Nat → Prop), F 3 = (.pointer (some ⟨b8, 0, none⟩)) ∧ F 5 = (.pointer (some ⟨b10, 0, none⟩)) ∧ F 7 = v818 ∧ F 8 = (.int .i64 s_j1.2) ∧ F 21 = v22 ∧ F 22 = (.int .i64 (x19.length : Int)) ∧ F 23 = (.int .i64 s_l1.2.2) ∧ Hp w0 [Ent.own 2 S819 v818 s_j1.1, Ent.own 2 S21 v22 x19, Ent.blk b10 2 #[(.int .i64 a2)], Ent.blk b8 29 #[(.int .i64 a0.Boats), v1, v3], Ent.snap w0 w0.heap.size] w) (fun s_j1 => M.impl_discardsOf_j1 s_l1 s_j1 = some t642) ?_ ?_
   · refine CW.blockJ (fun (s_j2 : (List Int) × Int) (F : Fr) (w : World) => ∃ (v897 : Value) (S898 : Nat → Prop), F 3 = (.pointer (some ⟨b8, 0, none⟩)) ∧ F 5 = (.pointer (some ⟨b10, 0, none⟩)) ∧ F 7 = v897 ∧ F 8 = (.int .i64 s_j2.2) ∧ F 21 = v22 ∧ F 22 = (.int .i64 (x19.length : Int)) ∧ F 23 = (.int .i64 s_l1.2.2) ∧ Hp w0 [Ent.own 2 S898 v897 s_j2.1, Ent.own 2 S21 v22 x19, Ent.blk b10 2 #[(.int .i64 a2)], Ent.blk b8 29 #[(.int .i64 a0.Boats), v1, v3], Ent.snap w0 w0.heap.size] w) (fun s_j2 => M.impl_discardsOf_j2 s_l1 s_j2 = some t642) ?_ ?_
     · refine CSR ?_
       obtain ⟨x908, ha909, hm⟩ := bndE hm
       obtain ⟨hz910, ha914⟩ := idxE ha909
       obtain ⟨b911, q912, hix913⟩ := rdL_ix (hL.rdO 1 rfl) hz910 ha914
       refine OV (.pointer (some ⟨b911, q912, none⟩)) rfl (x_ix U25 Try_T2 f667 f669 hix913) ?_
       refine OV (.int .i64 x908) rfl (x_load1 U2 rfl rfl (rdF_cells (hL.rdO 1 rfl) hix913 ha914 0 _ rfl)) ?_
       refine OV (.int .i64 x908) rfl (x_assign) ?_
       refine OW.nil ?_
       refine CW.seqJ (fun (s_j3 : Bool) (F : Fr) (w : World) => F 3 = (.pointer (some ⟨b8, 0, none⟩)) ∧ F 5 = (.pointer (some ⟨b10, 0, none⟩)) ∧ F 7 = v640 ∧ F 8 = (.int .i64 s_l1.2.1) ∧ F 10 = (.int .i64 x908) ∧ F 21 = v22 ∧ F 22 = (.int .i64 (x19.length : Int)) ∧ F 23 = (.int .i64 s_l1.2.2) ∧ F 39 = (.bool s_j3) ∧ Hp w0 [Ent.own 2 S641 v640 s_l1.1, Ent.own 2 S21 v22 x19, Ent.blk b10 2 #[(.int .i64 a2)], Ent.blk b8 29 #[(.int .i64 a0.Boats), v1, v3], Ent.snap w0 w0.heap.size] w) (fun s_j3 => M.impl_discardsOf_j3 s_l1 x908 s_j3 = some t642) ?_ ?_
       · refine CW.draw Try_mixed ?_
         have hL := hL.call (Mod.drew _)
         refine DW.pre (fuel := 0) (fin := bma 13 8191) (C := fun w' => Mod None_ _ w') [0, 1, 2, 3, 4, 5, 6, 7, 8, 9, 10, 11, 12] (Mod.refl _ _) (by kernel_rfl) (by kernel_rfl) ?_
         refine QW.cons rfl (QP.val (v := (.int .i64 s_l1.2.1)) rfl (fun w' hm' => x_mv f666) ?_)
         refine QW.cons rfl (QP.val (v := (.bool (decide (0 < s_l1.2.1)))) rfl (fun w' hm' => x_gtr rfl rfl) ?_)
         refine QW.cons rfl (QP.val (v := (.bool (decide (0 < s_l1.2.1)))) rfl (fun w' hm' => x_move) ?_)
         refine ifB_elim hm (fun hb955 hm => ?_) (fun hb955 hm => ?_)
         · refine QW.cons rfl (QP.yes' rfl rfl hb955 (QP.val (v := (.pointer (some ⟨b8, 2, none⟩))) rfl (fun w' hm' => x_fieldAddr (fsz := 1) 0 2 2 U29 rfl Try_T22 rfl f663 rfl) ?_))
           refine QW.cons rfl (QP.yes' rfl rfl hb955 (QP.val (v := v3) rfl (fun w' hm' => x_load1 U22 rfl rfl ((hL.call hm').cellB 3 rfl rfl)) ?_))
           refine QW.cons rfl (QP.yes' rfl rfl hb955 (QP.val (v := (.int .i64 x908)) rfl (fun w' hm' => x_move) ?_))
           obtain ⟨x956, ha957, hm⟩ := bndE hm
           obtain ⟨hz958, ha966⟩ := idxE ha957
           obtain ⟨b959, q960, v961, hix962, hs963, hc964, hr965⟩ := rdN_at h4 hz958 ha966
           refine QW.cons rfl (QP.yes' rfl rfl hb955 (QP.val (v := (.pointer (some ⟨b959, q960, none⟩))) rfl (fun w' hm' => x_ix U22 Try_T25 rfl rfl hix962) ?_))
           refine QW.cons rfl (QP.yes' rfl rfl hb955 (QP.val (v := v961) rfl (fun w' hm' => x_load1 U25 rfl rfl ((hL.call hm').cellS 4 rfl hs963 hc964)) ?_))
           refine QW.cons rfl (QP.yes' rfl rfl hb955 (QP.val (v := (.int .i64 a2)) rfl (fun w' hm' => x_load1 U2 rfl f664 ((hL.call hm').cellB 2 rfl rfl)) ?_))
           obtain ⟨x967, ha968, hm⟩ := bndE hm
           obtain ⟨hz969, ha973⟩ := idxE ha968
           obtain ⟨b970, q971, hix972⟩ := rdL_ix (hL.rdS 4 rfl hr965) hz969 ha973
           refine QW.cons rfl (QP.yes' rfl rfl hb955 (QP.val (v := (.pointer (some ⟨b970, q971, none⟩))) rfl (fun w' hm' => x_ix U25 Try_T2 rfl rfl hix972) ?_))
           refine QW.cons rfl (QP.yes' rfl rfl hb955 (QP.val (v := (.int .i64 x967)) rfl (fun w' hm' => x_load1 U2 rfl rfl (rdF_cells ((hL.call hm').rdS 4 rfl hr965) hix972 ha973 0 _ rfl)) ?_))
           refine QW.cons rfl (QP.yes' rfl rfl hb955 (QP.val (v := (.bool (x967 != 7))) rfl (fun w' hm' => x_neq rfl rfl) ?_))
           refine QW.cons rfl (QP.val (v := (.bool (x967 != 7))) rfl (fun w' hm' => x_pickT' rfl hb955 rfl) ?_)
           refine QW.nil ?_
           intro wd974 hmod
           have hL := hL.call hmod
           refine DW.done (by kernel_rfl) ?_
           exact ⟨x967 != 7, hm, ⟨f663, f664, f665, f666, rfl, f667, f668, f669, rfl, hL⟩⟩
         refine QW.cons rfl (QP.no' rfl rfl hb955 rfl ?_)
         refine QW.cons rfl (QP.no' rfl rfl hb955 rfl ?_)
         refine QW.cons rfl (QP.no' rfl rfl hb955 rfl ?_)
         refine QW.cons rfl (QP.no' rfl rfl hb955 rfl ?_)
         refine QW.cons rfl (QP.no' rfl rfl hb955 rfl ?_)
         refine QW.cons rfl (QP.no' rfl rfl hb955 rfl ?_)
         refine QW.cons rfl (QP.no' rfl rfl hb955 rfl ?_)
         refine QW.cons rfl (QP.no' rfl rfl hb955 rfl ?_)
         refine QW.cons rfl (QP.no' rfl rfl hb955 rfl ?_)
         refine QW.cons rfl (QP.val (v := (.bool false)) rfl (fun w' hm' => x_pickF' rfl hb955 rfl) ?_)
         refine QW.nil ?_
         intro wd975 hmod
         have hL := hL.call hmod
         refine DW.done (by kernel_rfl) ?_
         exact ⟨false, hm, ⟨f663, f664, f665, f666, rfl, f667, f668, f669, rfl, hL⟩⟩
       intro s_j3 F936 wd937 hJ hm
       unfold M.impl_discardsOf_j3 at hm
       obtain ⟨f938, f939, f940, f941, f942, f943, f944, f945, f946, hL⟩ := hJ
       refine CW.condM (t := s_j3) f946 hm (fun hb947 hm => ?_) (fun hb947 hm => ?_)
       · refine CSR ?_
         refine OV v640 rfl (x_mv f940) ?_
         refine OV (.int .i64 x908) rfl (x_mv f942) ?_
         refine OW.cons (S_lit ([x908] : List Int) hL U25 Try_T2 rfl (by decide) (by first | (simp [Instr.fill, madeCells, Value.cells, ev, upd, Flat.enc, Flat.sz]; done) | rfl | kernel_rfl) rfl rfl ?_)
         intro wd948 v949 S950 hL
         obtain ⟨hc954, hm⟩ := chkE hm
         refine OW.cons (S_append (ys := ([x908] : List Int)) hL 1 rfl U25 Try_T2 rfl rfl rfl (hL.rdO 0 rfl) hc954 (by decide) rfl ?_)
         intro wd951 v952 S953 hL
         refine OV v952 rfl (x_assign) ?_
         refine OW.nil ?_
         refine CW.regionL ?_
         refine OV (.int .i64 s_l1.2.1) rfl (x_mv f941) ?_
         refine OV (.int .i64 (w64 (s_l1.2.1 - 1))) rfl (x_sub rfl rfl) ?_
         refine OV (.int .i64 (w64 (s_l1.2.1 - 1))) rfl (x_assign) ?_
         refine OW.nil ?_
         have hL := hL.sel [1, 2, 3, 4, 5] (by decide) rfl
         exact ⟨(s_l1.1 ++ ([x908] : List Int), w64 (s_l1.2.1 - 1)), hm, ⟨v952, S953, f938, f939, rfl, rfl, f943, f944, f945, hL⟩⟩
       refine CW.skip ?_
       exact ⟨(s_l1.1, s_l1.2.1), hm, ⟨v640, S641, f938, f939, f940, f941, f943, f944, f945, hL⟩⟩
     intro s_j2 F899 wd900 hJ hm
     unfold M.impl_discardsOf_j2 at hm
     obtain ⟨v897, S898, f901, f902, f903, f904, f905, f906, f907, hL⟩ := hJ
     exact ⟨(s_j2.1, s_j2.2), hm, ⟨v897, S898, f901, f902, f903, f904, f905, f906, f907, hL⟩⟩
   intro s_j1 F820 wd821 hJ hm
   unfold M.impl_discardsOf_j1 at hm
   obtain ⟨v818, S819, f822, f823, f824, f825, f826, f827, f828, hL⟩ := hJ
   refine CW.regionL ?_
   refine OV (.int .i64 (w64 (s_l1.2.2 + 1))) rfl (x_add f828 rfl) ?_
   refine OV (.int .i64 (w64 (s_l1.2.2 + 1))) rfl (x_move) ?_
   refine OW.nil ?_
   obtain rfl := Option.some.inj hm
   exact ⟨_, rfl, ⟨v818, S819, f822, f823, f824, f825, f826, f827, rfl, hL⟩⟩
 refine CW.exit ?_
 refine XJ.hit ?_
 obtain rfl := Option.some.inj hm
 exact ⟨_, rfl, ⟨v640, S641, f663, f664, f665, f666, f667, f668, f669, hL⟩⟩

theorem M.slices_Index___int64_int64__ok (w0 : World) (a0 : List Int) {v1 : Value} (h2 : rdL (· < w0.heap.size) w0 v1 a0) (a1 : Int) {r : Int} (hm : M.slices_Index___int64_int64_ a0 a1 = some r) :
    Calls Try.prog 117 #[v1, (.int .i64 a1)] w0 fun e w' => e = .returned (.int .i64 r) ∧ Fresh w0 w' [] := by
 unfold M.slices_Index___int64_int64_ at hm
 refine calls_CW (args := [v1, (.int .i64 a1)]) Try.func117 rfl rfl rfl ?_
 have hL := Hp.start w0
 refine CSR ?_
 refine OV (.int .i64 0) rfl (x_assign) ?_
 refine ONS ?_
 refine CSR ?_
 refine OV v1 rfl (x_move) ?_
 refine OV (.int .i64 (a0.length : Int)) rfl (x_lenR U25 rfl (hL.rdS 0 rfl h2)) ?_
 refine OV (.int .i64 0) rfl (x_move) ?_
 refine OW.nil ?_
 obtain ⟨o23, ho24, hm⟩ := bndE hm
 refine CW.loopB (fun (s_l1 : Int) (F : Fr) (w : World) => F 0 = v1 ∧ F 1 = (.int .i64 a1) ∧ F 7 = (.int .i64 (a0.length : Int)) ∧ F 8 = (.int .i64 s_l1) ∧ Hp w0 [Ent.snap w0 w0.heap.size] w) (fun o => outc o (fun x => some x) (fun s => M.slices_Index___int64_int64__a1 s) = some r) ho24 hm ⟨rfl, rfl, rfl, rfl, hL⟩ ?_ ?_
 · intro s_l1 F25 wd26 hJ hm
   have hm := outcE hm
   have hm : M.slices_Index___int64_int64__a1 s_l1 = some r := hm
   unfold M.slices_Index___int64_int64__a1 at hm
   obtain ⟨f27, f28, f29, f30, hL⟩ := hJ
   refine CSR ?_
   refine OV (.int .i64 (-1)) rfl (x_assign) ?_
   refine OW.nil ?_
   refine CW.ret ?_
   obtain rfl := Option.some.inj hm
   exact RR1 rfl rfl ⟨rfl, hL.fresh 0 rfl [] (by decide) (by decide) rfl⟩
 intro s_l1 F31 wd32 t21 hJ hm hr22
 unfold M.slices_Index___int64_int64__l1 at hm
 obtain ⟨f33, f34, f35, f36, hL⟩ := hJ
 refine CSR ?_
 refine OV (.bool (decide (s_l1 < (a0.length : Int)))) rfl (x_lss f36 f35) ?_
 refine ONS ?_
 refine CW.condM (t := decide (s_l1 < (a0.length : Int))) rfl hm (fun hb37 hm => ?_) (fun hb37 hm => ?_)
 · refine CW.skip ?_
   refine CW.seq ?_
   refine CW.block ?_
   refine CSR ?_
   refine OV (.int .i64 s_l1) rfl (x_mv f36) ?_
   refine OV (.int .i64 s_l1) rfl (x_assign) ?_
   refine ONR ?_
   refine OV (.int .i64 a1) rfl (x_mv f34) ?_
   refine OV v1 rfl (x_mv f33) ?_
   refine OV (.int .i64 s_l1) rfl (x_move) ?_
   obtain ⟨x38, ha39, hm⟩ := bndE hm
   obtain ⟨hz40, ha44⟩ := idxE ha39
   obtain ⟨b41, q42, hix43⟩ := rdL_ix (hL.rdS 0 rfl h2) hz40 ha44
   refine OV (.pointer (some ⟨b41, q42, none⟩)) rfl (x_ix U25 Try_T2 rfl rfl hix43) ?_
   refine OV (.int .i64 x38) rfl (x_load1 U2 rfl rfl (rdF_cells (hL.rdS 0 rfl h2) hix43 ha44 0 _ rfl)) ?_
   refine OV (.bool (a1 == x38)) rfl (x_eql rfl rfl) ?_
   refine OW.nil ?_
   refine CW.condM (t := a1 == x38) rfl hm (fun hb45 hm => ?_) (fun hb45 hm => ?_)
   · refine CSR ?_
     refine OV (.int .i64 s_l1) rfl (x_move) ?_
     refine OV (.int .i64 s_l1) rfl (x_assign) ?_
     refine OW.nil ?_
     refine CW.ret ?_
     obtain rfl := Option.some.inj hm
     have hm := hr22 _ rfl
     obtain rfl := Option.some.inj hm
     exact RR1 rfl rfl ⟨rfl, hL.fresh 0 rfl [] (by decide) (by decide) rfl⟩
   refine CW.skip ?_
   refine CW.regionL ?_
   refine OV (.int .i64 (w64 (s_l1 + 1))) rfl (x_add f36 rfl) ?_
   refine OV (.int .i64 (w64 (s_l1 + 1))) rfl (x_move) ?_
   refine OW.nil ?_
   obtain rfl := Option.some.inj hm
   exact ⟨_, rfl, ⟨f33, f34, f35, rfl, hL⟩⟩
 refine CW.exit ?_
 refine XJ.hit ?_
 obtain rfl := Option.some.inj hm
 exact ⟨_, rfl, ⟨f33, f34, f35, f36, hL⟩⟩

theorem M.slices_Contains___int64_int64__ok (w0 : World) (a0 : List Int) {v1 : Value} (h2 : rdL (· < w0.heap.size) w0 v1 a0) (a1 : Int) {r : Bool} (hm : M.slices_Contains___int64_int64_ a0 a1 = some r) :
    Calls Try.prog 108 #[v1, (.int .i64 a1)] w0 fun e w' => e = .returned (.bool r) ∧ Fresh w0 w' [] := by
 unfold M.slices_Contains___int64_int64_ at hm
 refine calls_CW (args := [v1, (.int .i64 a1)]) Try.func108 rfl rfl rfl ?_
 have hL := Hp.start w0
 refine CSR ?_
 refine OV (.bool false) rfl (x_assign) ?_
 refine ONR ?_
 refine OV v1 rfl (x_move) ?_
 refine OV (.int .i64 a1) rfl (x_move) ?_
 obtain ⟨x3, hx4, hm⟩ := bndE hm
 refine OW.cons (OP.call rfl (x_call (vs := [v1, (.int .i64 a1)]) Try_C117 ⟨rfl, rfl, trivial⟩) (M.slices_Index___int64_int64__ok _ a0 (hL.rdS 0 rfl h2) a1 hx4) ?_)
 rintro e5 wd6 ⟨rfl, hF7⟩
 refine ⟨_, rfl, ?_⟩
 have hL := hL.pushAll hF7
 simp only [lA, lB, lC, lD] at hL
 refine OV (.bool (decide (0 ≤ x3))) rfl (x_geq rfl rfl) ?_
 refine OV (.bool (decide (0 ≤ x3))) rfl (x_assign) ?_
 refine OW.nil ?_
 refine CW.ret ?_
 obtain rfl := Option.some.inj hm
 exact RR1 rfl rfl ⟨rfl, hL.fresh 0 rfl [] (by decide) (by decide) rfl⟩

theorem M.impl_countedPoints_ok (w0 : World) (a0 : Table) {v1 : Value} {v3 : Value} (h2 : rdL (· < w0.heap.size) w0 v1 a0.Points) (h4 : rdL (· < w0.heap.size) w0 v3 a0.Codes) (a1 : List Int) {v5 : Value} (h6 : rdL (· < w0.heap.size) w0 v5 a1) (a2 : Int) {r : (List Int)} (hm : M.impl_countedPoints a0 a1 a2 = some r) :
    Calls Try.prog 90 #[(.agg #[(.int .i64 a0.Boats), v1, v3]), v5, (.int .i64 a2)] w0 fun e w' => ∃ (rv0 : Value) (rS0 : Nat → Prop), e = .returned rv0 ∧ Fresh w0 w' [Ent.own 2 rS0 rv0 r] := by
 unfold M.impl_countedPoints at hm
 refine calls_CW (args := [(.agg #[(.int .i64 a0.Boats), v1, v3]), v5, (.int .i64 a2)]) Try.func90 rfl rfl rfl ?_
 have hL := Hp.start w0
 refine CSR ?_
 refine OW.cons (S_box (cs := #[(.int .i64 a0.Boats), v1, v3]) hL rfl rfl rfl ?_)
 intro wd7 b8 hL
 refine OV (.slice none 0 0) rfl (x_assign) ?_
 refine ONR ?_
 refine OW.cons (S_lit ([] : List Int) hL U25 Try_T2 rfl (by decide) (by first | (simp [Instr.fill, madeCells, Value.cells, ev, upd, Flat.enc, Flat.sz]; done) | rfl | kernel_rfl) rfl rfl ?_)
 intro wd9 v10 S11 hL
 refine OV (.agg #[(.int .i64 a0.Boats), v1, v3]) rfl (x_loadN (cs := [(.int .i64 a0.Boats), v1, v3]) U29 Try_T29 rfl rfl (hL.cellsB 1 rfl (o := 0) (l := [(.int .i64 a0.Boats), v1, v3]) (by intro j u hj; exact (by simpa using hj)))) ?_
 refine OV v5 rfl (x_move) ?_
 refine OV (.int .i64 a2) rfl (x_move) ?_
 obtain ⟨x12, hx13, hm⟩ := bndE hm
 refine OW.cons (OP.call rfl (x_call (vs := [(.agg #[(.int .i64 a0.Boats), v1, v3]), v5, (.int .i64 a2)]) Try_C78 ⟨rfl, rfl, rfl, trivial⟩) (M.impl_discardsOf_ok _ a0 (hL.rdS 2 rfl h2) (hL.rdS 2 rfl h4) a1 (hL.rdS 2 rfl h6) a2 hx13) ?_)
 rintro e16 wd17 ⟨v15, S14, rfl, hF18⟩
 refine ⟨_, rfl, ?_⟩
 have hL := hL.pushAll hF18
 simp only [lA, lB, lC, lD] at hL
 refine OV v10 rfl (x_assign) ?_
 refine OV v15 rfl (x_assign) ?_
 refine ONS ?_
 refine CSR ?_
 refine OV (.pointer (some ⟨b8, 1, none⟩)) rfl (x_fieldAddr (fsz := 1) 0 1 1 U29 rfl Try_T22 rfl rfl rfl) ?_
 refine OV v1 rfl (x_load1 U22 rfl rfl (hL.cellB 2 rfl rfl)) ?_
 refine OV (.int .i64 (a0.Points.length : Int)) rfl (x_lenR U22 rfl (hL.rdS 3 rfl h2)) ?_
 refine OV (.int .i64 0) rfl (x_move) ?_
 refine OW.nil ?_
 obtain ⟨o335, ho336, hm⟩ := bndE hm
 have hL := hL.sel [1, 0, 2, 3] (by decide) rfl
 refine CW.loopB (fun (s_l1 : (List Int) × Int) (F : Fr) (w : World) => ∃ (v331 : Value) (S332 : Nat → Prop), F 2 = (.int .i64 a2) ∧ F 3 = (.pointer (some ⟨b8, 0, none⟩)) ∧ F 7 = v331 ∧ F 8 = v15 ∧ F 17 = (.int .i64 (a0.Points.length : Int)) ∧ F 18 = (.int .i64 s_l1.2) ∧ Hp w0 [Ent.own 2 S332 v331 s_l1.1, Ent.own 2 S14 v15 x12, Ent.blk b8 29 #[(.int .i64 a0.Boats), v1, v3], Ent.snap w0 w0.heap.size] w) (fun o => outc o (fun x => some x) (fun s => M.impl_countedPoints_a1 s) = some r) ho336 hm ⟨v10, S11, rfl, rfl, rfl, rfl, rfl, rfl, hL⟩ ?_ ?_
 · intro s_l1 F337 wd338 hJ hm
   have hm := outcE hm
   have hm : M.impl_countedPoints_a1 s_l1 = some r := hm
   unfold M.impl_countedPoints_a1 at hm
   obtain ⟨v331, S332, f339, f340, f341, f342, f343, f344, hL⟩ := hJ
   refine CSR ?_
   refine OV v331 rfl (x_mv f341) ?_
   refine OV v331 rfl (x_assign) ?_
   refine OW.nil ?_
   refine CW.ret ?_
   obtain rfl := Option.some.inj hm
   exact RR1 rfl rfl ⟨v331, S332, rfl, hL.fresh 3 rfl [0] (by decide) (by decide) rfl⟩
 intro s_l1 F345 wd346 t333 hJ hm hr334
 unfold M.impl_countedPoints_l1 at hm
 obtain ⟨v331, S332, f347, f348, f349, f350, f351, f352, hL⟩ := hJ
 refine CSR ?_
 refine OV (.bool (decide (s_l1.2 < (a0.Points.length : Int)))) rfl (x_lss f352 f351) ?_
 refine ONS ?_
 refine CW.condM (t := decide (s_l1.2 < (a0.Points.length : Int))) rfl hm (fun hb353 hm => ?_) (fun hb353 hm => ?_)
 · refine CW.skip ?_
   refine CW.seqJ (fun (s_j1 : (List Int)) (F : Fr) (w : World) => ∃ (v426 : Value) (S427 : Nat → Prop), F 2 = (.int .i64 a2) ∧ F 3 = (.pointer (some ⟨b8, 0, none⟩)) ∧ F 7 = v426 ∧ F 8 = v15 ∧ F 17 = (.int .i64 (a0.Points.length : Int)) ∧ F 18 = (.int .i64 s_l1.2) ∧ Hp w0 [Ent.own 2 S427 v426 s_j1, Ent.own 2 S14 v15 x12, Ent.blk b8 29 #[(.int .i64 a0.Boats), v1, v3], Ent.snap w0 w0.heap.size] w) (fun s_j1 => M.impl_countedPoints_j1 s_l1 s_j1 = some t333) ?_ ?_
   · refine CW.blockJ (fun (s_j2 : (List Int)) (F : Fr) (w : World) => ∃ (v467 : Value) (S468 : Nat → Prop), F 2 = (.int .i64 a2) ∧ F 3 = (.pointer (some ⟨b8, 0, none⟩)) ∧ F 7 = v467 ∧ F 8 = v15 ∧ F 17 = (.int .i64 (a0.Points.length : Int)) ∧ F 18 = (.int .i64 s_l1.2) ∧ Hp w0 [Ent.own 2 S468 v467 s_j2, Ent.own 2 S14 v15 x12, Ent.blk b8 29 #[(.int .i64 a0.Boats), v1, v3], Ent.snap w0 w0.heap.size] w) (fun s_j2 => M.impl_countedPoints_j2 s_l1 s_j2 = some t333) ?_ ?_
     · refine CSR ?_
       refine OV (.int .i64 s_l1.2) rfl (x_mv f352) ?_
       refine OV (.int .i64 s_l1.2) rfl (x_assign) ?_
       refine ONR ?_
       refine OV v15 rfl (x_mv f350) ?_
       refine OV (.int .i64 s_l1.2) rfl (x_move) ?_
       obtain ⟨x477, hx478, hm⟩ := bndE hm
       refine OW.cons (OP.call rfl (x_call (vs := [v15, (.int .i64 s_l1.2)]) Try_C108 ⟨rfl, rfl, trivial⟩) (M.slices_Contains___int64_int64__ok _ x12 (hL.rdO 1 rfl) s_l1.2 hx478) ?_)
       rintro e479 wd480 ⟨rfl, hF481⟩
       refine ⟨_, rfl, ?_⟩
       have hL := hL.pushAll hF481
       simp only [lA, lB, lC, lD] at hL
       refine OV (.bool (!x477)) rfl (x_not rfl) ?_
       refine OW.nil ?_
       refine CW.condM (t := !x477) rfl hm (fun hb482 hm => ?_) (fun hb482 hm => ?_)
       · refine CW.regionL ?_
         refine OV v331 rfl (x_mv f349) ?_
         refine OV (.pointer (some ⟨b8, 1, none⟩)) rfl (x_fieldAddr (fsz := 1) 0 1 1 U29 rfl Try_T22 rfl f348 rfl) ?_
         refine OV v1 rfl (x_load1 U22 rfl rfl (hL.cellB 2 rfl rfl)) ?_
         refine OV (.int .i64 s_l1.2) rfl (x_move) ?_
         obtain ⟨x483, ha484, hm⟩ := bndE hm
         obtain ⟨hz485, ha493⟩ := idxE ha484
         obtain ⟨b486, q487, v488, hix489, hs490, hc491, hr492⟩ := rdN_at h2 hz485 ha493
         refine OV (.pointer (some ⟨b486, q487, none⟩)) rfl (x_ix U22 Try_T25 rfl rfl hix489) ?_
         refine OV v488 rfl (x_load1 U25 rfl rfl (hL.cellS 3 rfl hs490 hc491)) ?_
         refine OV (.int .i64 a2) rfl (x_mv f347) ?_
         obtain ⟨x494, ha495, hm⟩ := bndE hm
         obtain ⟨hz496, ha500⟩ := idxE ha495
         obtain ⟨b497, q498, hix499⟩ := rdL_ix (hL.rdS 3 rfl hr492) hz496 ha500
         refine OV (.pointer (some ⟨b497, q498, none⟩)) rfl (x_ix U25 Try_T2 rfl rfl hix499) ?_
         refine OV (.int .i64 x494) rfl (x_load1 U2 rfl rfl (rdF_cells (hL.rdS 3 rfl hr492) hix499 ha500 0 _ rfl)) ?_
         refine OW.cons (S_lit ([x494] : List Int) hL U25 Try_T2 rfl (by decide) (by first | (simp [Instr.fill, madeCells, Value.cells, ev, upd, Flat.enc, Flat.sz]; done) | rfl | kernel_rfl) rfl rfl ?_)
         intro wd501 v502 S503 hL
         obtain ⟨hc507, hm⟩ := chkE hm
         refine OW.cons (S_append (ys := ([x494] : List Int)) hL 1 rfl U25 Try_T2 rfl rfl rfl (hL.rdO 0 rfl) hc507 (by decide) rfl ?_)
         intro wd504 v505 S506 hL
         refine OV v505 rfl (x_assign) ?_
         refine OW.nil ?_
         have hL := hL.sel [1, 2, 3, 4] (by decide) rfl
         exact ⟨s_l1.1 ++ ([x494] : List Int), hm, ⟨v505, S506, f347, f348, rfl, f350, f351, f352, hL⟩⟩
       refine CW.skip ?_
       exact ⟨s_l1.1, hm, ⟨v331, S332, f347, f348, f349, f350, f351, f352, hL⟩⟩
     intro s_j2 F469 wd470 hJ hm
     unfold M.impl_countedPoints_j2 at hm
     obtain ⟨v467, S468, f471, f472, f473, f474, f475, f476, hL⟩ := hJ
     exact ⟨s_j2, hm, ⟨v467, S468, f471, f472, f473, f474, f475, f476, hL⟩⟩
   intro s_j1 F428 wd429 hJ hm
   unfold M.impl_countedPoints_j1 at hm
   obtain ⟨v426, S427, f430, f431, f432, f433, f434, f435, hL⟩ := hJ
   refine CW.regionL ?_
   refine OV (.int .i64 (w64 (s_l1.2 + 1))) rfl (x_add f435 rfl) ?_
   refine OV (.int .i64 (w64 (s_l1.2 + 1))) rfl (x_move) ?_
   refine OW.nil ?_
   obtain rfl := Option.some.inj hm
   exact ⟨_, rfl, ⟨v426, S427, f430, f431, f432, f433, f434, rfl, hL⟩⟩
 refine CW.exit ?_
 refine XJ.hit ?_
 obtain rfl := Option.some.inj hm
 exact ⟨_, rfl, ⟨v331, S332, f347, f348, f349, f350, f351, f352, hL⟩⟩

theorem M.impl_netPoints_ok (w0 : World) (a0 : Table) {v1 : Value} {v3 : Value} (h2 : rdL (· < w0.heap.size) w0 v1 a0.Points) (h4 : rdL (· < w0.heap.size) w0 v3 a0.Codes) (a1 : List Int) {v5 : Value} (h6 : rdL (· < w0.heap.size) w0 v5 a1) (a2 : Int) {r : Int} (hm : M.impl_netPoints a0 a1 a2 = some r) :
    Calls Try.prog 71 #[(.agg #[(.int .i64 a0.Boats), v1, v3]), v5, (.int .i64 a2)] w0 fun e w' => e = .returned (.int .i64 r) ∧ Fresh w0 w' [] := by
 unfold M.impl_netPoints at hm
 refine calls_CW (args := [(.agg #[(.int .i64 a0.Boats), v1, v3]), v5, (.int .i64 a2)]) Try.func71 rfl rfl rfl ?_
 have hL := Hp.start w0
 refine CSR ?_
 refine OW.cons (S_box (cs := #[(.int .i64 a0.Boats), v1, v3]) hL rfl rfl rfl ?_)
 intro wd7 b8 hL
 refine OV (.int .i64 0) rfl (x_assign) ?_
 refine ONR ?_
 refine OV (.int .i64 0) rfl (x_assign) ?_
 refine ONS ?_
 refine CSR ?_
 refine OV (.agg #[(.int .i64 a0.Boats), v1, v3]) rfl (x_loadN (cs := [(.int .i64 a0.Boats), v1, v3]) U29 Try_T29 rfl rfl (hL.cellsB 0 rfl (o := 0) (l := [(.int .i64 a0.Boats), v1, v3]) (by intro j u hj; exact (by simpa using hj)))) ?_
 refine OV v5 rfl (x_move) ?_
 refine OV (.int .i64 a2) rfl (x_move) ?_
 obtain ⟨x9, hx10, hm⟩ := bndE hm
 refine OW.cons (OP.call rfl (x_call (vs := [(.agg #[(.int .i64 a0.Boats), v1, v3]), v5, (.int .i64 a2)]) Try_C90 ⟨rfl, rfl, rfl, trivial⟩) (M.impl_countedPoints_ok _ a0 (hL.rdS 1 rfl h2) (hL.rdS 1 rfl h4) a1 (hL.rdS 1 rfl h6) a2 hx10) ?_)
 rintro e13 wd14 ⟨v12, S11, rfl, hF15⟩
 refine ⟨_, rfl, ?_⟩
 have hL := hL.pushAll hF15
 simp only [lA, lB, lC, lD] at hL
 refine OV (.int .i64 (x9.length : Int)) rfl (x_lenR U25 rfl (hL.rdO 0 rfl)) ?_
 refine OV (.int .i64 0) rfl (x_move) ?_
 refine OW.nil ?_
 obtain ⟨o34, ho35, hm⟩ := bndE hm
 refine CW.loopB (fun (s_l1 : Int × Int) (F : Fr) (w : World) => F 7 = (.int .i64 s_l1.1) ∧ F 13 = v12 ∧ F 14 = (.int .i64 (x9.length : Int)) ∧ F 15 = (.int .i64 s_l1.2) ∧ Hp w0 [Ent.own 2 S11 v12 x9, Ent.blk b8 29 #[(.int .i64 a0.Boats), v1, v3], Ent.snap w0 w0.heap.size] w) (fun o => outc o (fun x => some x) (fun s => M.impl_netPoints_a1 s) = some r) ho35 hm ⟨rfl, rfl, rfl, rfl, hL⟩ ?_ ?_
 · intro s_l1 F36 wd37 hJ hm
   have hm := outcE hm
   have hm : M.impl_netPoints_a1 s_l1 = some r := hm
   unfold M.impl_netPoints_a1 at hm
   obtain ⟨f38, f39, f40, f41, hL⟩ := hJ
   refine CSR ?_
   refine OV (.int .i64 s_l1.1) rfl (x_mv f38) ?_
   refine OV (.int .i64 s_l1.1) rfl (x_assign) ?_
   refine OW.nil ?_
   refine CW.ret ?_
   obtain rfl := Option.some.inj hm
   exact RR1 rfl rfl ⟨rfl, hL.fresh 2 rfl [] (by decide) (by decide) rfl⟩
 intro s_l1 F42 wd43 t32 hJ hm hr33
 unfold M.impl_netPoints_l1 at hm
 obtain ⟨f44, f45, f46, f47, hL⟩ := hJ
 refine CSR ?_
 refine OV (.bool (decide (s_l1.2 < (x9.length : Int)))) rfl (x_lss f47 f46) ?_
 refine ONS ?_
 refine CW.condM (t := decide (s_l1.2 < (x9.length : Int))) rfl hm (fun hb48 hm => ?_) (fun hb48 hm => ?_)
 · refine CW.skip ?_
   refine CW.seq ?_
   refine CW.block ?_
   refine CSR ?_
   obtain ⟨x49, ha50, hm⟩ := bndE hm
   obtain ⟨hz51, ha55⟩ := idxE ha50
   obtain ⟨b52, q53, hix54⟩ := rdL_ix (hL.rdO 0 rfl) hz51 ha55
   refine OV (.pointer (some ⟨b52, q53, none⟩)) rfl (x_ix U25 Try_T2 f45 f47 hix54) ?_
   refine OV (.int .i64 x49) rfl (x_load1 U2 rfl rfl (rdF_cells (hL.rdO 0 rfl) hix54 ha55 0 _ rfl)) ?_
   refine OV (.int .i64 x49) rfl (x_assign) ?_
   refine OW.nil ?_
   refine CW.regionL ?_
   refine OV (.int .i64 s_l1.1) rfl (x_mv f44) ?_
   refine OV (.int .i64 x49) rfl (x_move) ?_
   refine OV (.int .i64 (w64 (s_l1.1 + x49))) rfl (x_add rfl rfl) ?_
   refine OV (.int .i64 (w64 (s_l1.1 + x49))) rfl (x_assign) ?_
   refine OW.nil ?_
   refine CW.regionL ?_
   refine OV (.int .i64 (w64 (s_l1.2 + 1))) rfl (x_add f47 rfl) ?_
   refine OV (.int .i64 (w64 (s_l1.2 + 1))) rfl (x_move) ?_
   refine OW.nil ?_
   obtain rfl := Option.some.inj hm
   exact ⟨_, rfl, ⟨rfl, f45, f46, rfl, hL⟩⟩
 refine CW.exit ?_
 refine XJ.hit ?_
 obtain rfl := Option.some.inj hm
 exact ⟨_, rfl, ⟨f44, f45, f46, f47, hL⟩⟩

theorem M.impl_sortedPoints_ok (w0 : World) (a0 : Table) {v1 : Value} {v3 : Value} (h2 : rdL (· < w0.heap.size) w0 v1 a0.Points) (h4 : rdL (· < w0.heap.size) w0 v3 a0.Codes) (a1 : List Int) {v5 : Value} (h6 : rdL (· < w0.heap.size) w0 v5 a1) (a2 : Int) {r : (List Int)} (hm : M.impl_sortedPoints a0 a1 a2 = some r) :
    Calls Try.prog 92 #[(.agg #[(.int .i64 a0.Boats), v1, v3]), v5, (.int .i64 a2)] w0 fun e w' => ∃ (rv0 : Value) (rS0 : Nat → Prop), e = .returned rv0 ∧ Fresh w0 w' [Ent.own 2 rS0 rv0 r] := by
 unfold M.impl_sortedPoints at hm
 refine calls_CW (args := [(.agg #[(.int .i64 a0.Boats), v1, v3]), v5, (.int .i64 a2)]) Try.func92 rfl rfl rfl ?_
 have hL := Hp.start w0
 refine CSR ?_
 refine OW.cons (S_box (cs := #[(.int .i64 a0.Boats), v1, v3]) hL rfl rfl rfl ?_)
 intro wd7 b8 hL
 refine OV (.slice none 0 0) rfl (x_assign) ?_
 refine ONR ?_
 refine OV (.agg #[(.int .i64 a0.Boats), v1, v3]) rfl (x_loadN (cs := [(.int .i64 a0.Boats), v1, v3]) U29 Try_T29 rfl rfl (hL.cellsB 0 rfl (o := 0) (l := [(.int .i64 a0.Boats), v1, v3]) (by intro j u hj; exact (by simpa using hj)))) ?_
 refine OV v5 rfl (x_move) ?_
 refine OV (.int .i64 a2) rfl (x_move) ?_
 obtain ⟨x9, hx10, hm⟩ := bndE hm
 refine OW.cons (OP.call rfl (x_call (vs := [(.agg #[(.int .i64 a0.Boats), v1, v3]), v5, (.int .i64 a2)]) Try_C90 ⟨rfl, rfl, rfl, trivial⟩) (M.impl_countedPoints_ok _ a0 (hL.rdS 1 rfl h2) (hL.rdS 1 rfl h4) a1 (hL.rdS 1 rfl h6) a2 hx10) ?_)
 rintro e13 wd14 ⟨v12, S11, rfl, hF15⟩
 refine ⟨_, rfl, ?_⟩
 have hL := hL.pushAll hF15
 simp only [lA, lB, lC, lD] at hL
 refine OV v12 rfl (x_assign) ?_
 refine ONR ?_
 refine OV v12 rfl (x_move) ?_
 obtain ⟨x16, hx17, hm⟩ := bndE hm
 refine OW.cons (OP.call rfl (x_call (vs := [v12]) Try_C107 ⟨rfl, trivial⟩) (M.slices_Sort___int64_int64__ok _ x9 (hL.get 0 rfl) hx17) ?_)
 rintro e18 wd19 ⟨S21, rfl, hF20⟩
 refine ⟨_, rfl, ?_⟩
 have hL := hL.mut 0 rfl hF20
 simp only [lA, lB, lC, lD] at hL
 refine ONR ?_
 refine OV v12 rfl (x_move) ?_
 refine OV v12 rfl (x_assign) ?_
 refine OW.nil ?_
 refine CW.ret ?_
 obtain rfl := Option.some.inj hm
 exact RR1 rfl rfl ⟨v12, S21, rfl, hL.fresh 2 rfl [0] (by decide) (by decide) rfl⟩

theorem M.back110_ok (w0 : World) {v : Value} {α : Type} [GoT α] {S : Nat → Prop} {xs : List α} (h : rdL S w0 v xs) :
    Calls Try.prog 98 #[v] w0 fun e w' => ∃ b : Nat, e = .returned (.func (.func 110) #[] #[.pointer (some ⟨b, 0, none⟩)]) ∧ Fresh w0 w' [Ent.blk b 22 #[v]] := by
 refine calls_CW (args := [v]) Try.func98 rfl rfl rfl ?_
 have hL := Hp.start w0
 refine CSR ?_
 refine OW.cons (S_box (cs := #[v]) hL rfl (rdL_cells h) rfl ?_)
 intro wd b hL
 refine OW.cons (OP.val rfl x_assign ?_)
 refine ONR ?_
 refine OV (.func (.func 110) #[] #[.pointer (some ⟨b, 0, none⟩)]) rfl (x_makeFunc (vs := [(.pointer (some ⟨b, 0, none⟩))]) ⟨rfl, trivial⟩) ?_
 refine OW.cons (OP.val rfl x_assign ?_)
 refine OW.nil ?_
 refine CW.ret ?_
 exact RR1 rfl rfl ⟨b, rfl, hL.fresh 1 rfl [0] (by decide) (by decide) rfl⟩
theorem M.back110_it {v : Value} {b : Nat} {xs : List (List Int)} : IterB Try.prog 110 22 b v xs := by
 intro l Y Z W hY hr h0
 have hlen : (xs.length : Int) < 9223372036854775808 := by
   obtain ⟨Av, cap, _, h1, h2, _⟩ := (hY _ _ h0).2
   unfold maxLen at h2
   omega
 refine calls_CF (args := [(.func (.yield l) #[] #[]), (.pointer (some ⟨b, 0, none⟩))]) Try.func110 rfl rfl rfl ?_
 refine CF.seq ?_
 refine CF.regionL ?_
 refine OW.cons (OP.val rfl (x_load1 U22 rfl rfl (cell_box (hY _ _ h0).1)) ?_)
 refine OW.cons (OP.val rfl (x_lenR U22 rfl (hY _ _ h0).2) ?_)
 refine OW.cons (OP.val rfl (x_sub rfl rfl) ?_)
 refine OW.cons (OP.val rfl x_assign ?_)
 refine OW.nil ?_
 refine CF.block ?_
 refine CF.loop (fun F w => ∃ k : Nat, k ≤ xs.length ∧ F 0 = (.func (.yield l) #[] #[]) ∧ F 1 = (.pointer (some ⟨b, 0, none⟩)) ∧ F 3 = .int .i64 ((k : Int) - 1) ∧ Y k w) (fun F _ => match F 3 with | .int _ i => (i + 1).toNat | _ => 0) ⟨xs.length, Nat.le_refl _, rfl, rfl, congrArg (Value.int .i64) (w64_id (by omega)), h0⟩ ?_
 rintro F w ⟨k, hk, f0, f1, f3, hYk⟩
 refine CF.seq ?_
 refine CF.seq ?_
 refine CF.regionL ?_
 refine OW.cons (OP.val rfl (x_mv f3) ?_)
 refine OW.cons (OP.val rfl (x_geq rfl rfl) ?_)
 refine OW.nil ?_
 cases k with
 | zero =>
   refine CF.condF (t := decide ((0 : Int) ≤ ((0 : Nat) : Int) - 1)) rfl (decide_eq_false (by omega)) ?_
   refine CF.exit ?_
   refine XX.hit ?_
   exact RR0 rfl ⟨⟨_, rfl⟩, .inl hYk⟩
 | succ k =>
   refine CF.condT (t := decide ((0 : Int) ≤ ((k + 1 : Nat) : Int) - 1)) rfl (decide_eq_true (by omega)) ?_
   refine CF.skip ?_
   refine CF.seq ?_
   refine CF.block ?_
   refine CF.seq ?_
   have hlt : k < xs.length := by omega
   have e1 : (((k + 1 : Nat) : Int) - 1) = (k : Int) := by omega
   rw [e1] at f3
   obtain ⟨b1, q1, u1, hix, _, hc, _⟩ := rdN_at (hY _ _ hYk).2 (Int.natCast_nonneg k) (by rw [Int.toNat_natCast]; exact List.getElem?_eq_getElem hlt)
   obtain ⟨fn, tmps, assign, body, hy, hR⟩ := hr k w u1 hlt hYk (fun b' q' hix' => by obtain ⟨rfl, rfl⟩ := hix.inj hix'; exact hc)
   refine CF.regionY ?_
   refine OF.cons rfl (OP.val rfl (x_mv f0) ?_)
   refine OF.cons rfl (OP.val rfl (x_mv f3) ?_)
   refine OF.cons rfl (OP.val rfl (x_load1 U22 rfl f1 (cell_box (hY _ _ hYk).1)) ?_)
   refine OF.cons rfl (OP.val rfl (x_mv f3) ?_)
   refine OF.cons rfl (OP.val rfl (x_ix U22 Try_T25 rfl rfl hix) ?_)
   refine OF.cons rfl (OP.val rfl (x_load1 U25 rfl rfl hc) ?_)
   refine OF.yield rfl rfl rfl rfl hy (hR.mono ?_)
   rintro e W' (⟨rfl, hY'⟩ | ⟨rfl, hZ⟩)
   · refine ⟨_, rfl, ?_⟩
     refine OF.cons rfl (OP.val rfl (x_not (b := true) rfl) ?_)
     refine OF.nil ?_
     refine CF.condF (t := !true) rfl rfl ?_
     refine CF.skip ?_
     refine CF.regionL ?_
     refine OW.cons (OP.val rfl (x_mv f3) ?_)
     refine OW.cons (OP.val rfl (x_sub rfl rfl) ?_)
     refine OW.cons (OP.val rfl x_assign ?_)
     refine OW.nil ?_
     have e2 : w64 ((k : Int) - 1) = (k : Int) - 1 := w64_id (by omega)
     refine ⟨⟨k, by omega, f0, f1, congrArg (Value.int .i64) e2, hY'⟩, ?_⟩
     show (w64 ((k : Int) - 1) + 1).toNat < (match F 3 with | .int _ i => (i + 1).toNat | _ => 0)
     rw [e2, f3]
     simp
   · refine ⟨_, rfl, ?_⟩
     refine OF.cons rfl (OP.val rfl (x_not (b := false) rfl) ?_)
     refine OF.nil ?_
     refine CF.condT (t := !false) rfl rfl ?_
     refine CF.ret ?_
     exact RR0 rfl ⟨⟨_, rfl⟩, .inr hZ⟩

theorem M.impl_compareBoats_ok (w0 : World) (a0 : Table) {v1 : Value} {v3 : Value} (h2 : rdL (· < w0.heap.size) w0 v1 a0.Points) (h4 : rdL (· < w0.heap.size) w0 v3 a0.Codes) (a1 : List Int) {v5 : Value} (h6 : rdL (· < w0.heap.size) w0 v5 a1) (a2 : Int) (a3 : Int) {r : Int × Int × Int} (hm : M.impl_compareBoats a0 a1 a2 a3 = some r) :
    Calls Try.prog 62 #[(.agg #[(.int .i64 a0.Boats), v1, v3]), v5, (.int .i64 a2), (.int .i64 a3)] w0 fun e w' => e = .returned (.tuple #[(.int .i64 r.1), (.int .i64 r.2.1), (.int .i64 r.2.2)]) ∧ Fresh w0 w' [] := by
 unfold M.impl_compareBoats at hm
 refine calls_SW (args := [(.agg #[(.int .i64 a0.Boats), v1, v3]), v5, (.int .i64 a2), (.int .i64 a3)]) Try.func62 rfl rfl rfl ?_
 have hL := Hp.start w0
 refine SW.seqC ?_
 refine CW.regionL ?_
 refine OW.cons (S_box (cs := #[(.int .i64 a0.Boats), v1, v3]) hL rfl rfl rfl ?_)
 intro wd7 b8 hL
 refine OW.cons (S_box (cs := #[(.int .i64 a2)]) hL rfl rfl rfl ?_)
 intro wd9 b10 hL
 refine OW.cons (S_box (cs := #[(.int .i64 a3)]) hL rfl rfl rfl ?_)
 intro wd11 b12 hL
 refine OW.cons (S_alloc (cs := #[(.int .i64 0)]) hL Try_T2 rfl rfl ?_)
 intro wd13 b14 hL
 refine OW.cons (S_alloc (cs := #[(.int .i64 0)]) hL Try_T2 rfl rfl ?_)
 intro wd15 b16 hL
 refine OW.cons (S_alloc (cs := #[(.int .i64 0)]) hL Try_T2 rfl rfl ?_)
 intro wd17 b18 hL
 refine OW.nil ?_
 refine SW.seqC ?_
 refine CW.seq ?_
 refine CW.draw Try_mixed ?_
 have hL := hL.call (Mod.drew _)
 refine DW.pre (fuel := 0) (fin := bma 10 1023) (C := fun w' => Mod None_ _ w') [0, 1, 2, 3, 4, 5, 6, 7, 8, 9] (Mod.refl _ _) (by kernel_rfl) (by kernel_rfl) ?_
 refine QW.cons rfl (QP.val (v := (.agg #[(.int .i64 a0.Boats), v1, v3])) rfl (fun w' hm' => x_loadN (cs := [(.int .i64 a0.Boats), v1, v3]) U29 Try_T29 rfl rfl ((hL.call hm').cellsB 5 rfl (o := 0) (l := [(.int .i64 a0.Boats), v1, v3]) (by intro j u hj; exact (by simpa using hj)))) ?_)
 refine QW.cons rfl (QP.val (v := v5) rfl (fun w' hm' => x_move) ?_)
 refine QW.cons rfl (QP.val (v := (.int .i64 a2)) rfl (fun w' hm' => x_load1 U2 rfl rfl ((hL.call hm').cellB 4 rfl rfl)) ?_)
 obtain ⟨x19, hx20, hm⟩ := bndE hm
 refine QW.cons rfl (QP.call (v := (.int .i64 x19)) rfl (fun w' hm' => x_call (vs := [(.agg #[(.int .i64 a0.Boats), v1, v3]), v5, (.int .i64 a2)]) Try_C71 ⟨rfl, rfl, rfl, trivial⟩) (fun w' hm' => (M.impl_netPoints_ok w' a0 ((hL.call hm').rdS 6 rfl h2) ((hL.call hm').rdS 6 rfl h4) a1 ((hL.call hm').rdS 6 rfl h6) a2 hx20).mono (fun e w'' h => ⟨h.1, hm'.trans h.2.mod⟩)) ?_)
 refine QW.cons rfl (QP.val (v := (.agg #[(.int .i64 a0.Boats), v1, v3])) rfl (fun w' hm' => x_loadN (cs := [(.int .i64 a0.Boats), v1, v3]) U29 Try_T29 rfl rfl ((hL.call hm').cellsB 5 rfl (o := 0) (l := [(.int .i64 a0.Boats), v1, v3]) (by intro j u hj; exact (by simpa using hj)))) ?_)
 refine QW.cons rfl (QP.val (v := v5) rfl (fun w' hm' => x_move) ?_)
 refine QW.cons rfl (QP.val (v := (.int .i64 a3)) rfl (fun w' hm' => x_load1 U2 rfl rfl ((hL.call hm').cellB 3 rfl rfl)) ?_)
 obtain ⟨x21, hx22, hm⟩ := bndE hm
 refine QW.cons rfl (QP.call (v := (.int .i64 x21)) rfl (fun w' hm' => x_call (vs := [(.agg #[(.int .i64 a0.Boats), v1, v3]), v5, (.int .i64 a3)]) Try_C71 ⟨rfl, rfl, rfl, trivial⟩) (fun w' hm' => (M.impl_netPoints_ok w' a0 ((hL.call hm').rdS 6 rfl h2) ((hL.call hm').rdS 6 rfl h4) a1 ((hL.call hm').rdS 6 rfl h6) a3 hx22).mono (fun e w'' h => ⟨h.1, hm'.trans h.2.mod⟩)) ?_)
 refine QW.cons rfl (QP.val (v := (.int .i64 (w64 (x19 - x21)))) rfl (fun w' hm' => x_sub rfl rfl) ?_)
 refine QW.cons rfl (QP.val (v := (.int .i64 (w64 (x19 - x21)))) rfl (fun w' hm' => x_assign) ?_)
 refine QW.nil ?_
 intro wd23 hmod
 have hL := hL.call hmod
 refine DW.done (by kernel_rfl) ?_
 refine CSR ?_
 refine OV (.int .i64 (w64 (x19 - x21))) rfl (x_move) ?_
 refine OV (.bool ((w64 (x19 - x21)) != 0)) rfl (x_neq rfl rfl) ?_
 refine OW.nil ?_
 refine CW.condM (t := (w64 (x19 - x21)) != 0) rfl hm (fun hb24 hm => ?_) (fun hb24 hm => ?_)
 · refine CSR ?_
   refine OV (.int .i64 (w64 (x19 - x21))) rfl (x_move) ?_
   obtain ⟨x25, hx26, hm⟩ := bndE hm
   refine OW.cons (OP.call rfl (x_call (vs := [(.int .i64 (w64 (x19 - x21)))]) Try_C97 ⟨rfl, trivial⟩) (M.impl_sign_ok _ (w64 (x19 - x21)) hx26) ?_)
   rintro e27 wd28 ⟨rfl, hF29⟩
   refine ⟨_, rfl, ?_⟩
   have hL := hL.pushAll hF29
   simp only [lA, lB, lC, lD] at hL
   refine OW.cons (S_store (cs' := #[(.int .i64 x25)]) hL 2 rfl Try_T2 rfl rfl rfl rfl rfl ?_)
   intro wd30 hL
   refine OW.cons (S_store (cs' := #[(.int .i64 1)]) hL 1 rfl Try_T2 rfl rfl rfl rfl rfl ?_)
   intro wd31 hL
   refine OW.cons (S_store (cs' := #[(.int .i64 0)]) hL 0 rfl Try_T2 rfl rfl rfl rfl rfl ?_)
   intro wd32 hL
   refine OW.nil ?_
   refine CW.ret ?_
   refine RM.nil ?_
   obtain rfl := Option.some.inj hm
   exact RRs (v := (.int .i64 x25)) (v2 := (.int .i64 1)) (vs := [(.int .i64 0)]) (rs := [.cell 8 2, .cell 9 2, .cell 10 2]) rfl ⟨resCell rfl (run_load1 U2 rfl (cell_box (hL.get 2 rfl))), resCell rfl (run_load1 U2 rfl (cell_box (hL.get 1 rfl))), resCell rfl (run_load1 U2 rfl (cell_box (hL.get 0 rfl))), trivial⟩ ⟨rfl, hL.fresh 6 rfl [] (by decide) (by decide) rfl⟩
 refine CW.skip ?_
 refine SW.seqC ?_
 refine CW.drawH (fun w' => Hp w0 [Ent.blk b18 2 #[(.int .i64 0)], Ent.blk b16 2 #[(.int .i64 0)], Ent.blk b14 2 #[(.int .i64 0)], Ent.blk b12 2 #[(.int .i64 a3)], Ent.blk b10 2 #[(.int .i64 a2)], Ent.blk b8 29 #[(.int .i64 a0.Boats), v1, v3], Ent.snap w0 w0.heap.size] w') Try_mixed ?_
 have hL := hL.call (Mod.drew _)
 have hS := (hL.sel [0, 1, 2, 3, 4, 5, 6] (by decide) rfl)
 refine DH.take 0 rfl (by kernel_rfl) (by kernel_rfl) (by kernel_rfl) rfl rfl hS (YH.val (v := (.agg #[(.int .i64 a0.Boats), v1, v3])) (fun w' hS' => x_loadN (cs := [(.int .i64 a0.Boats), v1, v3]) U29 Try_T29 rfl rfl (hS'.cellsB 5 rfl (o := 0) (l := [(.int .i64 a0.Boats), v1, v3]) (by intro j u hj; exact (by simpa using hj))))) ?_
 have hS := (hL.sel [0, 1, 2, 3, 4, 5, 6] (by decide) rfl)
 refine DH.take 1 rfl (by kernel_rfl) (by kernel_rfl) (by kernel_rfl) rfl rfl hS (YH.val (v := v5) (fun w' hS' => x_move)) ?_
 have hS := (hL.sel [0, 1, 2, 3, 4, 5, 6] (by decide) rfl)
 refine DH.take 2 rfl (by kernel_rfl) (by kernel_rfl) (by kernel_rfl) rfl rfl hS (YH.val (v := (.int .i64 a2)) (fun w' hS' => x_load1 U2 rfl rfl (hS'.cellB 4 rfl rfl))) ?_
 have hS := (hL.sel [0, 1, 2, 3, 4, 5, 6] (by decide) rfl)
 refine DH.take 4 rfl (by kernel_rfl) (by kernel_rfl) (by kernel_rfl) rfl rfl hS (YH.val (v := (.agg #[(.int .i64 a0.Boats), v1, v3])) (fun w' hS' => x_loadN (cs := [(.int .i64 a0.Boats), v1, v3]) U29 Try_T29 rfl rfl (hS'.cellsB 5 rfl (o := 0) (l := [(.int .i64 a0.Boats), v1, v3]) (by intro j u hj; exact (by simpa using hj))))) ?_
 have hS := (hL.sel [0, 1, 2, 3, 4, 5, 6] (by decide) rfl)
 refine DH.take 5 rfl (by kernel_rfl) (by kernel_rfl) (by kernel_rfl) rfl rfl hS (YH.val (v := v5) (fun w' hS' => x_move)) ?_
 have hS := (hL.sel [0, 1, 2, 3, 4, 5, 6] (by decide) rfl)
 refine DH.take 6 rfl (by kernel_rfl) (by kernel_rfl) (by kernel_rfl) rfl rfl hS (YH.val (v := (.int .i64 a3)) (fun w' hS' => x_load1 U2 rfl rfl (hS'.cellB 3 rfl rfl))) ?_
 obtain ⟨x47, hx48, hm⟩ := bndE hm
 refine DH.only 3 rfl (by kernel_rfl) (OP.call rfl (x_call (vs := [(.agg #[(.int .i64 a0.Boats), v1, v3]), v5, (.int .i64 a2)]) Try_C92 ⟨rfl, rfl, rfl, trivial⟩) (M.impl_sortedPoints_ok _ a0 (hL.rdS 6 rfl h2) (hL.rdS 6 rfl h4) a1 (hL.rdS 6 rfl h6) a2 hx48) ?_)
 rintro e51 wd52 ⟨v50, S49, rfl, hF53⟩
 refine ⟨_, rfl, ?_⟩
 have hL := hL.pushAll hF53
 simp only [lA, lB, lC, lD] at hL
 refine ⟨(hL.sel [1, 2, 3, 4, 5, 6, 7] (by decide) rfl), ?_⟩
 obtain ⟨x54, hx55, hm⟩ := bndE hm
 refine DH.only 7 rfl (by kernel_rfl) (OP.call rfl (x_call (vs := [(.agg #[(.int .i64 a0.Boats), v1, v3]), v5, (.int .i64 a3)]) Try_C92 ⟨rfl, rfl, rfl, trivial⟩) (M.impl_sortedPoints_ok _ a0 (hL.rdS 7 rfl h2) (hL.rdS 7 rfl h4) a1 (hL.rdS 7 rfl h6) a3 hx55) ?_)
 rintro e58 wd59 ⟨v57, S56, rfl, hF60⟩
 refine ⟨_, rfl, ?_⟩
 have hL := hL.pushAll hF60
 simp only [lA, lB, lC, lD] at hL
 refine ⟨(hL.sel [2, 3, 4, 5, 6, 7, 8] (by decide) rfl), ?_⟩
 have hS := (hL.sel [2, 3, 4, 5, 6, 7, 8] (by decide) rfl)
 refine DH.take 8 rfl (by kernel_rfl) (by kernel_rfl) (by kernel_rfl) rfl rfl hS (YH.val (v := v50) (fun w' hS' => x_assign)) ?_
 have hS := (hL.sel [2, 3, 4, 5, 6, 7, 8] (by decide) rfl)
 refine DH.take 9 rfl (by kernel_rfl) (by kernel_rfl) (by kernel_rfl) rfl rfl hS (YH.val (v := v57) (fun w' hS' => x_assign)) ?_
 refine DH.done (by kernel_rfl) ?_
 refine SW.seqC ?_
 refine CSR ?_
 refine OV v50 rfl (x_move) ?_
 refine OV (.int .i64 (x47.length : Int)) rfl (x_lenR U25 rfl (hL.rdO 1 rfl)) ?_
 refine OV v57 rfl (x_move) ?_
 refine OV (.int .i64 (x54.length : Int)) rfl (x_lenR U25 rfl (hL.rdO 0 rfl)) ?_
 refine OV (.int .i64 (min (x47.length : Int) (x54.length : Int))) rfl (x_min2 rfl rfl) ?_
 refine OV (.int .i64 0) rfl (x_move) ?_
 refine OW.nil ?_
 obtain ⟨o137, ho138, hm⟩ := bndE hm
 refine CW.loopB (fun (s_l1 : Int) (F : Fr) (w : World) => F 4 = (.pointer (some ⟨b8, 0, none⟩)) ∧ F 6 = (.pointer (some ⟨b10, 0, none⟩)) ∧ F 7 = (.pointer (some ⟨b12, 0, none⟩)) ∧ F 8 = (.pointer (some ⟨b14, 0, none⟩)) ∧ F 9 = (.pointer (some ⟨b16, 0, none⟩)) ∧ F 10 = (.pointer (some ⟨b18, 0, none⟩)) ∧ F 12 = v50 ∧ F 13 = v57 ∧ F 42 = (.int .i64 (min (x47.length : Int) (x54.length : Int))) ∧ F 43 = (.int .i64 s_l1) ∧ Hp w0 [Ent.own 2 S56 v57 x54, Ent.own 2 S49 v50 x47, Ent.blk b18 2 #[(.int .i64 0)], Ent.blk b16 2 #[(.int .i64 0)], Ent.blk b14 2 #[(.int .i64 0)], Ent.blk b12 2 #[(.int .i64 a3)], Ent.blk b10 2 #[(.int .i64 a2)], Ent.blk b8 29 #[(.int .i64 a0.Boats), v1, v3], Ent.snap w0 w0.heap.size] w) (fun o => outc o (fun x => some x) (fun s => M.impl_compareBoats_a1 a0 a2 a3 s) = some r) ho138 hm ⟨rfl, rfl, rfl, rfl, rfl, rfl, rfl, rfl, rfl, rfl, hL⟩ ?_ ?_
 · intro s_l1 F139 wd140 hJ hm
   have hm := outcE hm
   have hm : M.impl_compareBoats_a1 a0 a2 a3 s_l1 = some r := hm
   unfold M.impl_compareBoats_a1 at hm
   obtain ⟨f141, f142, f143, f144, f145, f146, f147, f148, f149, f150, hL⟩ := hJ
   refine SW.seq ?_
   refine SW.seqC ?_
   refine CW.regionL ?_
   refine OV (.pointer (some ⟨b8, 1, none⟩)) rfl (x_fieldAddr (fsz := 1) 0 1 1 U29 rfl Try_T22 rfl f141 rfl) ?_
   refine OV v1 rfl (x_load1 U22 rfl rfl (hL.cellB 7 rfl rfl)) ?_
   refine OW.cons (OP.call rfl (x_call (vs := [v1]) Try_C98 ⟨rfl, trivial⟩) (M.back110_ok _ (hL.rdS 8 rfl h2)) ?_)
   rintro e153 wd152 ⟨b151, rfl, hF154⟩
   refine ⟨_, rfl, ?_⟩
   have hL := hL.pushAll hF154
   simp only [lA, lB, lC, lD] at hL
   refine OW.nil ?_
   refine SW.block ?_
   obtain ⟨o155, ho156, hm⟩ := bndE hm
   refine SW.rangeB (bodyM := M.impl_compareBoats_l2 a0 a2 a3) (fun o => outc o (fun x => some x) (fun s => M.impl_compareBoats_a2 s) = some r) (fun F x y => upd (upd (upd (upd F 69 x) 70 y) 15 x) 16 y) Try_C110 rfl rfl rfl M.back110_it hL (fun Γ0 W h => ⟨h.drops.get 0 rfl, h.drops.rdS 9 rfl h2⟩) ho156 hm ?_ ?_ ?_ ?_
   · intro t ht
     exact (Option.some.inj (show some (Stp.brk (-1)) = some t from ht)).symm
   · intro l x y W K hK
     refine CF.seq ?_
     refine CF.regionL ?_
     refine OW.cons (OP.val rfl x_assign ?_)
     refine OW.nil ?_
     refine CF.regionL ?_
     refine OW.cons (OP.val rfl x_assign ?_)
     refine OW.nil ?_
     exact hK
   · intro l162 D163 lo164 i165 u166 wd167 t168 hi169 hL hu170 hm hr171
     unfold M.impl_compareBoats_l2 at hm
     have hm := ifB_pos (by simp) hm
     obtain ⟨x172, ha173, hm⟩ := bndE hm
     obtain ⟨hz174, ha175⟩ := idxE ha173
     obtain ⟨b176, q177, v178, hix179, hs180, hc181, hr182⟩ := rdN_at h2 hz174 ha175
     have hc183 := Option.some.inj ((hL.cellS 11 rfl hs180 hc181).symm.trans (hu170 b176 q177 hix179))
     subst hc183
     refine CF.block ?_
     refine CF.seq ?_
     refine CF.draw Try_mixed ?_
     have hL := hL.call (Mod.drew _)
     refine DW.pre (fuel := 0) (fin := bma 9 511) (C := fun w' => Mod None_ _ w') [0, 1, 2, 3, 4, 5, 6, 7, 8] (Mod.refl _ _) (by kernel_rfl) (by kernel_rfl) ?_
     refine QW.cons rfl (QP.val (v := v178) rfl (fun w' hm' => x_move) ?_)
     refine QW.cons rfl (QP.val (v := (.int .i64 a2)) rfl (fun w' hm' => x_load1 U2 rfl f142 ((hL.call hm').cellB 9 rfl rfl)) ?_)
     obtain ⟨x184, ha185, hm⟩ := bndE hm
     obtain ⟨hz186, ha190⟩ := idxE ha185
     obtain ⟨b187, q188, hix189⟩ := rdL_ix (hL.rdS 11 rfl hr182) hz186 ha190
     refine QW.cons rfl (QP.val (v := (.pointer (some ⟨b187, q188, none⟩))) rfl (fun w' hm' => x_ix U25 Try_T2 rfl rfl hix189) ?_)
     refine QW.cons rfl (QP.val (v := (.int .i64 x184)) rfl (fun w' hm' => x_load1 U2 rfl rfl (rdF_cells ((hL.call hm').rdS 11 rfl hr182) hix189 ha190 0 _ rfl)) ?_)
     refine QW.cons rfl (QP.val (v := v178) rfl (fun w' hm' => x_move) ?_)
     refine QW.cons rfl (QP.val (v := (.int .i64 a3)) rfl (fun w' hm' => x_load1 U2 rfl f143 ((hL.call hm').cellB 8 rfl rfl)) ?_)
     obtain ⟨x191, ha192, hm⟩ := bndE hm
     obtain ⟨hz193, ha197⟩ := idxE ha192
     obtain ⟨b194, q195, hix196⟩ := rdL_ix (hL.rdS 11 rfl hr182) hz193 ha197
     refine QW.cons rfl (QP.val (v := (.pointer (some ⟨b194, q195, none⟩))) rfl (fun w' hm' => x_ix U25 Try_T2 rfl rfl hix196) ?_)
     refine QW.cons rfl (QP.val (v := (.int .i64 x191)) rfl (fun w' hm' => x_load1 U2 rfl rfl (rdF_cells ((hL.call hm').rdS 11 rfl hr182) hix196 ha197 0 _ rfl)) ?_)
     refine QW.cons rfl (QP.val (v := (.bool (x184 != x191))) rfl (fun w' hm' => x_neq rfl rfl) ?_)
     refine QW.nil ?_
     intro wd198 hmod
     have hL := hL.call hmod
     refine DW.done (by kernel_rfl) ?_
     refine CF.condM (t := x184 != x191) rfl hm (fun hb199 hm => ?_) (fun hb199 hm => ?_)
     · refine CF.seq ?_
       refine CF.drawH (fun w' => Hp w0 [Ent.raw l162 lo164, Ent.raw D163 (.deferred (some [])), Ent.blk b151 22 #[v1], Ent.own 2 S56 v57 x54, Ent.own 2 S49 v50 x47, Ent.blk b12 2 #[(.int .i64 a3)], Ent.blk b10 2 #[(.int .i64 a2)], Ent.blk b8 29 #[(.int .i64 a0.Boats), v1, v3], Ent.snap w0 w0.heap.size] w') Try_mixed ?_
       have hL := hL.call (Mod.drew _)
       have hS := (hL.sel [0, 1, 2, 3, 4, 8, 9, 10, 11] (by decide) rfl)
       refine DH.take 0 rfl (by kernel_rfl) (by kernel_rfl) (by kernel_rfl) rfl rfl hS (YH.val (v := v178) (fun w' hS' => x_move)) ?_
       have hS := (hL.sel [0, 1, 2, 3, 4, 8, 9, 10, 11] (by decide) rfl)
       refine DH.take 1 rfl (by kernel_rfl) (by kernel_rfl) (by kernel_rfl) rfl rfl hS (YH.val (v := (.int .i64 a2)) (fun w' hS' => x_load1 U2 rfl f142 (hS'.cellB 6 rfl rfl))) ?_
       have hS := (hL.sel [0, 1, 2, 3, 4, 8, 9, 10, 11] (by decide) rfl)
       obtain ⟨x222, ha223, hm⟩ := bndE hm
       obtain ⟨hz224, ha228⟩ := idxE ha223
       obtain ⟨b225, q226, hix227⟩ := rdL_ix (hL.rdS 11 rfl hr182) hz224 ha228
       refine DH.take 2 rfl (by kernel_rfl) (by kernel_rfl) (by kernel_rfl) rfl rfl hS (YH.val (v := (.pointer (some ⟨b225, q226, none⟩))) (fun w' hS' => x_ix U25 Try_T2 rfl rfl hix227)) ?_
       have hS := (hL.sel [0, 1, 2, 3, 4, 8, 9, 10, 11] (by decide) rfl)
       refine DH.take 3 rfl (by kernel_rfl) (by kernel_rfl) (by kernel_rfl) rfl rfl hS (YH.val (v := (.int .i64 x222)) (fun w' hS' => x_load1 U2 rfl rfl (rdF_cells (hS'.rdS 8 rfl hr182) hix227 ha228 0 _ rfl))) ?_
       have hS := (hL.sel [0, 1, 2, 3, 4, 8, 9, 10, 11] (by decide) rfl)
       refine DH.take 4 rfl (by kernel_rfl) (by kernel_rfl) (by kernel_rfl) rfl rfl hS (YH.val (v := v178) (fun w' hS' => x_move)) ?_
       have hS := (hL.sel [0, 1, 2, 3, 4, 8, 9, 10, 11] (by decide) rfl)
       refine DH.take 5 rfl (by kernel_rfl) (by kernel_rfl) (by kernel_rfl) rfl rfl hS (YH.val (v := (.int .i64 a3)) (fun w' hS' => x_load1 U2 rfl f143 (hS'.cellB 5 rfl rfl))) ?_
       have hS := (hL.sel [0, 1, 2, 3, 4, 8, 9, 10, 11] (by decide) rfl)
       obtain ⟨x229, ha230, hm⟩ := bndE hm
       obtain ⟨hz231, ha235⟩ := idxE ha230
       obtain ⟨b232, q233, hix234⟩ := rdL_ix (hL.rdS 11 rfl hr182) hz231 ha235
       refine DH.take 6 rfl (by kernel_rfl) (by kernel_rfl) (by kernel_rfl) rfl rfl hS (YH.val (v := (.pointer (some ⟨b232, q233, none⟩))) (fun w' hS' => x_ix U25 Try_T2 rfl rfl hix234)) ?_
       have hS := (hL.sel [0, 1, 2, 3, 4, 8, 9, 10, 11] (by decide) rfl)
       refine DH.take 7 rfl (by kernel_rfl) (by kernel_rfl) (by kernel_rfl) rfl rfl hS (YH.val (v := (.int .i64 x229)) (fun w' hS' => x_load1 U2 rfl rfl (rdF_cells (hS'.rdS 8 rfl hr182) hix234 ha235 0 _ rfl))) ?_
       have hS := (hL.sel [0, 1, 2, 3, 4, 8, 9, 10, 11] (by decide) rfl)
       refine DH.take 8 rfl (by kernel_rfl) (by kernel_rfl) (by kernel_rfl) rfl rfl hS (YH.val (v := (.int .i64 (w64 (x222 - x229)))) (fun w' hS' => x_sub rfl rfl)) ?_
       have hS := (hL.sel [0, 1, 2, 3, 4, 8, 9, 10, 11] (by decide) rfl)
       refine DH.take 10 rfl (by kernel_rfl) (by kernel_rfl) (by kernel_rfl) rfl rfl hS (YH.val (v := (.int .i64 (i165 : Int))) (fun w' hS' => x_move)) ?_
       obtain ⟨x236, hx237, hm⟩ := bndE hm
       refine DH.only 9 rfl (by kernel_rfl) (OP.call rfl (x_call (vs := [(.int .i64 (w64 (x222 - x229)))]) Try_C97 ⟨rfl, trivial⟩) (M.impl_sign_ok _ (w64 (x222 - x229)) hx237) ?_)
       rintro e238 wd239 ⟨rfl, hF240⟩
       refine ⟨_, rfl, ?_⟩
       have hL := hL.pushAll hF240
       simp only [lA, lB, lC, lD] at hL
       refine ⟨(hL.sel [0, 1, 2, 3, 4, 8, 9, 10, 11] (by decide) rfl), ?_⟩
       refine DH.only 11 rfl (by kernel_rfl) (S_store (cs' := #[(.int .i64 x236)]) hL 7 rfl Try_T2 f144 rfl rfl rfl rfl ?_)
       intro wd241 hL
       refine ⟨(hL.sel [0, 1, 2, 3, 4, 8, 9, 10, 11] (by decide) rfl), ?_⟩
       refine DH.only 12 rfl (by kernel_rfl) (S_store (cs' := #[(.int .i64 3)]) hL 6 rfl Try_T2 f145 rfl rfl rfl rfl ?_)
       intro wd242 hL
       refine ⟨(hL.sel [0, 1, 2, 3, 4, 8, 9, 10, 11] (by decide) rfl), ?_⟩
       refine DH.only 13 rfl (by kernel_rfl) (S_store (cs' := #[(.int .i64 (i165 : Int))]) hL 5 rfl Try_T2 f146 rfl rfl rfl rfl ?_)
       intro wd243 hL
       refine ⟨(hL.sel [0, 1, 2, 3, 4, 8, 9, 10, 11] (by decide) rfl), ?_⟩
       refine DH.done (by kernel_rfl) ?_
       refine CF.ret ?_
       obtain rfl := Option.some.inj hm
       have hm := hr171 _ rfl
       obtain rfl := Option.some.inj hm
       refine ⟨_, hL, fun wq hL => ?_⟩
       refine RM.mark hL 0 rfl (fun wq hL => ?_)
       simp only [List.set_cons_zero, List.set_cons_succ, List.eraseIdx_cons_zero] at hL
       exact RRs (v := (.int .i64 x236)) (v2 := (.int .i64 3)) (vs := [(.int .i64 (i165 : Int))]) (rs := [.cell 8 2, .cell 9 2, .cell 10 2]) rfl ⟨resCell f144 (run_load1 U2 rfl (cell_box (hL.get 5 rfl))), resCell f145 (run_load1 U2 rfl (cell_box (hL.get 4 rfl))), resCell f146 (run_load1 U2 rfl (cell_box (hL.get 3 rfl))), trivial⟩ ⟨rfl, hL.fresh 9 rfl [] (by decide) (by decide) rfl⟩
     refine CF.skip ?_
     obtain rfl := Option.some.inj hm
     exact ⟨rfl, hL⟩
   intro D157 wd158 hL hm
   have hm := outcE hm
   have hm : M.impl_compareBoats_a2 (-1) = some r := hm
   unfold M.impl_compareBoats_a2 at hm
   refine SW.ofCF ?_
   refine CF.seq ?_
   refine CF.regionL ?_
   refine OW.cons (S_store (cs' := #[(.int .i64 0)]) hL 6 rfl Try_T2 f144 rfl rfl rfl rfl ?_)
   intro wd159 hL
   refine OW.cons (S_store (cs' := #[(.int .i64 0)]) hL 5 rfl Try_T2 f145 rfl rfl rfl rfl ?_)
   intro wd160 hL
   refine OW.cons (S_store (cs' := #[(.int .i64 0)]) hL 4 rfl Try_T2 f146 rfl rfl rfl rfl ?_)
   intro wd161 hL
   refine OW.nil ?_
   refine CF.ret ?_
   obtain rfl := Option.some.inj hm
   refine RM.mark hL 0 rfl (fun wq hL => ?_)
   simp only [List.set_cons_zero, List.set_cons_succ, List.eraseIdx_cons_zero] at hL
   exact RRs (v := (.int .i64 0)) (v2 := (.int .i64 0)) (vs := [(.int .i64 0)]) (rs := [.cell 8 2, .cell 9 2, .cell 10 2]) rfl ⟨resCell f144 (run_load1 U2 rfl (cell_box (hL.get 5 rfl))), resCell f145 (run_load1 U2 rfl (cell_box (hL.get 4 rfl))), resCell f146 (run_load1 U2 rfl (cell_box (hL.get 3 rfl))), trivial⟩ ⟨rfl, hL.fresh 9 rfl [] (by decide) (by decide) rfl⟩
 intro s_l1 F244 wd245 t135 hJ hm hr136
 unfold M.impl_compareBoats_l1 at hm
 obtain ⟨f246, f247, f248, f249, f250, f251, f252, f253, f254, f255, hL⟩ := hJ
 refine CSR ?_
 refine OV (.bool (decide (s_l1 < (min (x47.length : Int) (x54.length : Int))))) rfl (x_lss f255 f254) ?_
 refine ONS ?_
 refine CW.condM (t := decide (s_l1 < (min (x47.length : Int) (x54.length : Int)))) rfl hm (fun hb256 hm => ?_) (fun hb256 hm => ?_)
 · refine CW.skip ?_
   refine CW.seq ?_
   refine CW.block ?_
   refine CSR ?_
   refine OV (.int .i64 s_l1) rfl (x_mv f255) ?_
   refine OV (.int .i64 s_l1) rfl (x_assign) ?_
   refine ONS ?_
   refine CW.draw Try_mixed ?_
   have hL := hL.call (Mod.drew _)
   refine DW.pre (fuel := 0) (fin := bma 9 511) (C := fun w' => Mod None_ _ w') [0, 1, 2, 3, 4, 5, 6, 7, 8] (Mod.refl _ _) (by kernel_rfl) (by kernel_rfl) ?_
   refine QW.cons rfl (QP.val (v := v50) rfl (fun w' hm' => x_mv f252) ?_)
   refine QW.cons rfl (QP.val (v := (.int .i64 s_l1)) rfl (fun w' hm' => x_move) ?_)
   obtain ⟨x257, ha258, hm⟩ := bndE hm
   obtain ⟨hz259, ha263⟩ := idxE ha258
   obtain ⟨b260, q261, hix262⟩ := rdL_ix (hL.rdO 1 rfl) hz259 ha263
   refine QW.cons rfl (QP.val (v := (.pointer (some ⟨b260, q261, none⟩))) rfl (fun w' hm' => x_ix U25 Try_T2 rfl rfl hix262) ?_)
   refine QW.cons rfl (QP.val (v := (.int .i64 x257)) rfl (fun w' hm' => x_load1 U2 rfl rfl (rdF_cells ((hL.call hm').rdO 1 rfl) hix262 ha263 0 _ rfl)) ?_)
   refine QW.cons rfl (QP.val (v := v57) rfl (fun w' hm' => x_mv f253) ?_)
   refine QW.cons rfl (QP.val (v := (.int .i64 s_l1)) rfl (fun w' hm' => x_move) ?_)
   obtain ⟨x264, ha265, hm⟩ := bndE hm
   obtain ⟨hz266, ha270⟩ := idxE ha265
   obtain ⟨b267, q268, hix269⟩ := rdL_ix (hL.rdO 0 rfl) hz266 ha270
   refine QW.cons rfl (QP.val (v := (.pointer (some ⟨b267, q268, none⟩))) rfl (fun w' hm' => x_ix U25 Try_T2 rfl rfl hix269) ?_)
   refine QW.cons rfl (QP.val (v := (.int .i64 x264)) rfl (fun w' hm' => x_load1 U2 rfl rfl (rdF_cells ((hL.call hm').rdO 0 rfl) hix269 ha270 0 _ rfl)) ?_)
   refine QW.cons rfl (QP.val (v := (.bool (x257 != x264))) rfl (fun w' hm' => x_neq rfl rfl) ?_)
   refine QW.nil ?_
   intro wd271 hmod
   have hL := hL.call hmod
   refine DW.done (by kernel_rfl) ?_
   refine CW.condM (t := x257 != x264) rfl hm (fun hb272 hm => ?_) (fun hb272 hm => ?_)
   · refine CW.seq ?_
     refine CW.draw Try_mixed ?_
     have hL := hL.call (Mod.drew _)
     refine DW.pre (fuel := 3) (fin := bma 13 1023) (C := fun w' => Mod None_ _ w') [0, 1, 2, 3, 4, 5, 6, 7, 8, 9] (Mod.refl _ _) (by kernel_rfl) (by kernel_rfl) ?_
     refine QW.cons rfl (QP.val (v := v50) rfl (fun w' hm' => x_mv f252) ?_)
     refine QW.cons rfl (QP.val (v := (.int .i64 s_l1)) rfl (fun w' hm' => x_move) ?_)
     obtain ⟨x273, ha274, hm⟩ := bndE hm
     obtain ⟨hz275, ha279⟩ := idxE ha274
     obtain ⟨b276, q277, hix278⟩ := rdL_ix (hL.rdO 1 rfl) hz275 ha279
     refine QW.cons rfl (QP.val (v := (.pointer (some ⟨b276, q277, none⟩))) rfl (fun w' hm' => x_ix U25 Try_T2 rfl rfl hix278) ?_)
     refine QW.cons rfl (QP.val (v := (.int .i64 x273)) rfl (fun w' hm' => x_load1 U2 rfl rfl (rdF_cells ((hL.call hm').rdO 1 rfl) hix278 ha279 0 _ rfl)) ?_)
     refine QW.cons rfl (QP.val (v := v57) rfl (fun w' hm' => x_mv f253) ?_)
     refine QW.cons rfl (QP.val (v := (.int .i64 s_l1)) rfl (fun w' hm' => x_move) ?_)
     obtain ⟨x280, ha281, hm⟩ := bndE hm
     obtain ⟨hz282, ha286⟩ := idxE ha281
     obtain ⟨b283, q284, hix285⟩ := rdL_ix (hL.rdO 0 rfl) hz282 ha286
     refine QW.cons rfl (QP.val (v := (.pointer (some ⟨b283, q284, none⟩))) rfl (fun w' hm' => x_ix U25 Try_T2 rfl rfl hix285) ?_)
     refine QW.cons rfl (QP.val (v := (.int .i64 x280)) rfl (fun w' hm' => x_load1 U2 rfl rfl (rdF_cells ((hL.call hm').rdO 0 rfl) hix285 ha286 0 _ rfl)) ?_)
     refine QW.cons rfl (QP.val (v := (.int .i64 (w64 (x273 - x280)))) rfl (fun w' hm' => x_sub rfl rfl) ?_)
     obtain ⟨x287, hx288, hm⟩ := bndE hm
     refine QW.cons rfl (QP.call (v := (.int .i64 x287)) rfl (fun w' hm' => x_call (vs := [(.int .i64 (w64 (x273 - x280)))]) Try_C97 ⟨rfl, trivial⟩) (fun w' hm' => (M.impl_sign_ok w' (w64 (x273 - x280)) hx288).mono (fun e w'' h => ⟨h.1, hm'.trans h.2.mod⟩)) ?_)
     refine QW.nil ?_
     intro wd289 hmod
     have hL := hL.call hmod
     refine DW.only 10 rfl (by kernel_rfl) (S_store (cs' := #[(.int .i64 x287)]) hL 4 rfl Try_T2 f249 rfl rfl rfl rfl ?_)
     intro wd290 hL
     refine DW.only 11 rfl (by kernel_rfl) (S_store (cs' := #[(.int .i64 2)]) hL 3 rfl Try_T2 f250 rfl rfl rfl rfl ?_)
     intro wd291 hL
     refine DW.only 12 rfl (by kernel_rfl) (S_store (cs' := #[(.int .i64 0)]) hL 2 rfl Try_T2 f251 rfl rfl rfl rfl ?_)
     intro wd292 hL
     refine DW.done (by kernel_rfl) ?_
     refine CW.ret ?_
     refine RM.nil ?_
     obtain rfl := Option.some.inj hm
     have hm := hr136 _ rfl
     obtain rfl := Option.some.inj hm
     exact RRs (v := (.int .i64 x287)) (v2 := (.int .i64 2)) (vs := [(.int .i64 0)]) (rs := [.cell 8 2, .cell 9 2, .cell 10 2]) rfl ⟨resCell f249 (run_load1 U2 rfl (cell_box (hL.get 4 rfl))), resCell f250 (run_load1 U2 rfl (cell_box (hL.get 3 rfl))), resCell f251 (run_load1 U2 rfl (cell_box (hL.get 2 rfl))), trivial⟩ ⟨rfl, hL.fresh 8 rfl [] (by decide) (by decide) rfl⟩
   refine CW.skip ?_
   refine CW.regionL ?_
   refine OV (.int .i64 (w64 (s_l1 + 1))) rfl (x_add f255 rfl) ?_
   refine OV (.int .i64 (w64 (s_l1 + 1))) rfl (x_move) ?_
   refine OW.nil ?_
   obtain rfl := Option.some.inj hm
   exact ⟨_, rfl, ⟨f246, f247, f248, f249, f250, f251, f252, f253, f254, rfl, hL⟩⟩
 refine CW.exit ?_
 refine XJ.hit ?_
 obtain rfl := Option.some.inj hm
 exact ⟨_, rfl, ⟨f246, f247, f248, f249, f250, f251, f252, f253, f254, f255, hL⟩⟩

theorem M.impl_CompareBoats_ok (w0 : World) (a0 : Table) {v1 : Value} {v3 : Value} (h2 : rdL (· < w0.heap.size) w0 v1 a0.Points) (h4 : rdL (· < w0.heap.size) w0 v3 a0.Codes) (a1 : List Int) {v5 : Value} (h6 : rdL (· < w0.heap.size) w0 v5 a1) (a2 : Int) (a3 : Int) {r : Int × Int × Int} (hm : M.impl_CompareBoats a0 a1 a2 a3 = some r) :
    Calls Try.prog 17 #[(.agg #[(.int .i64 a0.Boats), v1, v3]), v5, (.int .i64 a2), (.int .i64 a3)] w0 fun e w' => e = .returned (.tuple #[(.int .i64 r.1), (.int .i64 r.2.1), (.int .i64 r.2.2)]) ∧ Fresh w0 w' [] := by
 unfold M.impl_CompareBoats at hm
 refine calls_CW (args := [(.agg #[(.int .i64 a0.Boats), v1, v3]), v5, (.int .i64 a2), (.int .i64 a3)]) Try.func17 rfl rfl rfl ?_
 have hL := Hp.start w0
 refine CSR ?_
 refine OW.cons (S_box (cs := #[(.int .i64 a0.Boats), v1, v3]) hL rfl rfl rfl ?_)
 intro wd7 b8 hL
 refine OV (.int .i64 0) rfl (x_assign) ?_
 refine OV (.int .i64 0) rfl (x_assign) ?_
 refine OV (.int .i64 0) rfl (x_assign) ?_
 refine ONS ?_
 refine CSR ?_
 refine OV (.agg #[(.int .i64 a0.Boats), v1, v3]) rfl (x_loadN (cs := [(.int .i64 a0.Boats), v1, v3]) U29 Try_T29 rfl rfl (hL.cellsB 0 rfl (o := 0) (l := [(.int .i64 a0.Boats), v1, v3]) (by intro j u hj; exact (by simpa using hj)))) ?_
 refine OV v5 rfl (x_move) ?_
 refine OV (.int .i64 a2) rfl (x_move) ?_
 refine OV (.int .i64 a3) rfl (x_move) ?_
 obtain ⟨x9, hx10, hm⟩ := bndE hm
 refine OW.cons (OP.call rfl (x_call (vs := [(.agg #[(.int .i64 a0.Boats), v1, v3]), v5, (.int .i64 a2), (.int .i64 a3)]) Try_C61 ⟨rfl, rfl, rfl, rfl, trivial⟩) (M.impl_boatsCode_ok _ a0 (hL.rdS 1 rfl h2) (hL.rdS 1 rfl h4) a1 (hL.rdS 1 rfl h6) a2 a3 hx10) ?_)
 rintro e11 wd12 ⟨rfl, hF13⟩
 refine ⟨_, rfl, ?_⟩
 have hL := hL.pushAll hF13
 simp only [lA, lB, lC, lD] at hL
 refine OV (.int .i64 x9) rfl (x_assign) ?_
 refine ONR ?_
 refine OV (.int .i64 x9) rfl (x_move) ?_
 refine OV (.bool (x9 != 0)) rfl (x_neq rfl rfl) ?_
 refine OW.nil ?_
 refine CW.condM (t := x9 != 0) rfl hm (fun hb14 hm => ?_) (fun hb14 hm => ?_)
 · refine CSR ?_
   refine OV (.int .i64 x9) rfl (x_move) ?_
   refine OV (.int .i64 0) rfl (x_assign) ?_
   refine OV (.int .i64 0) rfl (x_assign) ?_
   refine OV (.int .i64 x9) rfl (x_assign) ?_
   refine OW.nil ?_
   refine CW.ret ?_
   obtain rfl := Option.some.inj hm
   exact RR3 rfl rfl rfl rfl ⟨rfl, hL.fresh 1 rfl [] (by decide) (by decide) rfl⟩
 refine CW.skip ?_
 refine CSR ?_
 refine OV (.agg #[(.int .i64 a0.Boats), v1, v3]) rfl (x_loadN (cs := [(.int .i64 a0.Boats), v1, v3]) U29 Try_T29 rfl rfl (hL.cellsB 0 rfl (o := 0) (l := [(.int .i64 a0.Boats), v1, v3]) (by intro j u hj; exact (by simpa using hj)))) ?_
 refine OV v5 rfl (x_move) ?_
 refine OV (.int .i64 a2) rfl (x_move) ?_
 refine OV (.int .i64 a3) rfl (x_move) ?_
 obtain ⟨x15, hx16, hm⟩ := bndE hm
 refine OW.cons (OP.call rfl (x_call (vs := [(.agg #[(.int .i64 a0.Boats), v1, v3]), v5, (.int .i64 a2), (.int .i64 a3)]) Try_C62 ⟨rfl, rfl, rfl, rfl, trivial⟩) (M.impl_compareBoats_ok _ a0 (hL.rdS 1 rfl h2) (hL.rdS 1 rfl h4) a1 (hL.rdS 1 rfl h6) a2 a3 hx16) ?_)
 rintro e17 wd18 ⟨rfl, hF19⟩
 refine ⟨_, rfl, ?_⟩
 have hL := hL.pushAll hF19
 simp only [lA, lB, lC, lD] at hL
 refine OV (.tuple #[(.int .i64 x15.1), (.int .i64 x15.2.1), (.int .i64 x15.2.2)]) rfl (x_move) ?_
 refine OV (.int .i64 x15.1) rfl (x_extract rfl rfl) ?_
 refine OV (.int .i64 x15.2.1) rfl (x_extract rfl rfl) ?_
 refine OV (.int .i64 x15.2.2) rfl (x_extract rfl rfl) ?_
 refine OV (.int .i64 x15.1) rfl (x_assign) ?_
 refine OV (.int .i64 x15.2.1) rfl (x_assign) ?_
 refine OV (.int .i64 x15.2.2) rfl (x_assign) ?_
 refine ONR ?_
 refine OV (.int .i64 x15.1) rfl (x_move) ?_
 refine OV (.int .i64 x15.2.1) rfl (x_move) ?_
 refine OV (.int .i64 x15.1) rfl (x_assign) ?_
 refine OV (.int .i64 x15.2.1) rfl (x_assign) ?_
 refine OV (.int .i64 0) rfl (x_assign) ?_
 refine OW.nil ?_
 refine CW.ret ?_
 obtain rfl := Option.some.inj hm
 exact RR3 rfl rfl rfl rfl ⟨rfl, hL.fresh 1 rfl [] (by decide) (by decide) rfl⟩

theorem M.laws_big_ok (w0 : World) (a0 : List UInt8) {v1 : Value} (h2 : rdL (· < w0.heap.size) w0 v1 a0) {r : Bool} (hm : M.laws_big a0 = some r) :
    Calls Try.prog 36 #[v1] w0 fun e w' => e = .returned (.bool r) ∧ Fresh w0 w' [] := by
 unfold M.laws_big at hm
 refine calls_CW (args := [v1]) Try.func36 rfl rfl rfl ?_
 have hL := Hp.start w0
 refine CSR ?_
 refine OV (.bool false) rfl (x_assign) ?_
 refine ONR ?_
 refine OV v1 rfl (x_move) ?_
 refine OV (.int .i64 (a0.length : Int)) rfl (x_lenR U47 rfl (hL.rdS 0 rfl h2)) ?_
 refine OV (.bool (decide (4096 < (a0.length : Int)))) rfl (x_gtr rfl rfl) ?_
 refine OV (.bool (decide (4096 < (a0.length : Int)))) rfl (x_assign) ?_
 refine OW.nil ?_
 refine CW.ret ?_
 obtain rfl := Option.some.inj hm
 exact RR1 rfl rfl ⟨rfl, hL.fresh 0 rfl [] (by decide) (by decide) rfl⟩

theorem M.spec_l01From_ok (w0 : World) (a0 : List UInt8) {v1 : Value} (h2 : rdL (· < w0.heap.size) w0 v1 a0) {r : (Int × Int)} (hm : M.spec_l01From a0 = some r) :
    Calls Try.prog 84 #[v1] w0 fun e w' => ∃ rb : Nat, e = .returned (.pointer (some ⟨rb, 0, none⟩)) ∧ Fresh w0 w' [Ent.blk rb 90 #[v1, .int .i64 r.1, .int .i64 r.2]] := by
 unfold M.spec_l01From at hm
 refine calls_CW (args := [v1]) Try.func84 rfl rfl rfl ?_
 have hL := Hp.start w0
 refine CSR ?_
 refine OV (.pointer none) rfl (x_assign) ?_
 refine ONR ?_
 refine OV v1 rfl (x_move) ?_
 refine OV (.agg #[v1, (.int .i64 0), (.int .i64 61657)]) rfl (x_build Try_B90 (ps := [(0, v1), (2, (.int .i64 61657))]) ⟨⟨rfl, rfl⟩, ⟨rfl, rfl⟩, trivial⟩ (by simp [Instr.fill, cells_int, cells_bool, cells_string, cells_agg, cells_slice, cells_pointer, (rdL_cells (hL.rdS 0 rfl h2))])) ?_
 refine OW.cons (S_box (cs := #[v1, (.int .i64 0), (.int .i64 61657)]) hL rfl rfl rfl ?_)
 intro wd3 b4 hL
 refine OV (.pointer (some ⟨b4, 0, none⟩)) rfl (x_assign) ?_
 refine ONS ?_
 refine CSR ?_
 refine OV (.int .i64 0) rfl (x_assign) ?_
 refine OW.nil ?_
 obtain ⟨o57, ho58, hm⟩ := bndE hm
 refine CW.loopB (fun (s_l1 : Int × Int) (F : Fr) (w : World) => F 0 = v1 ∧ F 3 = (.pointer (some ⟨b4, 0, none⟩)) ∧ F 4 = (.int .i64 s_l1.2) ∧ Hp w0 [Ent.blk b4 90 #[v1, (.int .i64 0), (.int .i64 s_l1.1)], Ent.snap w0 w0.heap.size] w) (fun o => outc o (fun x => some x) (fun s => M.spec_l01From_a1 s) = some r) ho58 hm ⟨rfl, rfl, rfl, hL⟩ ?_ ?_
 · intro s_l1 F59 wd60 hJ hm
   have hm := outcE hm
   have hm : M.spec_l01From_a1 s_l1 = some r := hm
   unfold M.spec_l01From_a1 at hm
   obtain ⟨f61, f62, f63, hL⟩ := hJ
   refine CSR ?_
   refine OV (.pointer (some ⟨b4, 0, none⟩)) rfl (x_mv f62) ?_
   refine OV (.pointer (some ⟨b4, 0, none⟩)) rfl (x_assign) ?_
   refine OW.nil ?_
   refine CW.ret ?_
   obtain rfl := Option.some.inj hm
   exact RR1 rfl rfl ⟨b4, rfl, hL.fresh 1 rfl [0] (by decide) (by decide) rfl⟩
 intro s_l1 F64 wd65 t55 hJ hm hr56
 unfold M.spec_l01From_l1 at hm
 obtain ⟨f66, f67, f68, hL⟩ := hJ
 refine CW.seq ?_
 refine CW.seqJ (fun (s_j1 : Bool) (F : Fr) (w : World) => F 0 = v1 ∧ F 3 = (.pointer (some ⟨b4, 0, none⟩)) ∧ F 4 = (.int .i64 s_l1.2) ∧ F 15 = (.bool s_j1) ∧ Hp w0 [Ent.blk b4 90 #[v1, (.int .i64 0), (.int .i64 s_l1.1)], Ent.snap w0 w0.heap.size] w) (fun s_j1 => M.spec_l01From_j1 a0 s_l1 s_j1 = some t55) ?_ ?_
 · refine CW.regionL ?_
   refine OV (.int .i64 s_l1.2) rfl (x_mv f68) ?_
   refine OV v1 rfl (x_mv f66) ?_
   refine OV (.int .i64 (a0.length : Int)) rfl (x_lenR U47 rfl (hL.rdS 1 rfl h2)) ?_
   refine OV (.bool (decide (s_l1.2 < (a0.length : Int)))) rfl (x_lss rfl rfl) ?_
   refine OV (.bool (decide (s_l1.2 < (a0.length : Int)))) rfl (x_move) ?_
   refine ifB_elim hm (fun hb93 hm => ?_) (fun hb93 hm => ?_)
   · refine OW.cons (OP.yes' rfl rfl hb93 (OP.val (v := (.int .i64 s_l1.2)) rfl (x_mv f68) ?_))
     refine OW.cons (OP.yes' rfl rfl hb93 (OP.val (v := (.bool (decide (s_l1.2 < 64)))) rfl (x_lss rfl rfl) ?_))
     refine OV (.bool (decide (s_l1.2 < 64))) rfl (x_pickT' rfl hb93 rfl) ?_
     refine OW.nil ?_
     exact ⟨decide (s_l1.2 < 64), hm, ⟨f66, f67, f68, rfl, hL⟩⟩
   refine OW.cons (OP.no' rfl rfl hb93 rfl ?_)
   refine OW.cons (OP.no' rfl rfl hb93 rfl ?_)
   refine OV (.bool false) rfl (x_pickF' rfl hb93 rfl) ?_
   refine OW.nil ?_
   exact ⟨false, hm, ⟨f66, f67, f68, rfl, hL⟩⟩
 intro s_j1 F70 wd71 hJ hm
 unfold M.spec_l01From_j1 at hm
 obtain ⟨f72, f73, f74, f75, hL⟩ := hJ
 refine CW.condM (t := s_j1) f75 hm (fun hb76 hm => ?_) (fun hb76 hm => ?_)
 · refine CW.skip ?_
   refine CW.seq ?_
   refine CW.block ?_
   refine CW.drawH (fun w' => Hp w0 [Ent.snap w0 w0.heap.size] w') Try_mixed ?_
   have hL := hL.call (Mod.drew _)
   have hS := (hL.sel [1] (by decide) rfl)
   refine DH.take 0 rfl (by kernel_rfl) (by kernel_rfl) (by kernel_rfl) rfl rfl hS (YH.val (v := (.pointer (some ⟨b4, 0, none⟩))) (fun w' hS' => x_mv f73)) ?_
   have hS := (hL.sel [1] (by decide) rfl)
   refine DH.take 1 rfl (by kernel_rfl) (by kernel_rfl) (by kernel_rfl) rfl rfl hS (YH.val (v := (.pointer (some ⟨b4, 0, none⟩))) (fun w' hS' => x_mv f73)) ?_
   have hS := (hL.sel [1] (by decide) rfl)
   refine DH.take 2 rfl (by kernel_rfl) (by kernel_rfl) (by kernel_rfl) rfl rfl hS (YH.val (v := (.pointer (some ⟨b4, 0, none⟩))) (fun w' hS' => x_nilCheck rfl)) ?_
   have hS := (hL.sel [1] (by decide) rfl)
   refine DH.take 3 rfl (by kernel_rfl) (by kernel_rfl) (by kernel_rfl) rfl rfl hS (YH.val (v := (.pointer (some ⟨b4, 2, none⟩))) (fun w' hS' => x_fieldAddr (fsz := 1) 0 2 2 U90 rfl Try_T2 rfl rfl rfl)) ?_
   have hS := (hL.sel [1] (by decide) rfl)
   refine DH.take 6 rfl (by kernel_rfl) (by kernel_rfl) (by kernel_rfl) rfl rfl hS (YH.val (v := v1) (fun w' hS' => x_mv f72)) ?_
   have hS := (hL.sel [1] (by decide) rfl)
   refine DH.take 7 rfl (by kernel_rfl) (by kernel_rfl) (by kernel_rfl) rfl rfl hS (YH.val (v := (.int .i64 s_l1.2)) (fun w' hS' => x_mv f74)) ?_
   have hS := (hL.sel [1] (by decide) rfl)
   obtain ⟨x85, ha86, hm⟩ := bndE hm
   obtain ⟨hz87, ha91⟩ := idxE ha86
   obtain ⟨b88, q89, hix90⟩ := rdL_ix (hL.rdS 1 rfl h2) hz87 ha91
   refine DH.take 8 rfl (by kernel_rfl) (by kernel_rfl) (by kernel_rfl) rfl rfl hS (YH.val (v := (.pointer (some ⟨b88, q89, none⟩))) (fun w' hS' => x_ix U47 Try_T5 rfl rfl hix90)) ?_
   have hS := (hL.sel [1] (by decide) rfl)
   refine DH.take 9 rfl (by kernel_rfl) (by kernel_rfl) (by kernel_rfl) rfl rfl hS (YH.val (v := (.int .u8 (x85.toNat : Int))) (fun w' hS' => x_load1 U5 rfl rfl (rdF_cells (hS'.rdS 0 rfl h2) hix90 ha91 0 _ rfl))) ?_
   have hS := (hL.sel [1] (by decide) rfl)
   refine DH.take 10 rfl (by kernel_rfl) (by kernel_rfl) (by kernel_rfl) rfl rfl hS (YH.val (v := (.int .i64 (IntKind.i64.wrap (x85.toNat : Int)))) (fun w' hS' => x_conv U5 U2 rfl)) ?_
   refine DH.only 4 rfl (by kernel_rfl) (OP.val (v := (.int .i64 s_l1.1)) rfl (x_load1 U2 rfl rfl (hL.cellB 0 rfl rfl)) ?_)
   refine ⟨(hL.sel [1] (by decide) rfl), ?_⟩
   have hS := (hL.sel [1] (by decide) rfl)
   refine DH.take 5 rfl (by kernel_rfl) (by kernel_rfl) (by kernel_rfl) rfl rfl hS (YH.val (v := (.int .i64 (w64 (s_l1.1 * 53)))) (fun w' hS' => x_mul rfl rfl)) ?_
   have hS := (hL.sel [1] (by decide) rfl)
   refine DH.take 11 rfl (by kernel_rfl) (by kernel_rfl) (by kernel_rfl) rfl rfl hS (YH.val (v := (.int .i64 (w64 ((w64 (s_l1.1 * 53)) + (IntKind.i64.wrap (x85.toNat : Int)))))) (fun w' hS' => x_add rfl rfl)) ?_
   have hS := (hL.sel [1] (by decide) rfl)
   refine DH.take 12 rfl (by kernel_rfl) (by kernel_rfl) (by kernel_rfl) rfl rfl hS (YH.val (v := (.int .i64 ((w64 ((w64 (s_l1.1 * 53)) + (IntKind.i64.wrap (x85.toNat : Int)))).tmod 2147483647))) (fun w' hS' => x_rem rfl rfl (by decide))) ?_
   have hS := (hL.sel [1] (by decide) rfl)
   refine DH.take 13 rfl (by kernel_rfl) (by kernel_rfl) (by kernel_rfl) rfl rfl hS (YH.val (v := (.pointer (some ⟨b4, 0, none⟩))) (fun w' hS' => x_nilCheck rfl)) ?_
   have hS := (hL.sel [1] (by decide) rfl)
   refine DH.take 14 rfl (by kernel_rfl) (by kernel_rfl) (by kernel_rfl) rfl rfl hS (YH.val (v := (.pointer (some ⟨b4, 2, none⟩))) (fun w' hS' => x_fieldAddr (fsz := 1) 0 2 2 U90 rfl Try_T2 rfl rfl rfl)) ?_
   refine DH.only 15 rfl (by kernel_rfl) (S_store (cs' := #[v1, (.int .i64 0), (.int .i64 ((w64 ((w64 (s_l1.1 * 53)) + (IntKind.i64.wrap (x85.toNat : Int)))).tmod 2147483647))]) hL 0 rfl Try_T2 rfl rfl rfl rfl rfl ?_)
   intro wd92 hL
   refine ⟨(hL.sel [1] (by decide) rfl), ?_⟩
   refine DH.done (by kernel_rfl) ?_
   refine CW.regionL ?_
   refine OV (.int .i64 s_l1.2) rfl (x_mv f74) ?_
   refine OV (.int .i64 (w64 (s_l1.2 + 1))) rfl (x_add rfl rfl) ?_
   refine OV (.int .i64 (w64 (s_l1.2 + 1))) rfl (x_assign) ?_
   refine OW.nil ?_
   obtain rfl := Option.some.inj hm
   exact ⟨_, rfl, ⟨f72, f73, rfl, hL⟩⟩
 refine CW.exit ?_
 refine XJ.hit ?_
 obtain rfl := Option.some.inj hm
 exact ⟨_, rfl, ⟨f72, f73, f74, hL⟩⟩

theorem M.spec_l01Next_ok (w0 : World) {b1 : Nat} {v2 : Value} (a0 : Src) (h3 : rdL (fun k => k < w0.heap.size ∧ ¬ (Ent.blk b1 90 #[v2, .int .i64 a0.at_, .int .i64 a0.seed]).S k) w0 v2 a0.code) (he4 : (Ent.blk b1 90 #[v2, .int .i64 a0.at_, .int .i64 a0.seed]).H w0) (a1 : Int) {r : (Int) × (Int × Int)} (hm : M.spec_l01Next a0 a1 = some r) :
    Calls Try.prog 86 #[(.pointer (some ⟨b1, 0, none⟩)), (.int .i64 a1)] w0 fun e w' => e = .returned (.int .i64 r.1) ∧ Mut w0 w' (Ent.blk b1 90 #[v2, .int .i64 a0.at_, .int .i64 a0.seed]).S [Ent.blk b1 90 #[v2, .int .i64 r.2.1, .int .i64 r.2.2]] := by
 unfold M.spec_l01Next at hm
 refine calls_CW (args := [(.pointer (some ⟨b1, 0, none⟩)), (.int .i64 a1)]) Try.func86 rfl rfl rfl ?_
 have hL := Hp.startIO he4
 refine CSR ?_
 refine OV (.int .i64 0) rfl (x_assign) ?_
 refine ONS ?_
 refine CSR ?_
 refine OV (.int .i64 a1) rfl (x_move) ?_
 refine OV (.bool (decide (a1 ≤ 1))) rfl (x_leq rfl rfl) ?_
 refine OW.nil ?_
 refine CW.condM (t := decide (a1 ≤ 1)) rfl hm (fun hb5 hm => ?_) (fun hb5 hm => ?_)
 · refine CSR ?_
   refine OV (.int .i64 0) rfl (x_assign) ?_
   refine OW.nil ?_
   refine CW.ret ?_
   obtain rfl := Option.some.inj hm
   exact RR1 rfl rfl ⟨rfl, hL.mutOut 1 rfl [0] (by decide) (by decide) rfl⟩
 refine CW.skip ?_
 refine CSR ?_
 refine OV (.pointer (some ⟨b1, 0, none⟩)) rfl (x_move) ?_
 refine OV (.pointer (some ⟨b1, 0, none⟩)) rfl (x_move) ?_
 refine OV (.pointer (some ⟨b1, 0, none⟩)) rfl (x_nilCheck rfl) ?_
 refine OV (.pointer (some ⟨b1, 2, none⟩)) rfl (x_fieldAddr (fsz := 1) 0 2 2 U90 rfl Try_T2 rfl rfl rfl) ?_
 refine OV (.int .i64 a0.seed) rfl (x_load1 U2 rfl rfl (hL.cellB 0 rfl rfl)) ?_
 refine OV (.int .i64 (w64 (a0.seed * 48271))) rfl (x_mul rfl rfl) ?_
 refine OV (.int .i64 (w64 ((w64 (a0.seed * 48271)) + 23))) rfl (x_add rfl rfl) ?_
 refine OV (.int .i64 ((w64 ((w64 (a0.seed * 48271)) + 23)).tmod 2147483647)) rfl (x_rem rfl rfl (by decide)) ?_
 refine OV (.pointer (some ⟨b1, 0, none⟩)) rfl (x_nilCheck rfl) ?_
 refine OV (.pointer (some ⟨b1, 2, none⟩)) rfl (x_fieldAddr (fsz := 1) 0 2 2 U90 rfl Try_T2 rfl rfl rfl) ?_
 refine OW.cons (S_store (cs' := #[v2, (.int .i64 a0.at_), (.int .i64 ((w64 ((w64 (a0.seed * 48271)) + 23)).tmod 2147483647))]) hL 0 rfl Try_T2 rfl rfl rfl rfl rfl ?_)
 intro wd6 hL
 refine ONR ?_
 refine OV (.pointer (some ⟨b1, 0, none⟩)) rfl (x_move) ?_
 refine OV (.pointer (some ⟨b1, 0, none⟩)) rfl (x_nilCheck rfl) ?_
 refine OV (.pointer (some ⟨b1, 2, none⟩)) rfl (x_fieldAddr (fsz := 1) 0 2 2 U90 rfl Try_T2 rfl rfl rfl) ?_
 refine OV (.int .i64 ((w64 ((w64 (a0.seed * 48271)) + 23)).tmod 2147483647)) rfl (x_load1 U2 rfl rfl (hL.cellB 0 rfl rfl)) ?_
 refine OV (.int .i64 (w64 (((w64 ((w64 (a0.seed * 48271)) + 23)).tmod 2147483647).tdiv 17))) rfl (x_quo rfl rfl (by decide)) ?_
 refine OV (.int .i64 (w64 (((w64 ((w64 (a0.seed * 48271)) + 23)).tmod 2147483647).tdiv 17))) rfl (x_assign) ?_
 refine OW.nil ?_
 refine CW.seqJ (fun (s_j1 : Int × Int) (F : Fr) (w : World) => F 1 = (.int .i64 a1) ∧ F 5 = (.int .i64 s_j1.2) ∧ Hp w0 [Ent.blk b1 90 #[v2, (.int .i64 s_j1.1), (.int .i64 ((w64 ((w64 (a0.seed * 48271)) + 23)).tmod 2147483647))], Ent.frz w0 (Ent.blk b1 90 #[v2, .int .i64 a0.at_, .int .i64 a0.seed]).S] w) (fun s_j1 => M.spec_l01Next_j1 a0 a1 s_j1 = some r) ?_ ?_
 · refine CW.seq ?_
   refine CW.draw Try_mixed ?_
   have hL := hL.call (Mod.drew _)
   refine DW.pre (fuel := 0) (fin := bma 10 1023) (C := fun w' => Mod None_ _ w') [0, 1, 2, 3, 4, 5, 6, 7, 8, 9] (Mod.refl _ _) (by kernel_rfl) (by kernel_rfl) ?_
   refine QW.cons rfl (QP.val (v := (.pointer (some ⟨b1, 0, none⟩))) rfl (fun w' hm' => x_move) ?_)
   refine QW.cons rfl (QP.val (v := (.pointer (some ⟨b1, 0, none⟩))) rfl (fun w' hm' => x_nilCheck rfl) ?_)
   refine QW.cons rfl (QP.val (v := (.pointer (some ⟨b1, 1, none⟩))) rfl (fun w' hm' => x_fieldAddr (fsz := 1) 0 1 1 U90 rfl Try_T3 rfl rfl rfl) ?_)
   refine QW.cons rfl (QP.val (v := (.int .i64 a0.at_)) rfl (fun w' hm' => x_load1 U3 rfl rfl ((hL.call hm').cellB 0 rfl rfl)) ?_)
   refine QW.cons rfl (QP.val (v := (.pointer (some ⟨b1, 0, none⟩))) rfl (fun w' hm' => x_move) ?_)
   refine QW.cons rfl (QP.val (v := (.pointer (some ⟨b1, 0, none⟩))) rfl (fun w' hm' => x_nilCheck rfl) ?_)
   refine QW.cons rfl (QP.val (v := (.pointer (some ⟨b1, 0, none⟩))) rfl (fun w' hm' => x_fieldAddr (fsz := 1) 0 0 0 U90 rfl Try_T47 rfl rfl rfl) ?_)
   refine QW.cons rfl (QP.val (v := v2) rfl (fun w' hm' => x_load1 U47 rfl rfl ((hL.call hm').cellB 0 rfl rfl)) ?_)
   refine QW.cons rfl (QP.val (v := (.int .i64 (a0.code.length : Int))) rfl (fun w' hm' => x_lenR U47 rfl ((hL.call hm').rdZ 1 rfl h3)) ?_)
   refine QW.cons rfl (QP.val (v := (.bool (decide (a0.at_ < (a0.code.length : Int))))) rfl (fun w' hm' => x_lss rfl rfl) ?_)
   refine QW.nil ?_
   intro wd40 hmod
   have hL := hL.call hmod
   refine DW.done (by kernel_rfl) ?_
   refine CW.condM (t := decide (a0.at_ < (a0.code.length : Int))) rfl hm (fun hb41 hm => ?_) (fun hb41 hm => ?_)
   · refine CW.seq ?_
     refine CW.draw Try_mixed ?_
     have hL := hL.call (Mod.drew _)
     refine DW.pre (fuel := 0) (fin := bma 14 16383) (C := fun w' => Mod None_ _ w') [0, 1, 2, 3, 4, 5, 6, 7, 8, 9, 10, 11, 12, 13] (Mod.refl _ _) (by kernel_rfl) (by kernel_rfl) ?_
     refine QW.cons rfl (QP.val (v := (.int .i64 (w64 (((w64 ((w64 (a0.seed * 48271)) + 23)).tmod 2147483647).tdiv 17)))) rfl (fun w' hm' => x_move) ?_)
     refine QW.cons rfl (QP.val (v := (.pointer (some ⟨b1, 0, none⟩))) rfl (fun w' hm' => x_move) ?_)
     refine QW.cons rfl (QP.val (v := (.pointer (some ⟨b1, 0, none⟩))) rfl (fun w' hm' => x_nilCheck rfl) ?_)
     refine QW.cons rfl (QP.val (v := (.pointer (some ⟨b1, 0, none⟩))) rfl (fun w' hm' => x_fieldAddr (fsz := 1) 0 0 0 U90 rfl Try_T47 rfl rfl rfl) ?_)
     refine QW.cons rfl (QP.val (v := v2) rfl (fun w' hm' => x_load1 U47 rfl rfl ((hL.call hm').cellB 0 rfl rfl)) ?_)
     refine QW.cons rfl (QP.val (v := (.pointer (some ⟨b1, 0, none⟩))) rfl (fun w' hm' => x_move) ?_)
     refine QW.cons rfl (QP.val (v := (.pointer (some ⟨b1, 0, none⟩))) rfl (fun w' hm' => x_nilCheck rfl) ?_)
     refine QW.cons rfl (QP.val (v := (.pointer (some ⟨b1, 1, none⟩))) rfl (fun w' hm' => x_fieldAddr (fsz := 1) 0 1 1 U90 rfl Try_T3 rfl rfl rfl) ?_)
     refine QW.cons rfl (QP.val (v := (.int .i64 a0.at_)) rfl (fun w' hm' => x_load1 U3 rfl rfl ((hL.call hm').cellB 0 rfl rfl)) ?_)
     obtain ⟨x42, ha43, hm⟩ := bndE hm
     obtain ⟨hz44, ha48⟩ := idxE ha43
     obtain ⟨b45, q46, hix47⟩ := rdL_ix (hL.rdZ 1 rfl h3) hz44 ha48
     refine QW.cons rfl (QP.val (v := (.pointer (some ⟨b45, q46, none⟩))) rfl (fun w' hm' => x_ix U47 Try_T5 rfl rfl hix47) ?_)
     refine QW.cons rfl (QP.val (v := (.int .u8 (x42.toNat : Int))) rfl (fun w' hm' => x_load1 U5 rfl rfl (rdF_cells ((hL.call hm').rdZ 1 rfl h3) hix47 ha48 0 _ rfl)) ?_)
     refine QW.cons rfl (QP.val (v := (.int .i64 (IntKind.i64.wrap (x42.toNat : Int)))) rfl (fun w' hm' => x_conv U5 U2 rfl) ?_)
     refine QW.cons rfl (QP.val (v := (.int .i64 (w64 ((w64 (((w64 ((w64 (a0.seed * 48271)) + 23)).tmod 2147483647).tdiv 17)) + (IntKind.i64.wrap (x42.toNat : Int)))))) rfl (fun w' hm' => x_add rfl rfl) ?_)
     refine QW.cons rfl (QP.val (v := (.int .i64 (w64 ((w64 (((w64 ((w64 (a0.seed * 48271)) + 23)).tmod 2147483647).tdiv 17)) + (IntKind.i64.wrap (x42.toNat : Int)))))) rfl (fun w' hm' => x_assign) ?_)
     refine QW.nil ?_
     intro wd49 hmod
     have hL := hL.call hmod
     refine DW.done (by kernel_rfl) ?_
     refine CSR ?_
     refine OV (.pointer (some ⟨b1, 0, none⟩)) rfl (x_move) ?_
     refine OV (.pointer (some ⟨b1, 0, none⟩)) rfl (x_nilCheck rfl) ?_
     refine OV (.pointer (some ⟨b1, 1, none⟩)) rfl (x_fieldAddr (fsz := 1) 0 1 1 U90 rfl Try_T3 rfl rfl rfl) ?_
     refine OV (.int .i64 a0.at_) rfl (x_load1 U3 rfl rfl (hL.cellB 0 rfl rfl)) ?_
     refine OV (.int .i64 (w64 (a0.at_ + 1))) rfl (x_add rfl rfl) ?_
     refine OV (.pointer (some ⟨b1, 0, none⟩)) rfl (x_nilCheck rfl) ?_
     refine OV (.pointer (some ⟨b1, 1, none⟩)) rfl (x_fieldAddr (fsz := 1) 0 1 1 U90 rfl Try_T3 rfl rfl rfl) ?_
     refine OW.cons (S_store (cs' := #[v2, (.int .i64 (w64 (a0.at_ + 1))), (.int .i64 ((w64 ((w64 (a0.seed * 48271)) + 23)).tmod 2147483647))]) hL 0 rfl Try_T3 rfl rfl rfl rfl rfl ?_)
     intro wd50 hL
     refine OW.nil ?_
     refine CW.seqJ (fun (s_j2 : Bool) (F : Fr) (w : World) => F 0 = (.pointer (some ⟨b1, 0, none⟩)) ∧ F 1 = (.int .i64 a1) ∧ F 5 = (.int .i64 (w64 ((w64 (((w64 ((w64 (a0.seed * 48271)) + 23)).tmod 2147483647).tdiv 17)) + (IntKind.i64.wrap (x42.toNat : Int))))) ∧ F 62 = (.bool s_j2) ∧ Hp w0 [Ent.blk b1 90 #[v2, (.int .i64 (w64 (a0.at_ + 1))), (.int .i64 ((w64 ((w64 (a0.seed * 48271)) + 23)).tmod 2147483647))], Ent.frz w0 (Ent.blk b1 90 #[v2, .int .i64 a0.at_, .int .i64 a0.seed]).S] w) (fun s_j2 => M.spec_l01Next_j2 a0 a1 x42 s_j2 = some r) ?_ ?_
     · refine CW.regionL ?_
       refine OV (.int .i64 a1) rfl (x_move) ?_
       refine OV (.bool (decide (a1 ≤ 256))) rfl (x_leq rfl rfl) ?_
       refine OV (.bool (decide (a1 ≤ 256))) rfl (x_move) ?_
       refine ifB_elim hm (fun hb67 hm => ?_) (fun hb67 hm => ?_)
       · refine OW.cons (OP.yes' rfl rfl hb67 (OP.val (v := (.pointer (some ⟨b1, 0, none⟩))) rfl (x_move) ?_))
         refine OW.cons (OP.yes' rfl rfl hb67 (OP.val (v := (.pointer (some ⟨b1, 0, none⟩))) rfl (x_nilCheck rfl) ?_))
         refine OW.cons (OP.yes' rfl rfl hb67 (OP.val (v := (.pointer (some ⟨b1, 1, none⟩))) rfl (x_fieldAddr (fsz := 1) 0 1 1 U90 rfl Try_T3 rfl rfl rfl) ?_))
         refine OW.cons (OP.yes' rfl rfl hb67 (OP.val (v := (.int .i64 (w64 (a0.at_ + 1)))) rfl (x_load1 U3 rfl rfl (hL.cellB 0 rfl rfl)) ?_))
         refine OW.cons (OP.yes' rfl rfl hb67 (OP.val (v := (.int .i64 ((w64 (a0.at_ + 1)).tmod 2))) rfl (x_rem rfl rfl (by decide)) ?_))
         refine OW.cons (OP.yes' rfl rfl hb67 (OP.val (v := (.bool (((w64 (a0.at_ + 1)).tmod 2) == 0))) rfl (x_eql rfl rfl) ?_))
         refine OV (.bool (((w64 (a0.at_ + 1)).tmod 2) == 0)) rfl (x_pickT' rfl hb67 rfl) ?_
         refine OW.nil ?_
         exact ⟨((w64 (a0.at_ + 1)).tmod 2) == 0, hm, ⟨rfl, rfl, rfl, rfl, hL⟩⟩
       refine OW.cons (OP.no' rfl rfl hb67 rfl ?_)
       refine OW.cons (OP.no' rfl rfl hb67 rfl ?_)
       refine OW.cons (OP.no' rfl rfl hb67 rfl ?_)
       refine OW.cons (OP.no' rfl rfl hb67 rfl ?_)
       refine OW.cons (OP.no' rfl rfl hb67 rfl ?_)
       refine OW.cons (OP.no' rfl rfl hb67 rfl ?_)
       refine OV (.bool false) rfl (x_pickF' rfl hb67 rfl) ?_
       refine OW.nil ?_
       exact ⟨false, hm, ⟨rfl, rfl, rfl, rfl, hL⟩⟩
     intro s_j2 F52 wd53 hJ hm
     unfold M.spec_l01Next_j2 at hm
     obtain ⟨f54, f55, f56, f57, hL⟩ := hJ
     refine CW.condM (t := s_j2) f57 hm (fun hb58 hm => ?_) (fun hb58 hm => ?_)
     · refine CW.draw Try_mixed ?_
       have hL := hL.call (Mod.drew _)
       refine DW.pre (fuel := 0) (fin := bma 13 8191) (C := fun w' => Mod None_ _ w') [0, 1, 2, 3, 4, 5, 6, 7, 8, 9, 10, 11, 12] (Mod.refl _ _) (by kernel_rfl) (by kernel_rfl) ?_
       refine QW.cons rfl (QP.val (v := (.pointer (some ⟨b1, 0, none⟩))) rfl (fun w' hm' => x_mv f54) ?_)
       refine QW.cons rfl (QP.val (v := (.pointer (some ⟨b1, 0, none⟩))) rfl (fun w' hm' => x_nilCheck rfl) ?_)
       refine QW.cons rfl (QP.val (v := (.pointer (some ⟨b1, 0, none⟩))) rfl (fun w' hm' => x_fieldAddr (fsz := 1) 0 0 0 U90 rfl Try_T47 rfl rfl rfl) ?_)
       refine QW.cons rfl (QP.val (v := v2) rfl (fun w' hm' => x_load1 U47 rfl rfl ((hL.call hm').cellB 0 rfl rfl)) ?_)
       refine QW.cons rfl (QP.val (v := (.pointer (some ⟨b1, 0, none⟩))) rfl (fun w' hm' => x_mv f54) ?_)
       refine QW.cons rfl (QP.val (v := (.pointer (some ⟨b1, 0, none⟩))) rfl (fun w' hm' => x_nilCheck rfl) ?_)
       refine QW.cons rfl (QP.val (v := (.pointer (some ⟨b1, 1, none⟩))) rfl (fun w' hm' => x_fieldAddr (fsz := 1) 0 1 1 U90 rfl Try_T3 rfl rfl rfl) ?_)
       refine QW.cons rfl (QP.val (v := (.int .i64 (w64 (a0.at_ + 1)))) rfl (fun w' hm' => x_load1 U3 rfl rfl ((hL.call hm').cellB 0 rfl rfl)) ?_)
       refine QW.cons rfl (QP.val (v := (.int .i64 (w64 ((w64 (a0.at_ + 1)) - 1)))) rfl (fun w' hm' => x_sub rfl rfl) ?_)
       obtain ⟨x59, ha60, hm⟩ := bndE hm
       obtain ⟨hz61, ha65⟩ := idxE ha60
       obtain ⟨b62, q63, hix64⟩ := rdL_ix (hL.rdZ 1 rfl h3) hz61 ha65
       refine QW.cons rfl (QP.val (v := (.pointer (some ⟨b62, q63, none⟩))) rfl (fun w' hm' => x_ix U47 Try_T5 rfl rfl hix64) ?_)
       refine QW.cons rfl (QP.val (v := (.int .u8 (x59.toNat : Int))) rfl (fun w' hm' => x_load1 U5 rfl rfl (rdF_cells ((hL.call hm').rdZ 1 rfl h3) hix64 ha65 0 _ rfl)) ?_)
       refine QW.cons rfl (QP.val (v := (.int .i64 (IntKind.i64.wrap (x59.toNat : Int)))) rfl (fun w' hm' => x_conv U5 U2 rfl) ?_)
       refine QW.cons rfl (QP.val (v := (.int .i64 (IntKind.i64.wrap (x59.toNat : Int)))) rfl (fun w' hm' => x_assign) ?_)
       refine QW.nil ?_
       intro wd66 hmod
       have hL := hL.call hmod
       refine DW.done (by kernel_rfl) ?_
       exact ⟨(w64 (a0.at_ + 1), IntKind.i64.wrap (x59.toNat : Int)), hm, ⟨f55, rfl, hL⟩⟩
     refine CW.skip ?_
     exact ⟨(w64 (a0.at_ + 1), w64 ((w64 (((w64 ((w64 (a0.seed * 48271)) + 23)).tmod 2147483647).tdiv 17)) + (IntKind.i64.wrap (x42.toNat : Int)))), hm, ⟨f55, f56, hL⟩⟩
   refine CW.skip ?_
   exact ⟨(a0.at_, w64 (((w64 ((w64 (a0.seed * 48271)) + 23)).tmod 2147483647).tdiv 17)), hm, ⟨rfl, rfl, hL⟩⟩
 intro s_j1 F35 wd36 hJ hm
 unfold M.spec_l01Next_j1 at hm
 obtain ⟨f37, f38, hL⟩ := hJ
 refine CSR ?_
 refine OV (.int .i64 s_j1.2) rfl (x_mv f38) ?_
 refine OV (.int .i64 a1) rfl (x_mv f37) ?_
 obtain ⟨hc39, hm⟩ := chkE hm
 refine OV (.int .i64 (s_j1.2.tmod a1)) rfl (x_rem rfl rfl hc39) ?_
 refine OV (.int .i64 (s_j1.2.tmod a1)) rfl (x_assign) ?_
 refine OW.nil ?_
 refine CW.ret ?_
 obtain rfl := Option.some.inj hm
 exact RR1 rfl rfl ⟨rfl, hL.mutOut 1 rfl [0] (by decide) (by decide) rfl⟩

theorem M.spec_l26DrawBoats_ok (w0 : World) {b1 : Nat} {v2 : Value} (a0 : Src) (h3 : rdL (fun k => k < w0.heap.size ∧ ¬ (Ent.blk b1 90 #[v2, .int .i64 a0.at_, .int .i64 a0.seed]).S k) w0 v2 a0.code) (he4 : (Ent.blk b1 90 #[v2, .int .i64 a0.at_, .int .i64 a0.seed]).H w0) {r : (Int) × (Int × Int)} (hm : M.spec_l26DrawBoats a0 = some r) :
    Calls Try.prog 120 #[(.pointer (some ⟨b1, 0, none⟩))] w0 fun e w' => e = .returned (.int .i64 r.1) ∧ Mut w0 w' (Ent.blk b1 90 #[v2, .int .i64 a0.at_, .int .i64 a0.seed]).S [Ent.blk b1 90 #[v2, .int .i64 r.2.1, .int .i64 r.2.2]] := by
 unfold M.spec_l26DrawBoats at hm
 refine calls_CW (args := [(.pointer (some ⟨b1, 0, none⟩))]) Try.func120 rfl rfl rfl ?_
 have hL := Hp.startIO he4
 refine CSR ?_
 refine OV (.int .i64 0) rfl (x_assign) ?_
 refine ONS ?_
 refine CSR ?_
 refine OV (.pointer (some ⟨b1, 0, none⟩)) rfl (x_move) ?_
 obtain ⟨x5, hx6, hm⟩ := bndE hm
 refine OW.cons (OP.call rfl (x_call (vs := [(.pointer (some ⟨b1, 0, none⟩)), (.int .i64 24)]) Try_C86 ⟨rfl, rfl, trivial⟩) (M.spec_l01Next_ok _ (Src.mk a0.code a0.at_ a0.seed) (hL.exZ 1 0 (by decide) rfl rfl h3) (hL.get 0 rfl) 24 hx6) ?_)
 rintro e7 wd8 ⟨rfl, hF9⟩
 refine ⟨_, rfl, ?_⟩
 have hL := hL.mut 0 rfl hF9
 simp only [lA, lB, lC, lD] at hL
 refine OV (.bool (x5.1 == 0)) rfl (x_eql rfl rfl) ?_
 refine OW.nil ?_
 refine CW.condM (t := x5.1 == 0) rfl hm (fun hb10 hm => ?_) (fun hb10 hm => ?_)
 · refine CSR ?_
   refine OV (.pointer (some ⟨b1, 0, none⟩)) rfl (x_move) ?_
   obtain ⟨x11, hx12, hm⟩ := bndE hm
   refine OW.cons (OP.call rfl (x_call (vs := [(.pointer (some ⟨b1, 0, none⟩)), (.int .i64 2)]) Try_C86 ⟨rfl, rfl, trivial⟩) (M.spec_l01Next_ok _ (Src.mk a0.code x5.2.1 x5.2.2) (hL.exZ 1 0 (by decide) rfl rfl h3) (hL.get 0 rfl) 2 hx12) ?_)
   rintro e13 wd14 ⟨rfl, hF15⟩
   refine ⟨_, rfl, ?_⟩
   have hL := hL.mut 0 rfl hF15
   simp only [lA, lB, lC, lD] at hL
   refine OV (.int .i64 (w64 (16 * x11.1))) rfl (x_mul rfl rfl) ?_
   refine OV (.int .i64 (w64 (16 * x11.1))) rfl (x_assign) ?_
   refine OW.nil ?_
   refine CW.ret ?_
   obtain rfl := Option.some.inj hm
   exact RR1 rfl rfl ⟨rfl, hL.mutOut 1 rfl [0] (by decide) (by decide) rfl⟩
 refine CW.skip ?_
 refine CSR ?_
 refine OV (.pointer (some ⟨b1, 0, none⟩)) rfl (x_move) ?_
 obtain ⟨x16, hx17, hm⟩ := bndE hm
 refine OW.cons (OP.call rfl (x_call (vs := [(.pointer (some ⟨b1, 0, none⟩)), (.int .i64 6)]) Try_C86 ⟨rfl, rfl, trivial⟩) (M.spec_l01Next_ok _ (Src.mk a0.code x5.2.1 x5.2.2) (hL.exZ 1 0 (by decide) rfl rfl h3) (hL.get 0 rfl) 6 hx17) ?_)
 rintro e18 wd19 ⟨rfl, hF20⟩
 refine ⟨_, rfl, ?_⟩
 have hL := hL.mut 0 rfl hF20
 simp only [lA, lB, lC, lD] at hL
 refine OV (.int .i64 (w64 (1 + x16.1))) rfl (x_add rfl rfl) ?_
 refine OV (.int .i64 (w64 (1 + x16.1))) rfl (x_assign) ?_
 refine OW.nil ?_
 refine CW.ret ?_
 obtain rfl := Option.some.inj hm
 exact RR1 rfl rfl ⟨rfl, hL.mutOut 1 rfl [0] (by decide) (by decide) rfl⟩

theorem M.spec_l26DrawRace_ok (w0 : World) {b1 : Nat} {v2 : Value} (a0 : Src) (h3 : rdL (fun k => k < w0.heap.size ∧ ¬ (Ent.blk b1 90 #[v2, .int .i64 a0.at_, .int .i64 a0.seed]).S k) w0 v2 a0.code) (he4 : (Ent.blk b1 90 #[v2, .int .i64 a0.at_, .int .i64 a0.seed]).H w0) (a1 : Int) {r : (Race) × (Int × Int)} (hm : M.spec_l26DrawRace a0 a1 = some r) :
    Calls Try.prog 121 #[(.pointer (some ⟨b1, 0, none⟩)), (.int .i64 a1)] w0 fun e w' => ∃ (rv0 : Value) (rS0 : Nat → Prop), e = .returned (.agg #[rv0]) ∧ Mut w0 w' (Ent.blk b1 90 #[v2, .int .i64 a0.at_, .int .i64 a0.seed]).S [Ent.blk b1 90 #[v2, .int .i64 r.2.1, .int .i64 r.2.2], Ent.own 103 rS0 rv0 r.1.Finishes] := by
 unfold M.spec_l26DrawRace at hm
 refine calls_CW (args := [(.pointer (some ⟨b1, 0, none⟩)), (.int .i64 a1)]) Try.func121 rfl rfl rfl ?_
 have hL := Hp.startIO he4
 refine CSR ?_
 refine OW.cons (S_alloc (cs := #[(.slice none 0 0)]) hL Try_T101 rfl rfl ?_)
 intro wd5 b6 hL
 refine ONR ?_
 refine OW.cons (S_lit ([] : List Finish) hL U99 Try_T103 rfl (by decide) (by first | (simp [Instr.fill, madeCells, Value.cells, ev, upd, Flat.enc, Flat.sz]; done) | rfl | kernel_rfl) rfl rfl ?_)
 intro wd7 v8 S9 hL
 refine OV v8 rfl (x_assign) ?_
 refine ONS ?_
 refine CSR ?_
 refine OV (.int .i64 0) rfl (x_assign) ?_
 refine OW.nil ?_
 obtain ⟨o112, ho113, hm⟩ := bndE hm
 refine CW.loopB (fun (s_l1 : Int × Int × (List Finish) × Int) (F : Fr) (w : World) => ∃ (v108 : Value) (S109 : Nat → Prop), F 0 = (.pointer (some ⟨b1, 0, none⟩)) ∧ F 1 = (.int .i64 a1) ∧ F 4 = (.pointer (some ⟨b6, 0, none⟩)) ∧ F 5 = v108 ∧ F 6 = (.int .i64 s_l1.2.2.2) ∧ Hp w0 [Ent.own 103 S109 v108 s_l1.2.2.1, Ent.blk b6 101 #[(.slice none 0 0)], Ent.blk b1 90 #[v2, (.int .i64 s_l1.1), (.int .i64 s_l1.2.1)], Ent.frz w0 (Ent.blk b1 90 #[v2, .int .i64 a0.at_, .int .i64 a0.seed]).S] w) (fun o => outc o (fun x => some x) (fun s => M.spec_l26DrawRace_a1 s) = some r) ho113 hm ⟨v8, S9, rfl, rfl, rfl, rfl, rfl, hL⟩ ?_ ?_
 · intro s_l1 F114 wd115 hJ hm
   have hm := outcE hm
   have hm : M.spec_l26DrawRace_a1 s_l1 = some r := hm
   unfold M.spec_l26DrawRace_a1 at hm
   obtain ⟨v108, S109, f116, f117, f118, f119, f120, hL⟩ := hJ
   refine CSR ?_
   refine OV v108 rfl (x_mv f119) ?_
   refine OV (.agg #[v108]) rfl (x_build Try_B101 (ps := [(0, v108)]) ⟨⟨rfl, rfl⟩, trivial⟩ (by simp [Instr.fill, cells_int, cells_bool, cells_string, cells_agg, cells_slice, cells_pointer, (rdL_cells (hL.rdO 0 rfl))])) ?_
   refine OW.cons (S_storeN (l := [v108]) (cs' := #[v108]) hL 1 rfl Try_T101 f118 rfl (List.forall_mem_cons.2 ⟨rdL_one (hL.rdO 0 rfl), (fun _ h => by cases h)⟩) rfl (Nat.le_of_ble_eq_true rfl) rfl ?_)
   intro wd121 hL
   refine OW.nil ?_
   refine CW.ret ?_
   obtain rfl := Option.some.inj hm
   exact RRc rfl f118 (run_loadBlk U101 Try_T101 (hL.get 1 rfl) rfl) ⟨v108, S109, rfl, hL.mutOut 3 rfl [2, 0] (by decide) (by decide) rfl⟩
 intro s_l1 F122 wd123 t110 hJ hm hr111
 unfold M.spec_l26DrawRace_l1 at hm
 obtain ⟨v108, S109, f124, f125, f126, f127, f128, hL⟩ := hJ
 refine CW.seq ?_
 refine CSR ?_
 refine OV (.int .i64 s_l1.2.2.2) rfl (x_mv f128) ?_
 refine OV (.int .i64 a1) rfl (x_mv f125) ?_
 refine OV (.bool (decide (s_l1.2.2.2 < a1))) rfl (x_lss rfl rfl) ?_
 refine OW.nil ?_
 refine CW.condM (t := decide (s_l1.2.2.2 < a1)) rfl hm (fun hb129 hm => ?_) (fun hb129 hm => ?_)
 · refine CW.skip ?_
   refine CW.seq ?_
   refine CW.block ?_
   refine CSR ?_
   refine OV (.int .i64 s_l1.2.2.2) rfl (x_mv f128) ?_
   refine OV (.pointer (some ⟨b1, 0, none⟩)) rfl (x_mv f124) ?_
   refine OV (.int .i64 a1) rfl (x_mv f125) ?_
   refine OV (.int .i64 (w64 (2 * a1))) rfl (x_mul rfl rfl) ?_
   obtain ⟨x130, hx131, hm⟩ := bndE hm
   refine OW.cons (OP.call rfl (x_call (vs := [(.pointer (some ⟨b1, 0, none⟩)), (.int .i64 (w64 (2 * a1)))]) Try_C86 ⟨rfl, rfl, trivial⟩) (M.spec_l01Next_ok _ (Src.mk a0.code s_l1.1 s_l1.2.1) (hL.exZ 3 2 (by decide) rfl rfl h3) (hL.get 2 rfl) (w64 (2 * a1)) hx131) ?_)
   rintro e132 wd133 ⟨rfl, hF134⟩
   refine ⟨_, rfl, ?_⟩
   have hL := hL.mut 2 rfl hF134
   simp only [lA, lB, lC, lD] at hL
   refine OV (.int .i64 (w64 (1 + x130.1))) rfl (x_add rfl rfl) ?_
   refine OV (.agg #[(.int .i64 s_l1.2.2.2), (.int .i64 0), (.int .i64 (w64 (1 + x130.1)))]) rfl (x_build Try_B103 (ps := [(0, (.int .i64 s_l1.2.2.2)), (2, (.int .i64 (w64 (1 + x130.1))))]) ⟨⟨rfl, rfl⟩, ⟨rfl, rfl⟩, trivial⟩ (by simp [Instr.fill, cells_int, cells_bool, cells_string, cells_agg, cells_slice, cells_pointer])) ?_
   refine OW.cons (S_alloc (cs := #[(.int .i64 0), (.int .i64 0), (.int .i64 0)]) hL Try_T103 rfl rfl ?_)
   intro wd135 b136 hL
   refine OW.cons (S_storeN (l := [(.int .i64 s_l1.2.2.2), (.int .i64 0), (.int .i64 (w64 (1 + x130.1)))]) (cs' := #[(.int .i64 s_l1.2.2.2), (.int .i64 0), (.int .i64 (w64 (1 + x130.1)))]) hL 0 rfl Try_T103 rfl rfl (List.forall_mem_cons.2 ⟨rfl, (List.forall_mem_cons.2 ⟨rfl, (List.forall_mem_cons.2 ⟨rfl, (fun _ h => by cases h)⟩)⟩)⟩) rfl (Nat.le_of_ble_eq_true rfl) rfl ?_)
   intro wd137 hL
   refine OW.nil ?_
   refine CW.seqJ (fun (s_j1 : Int × Int × Int × Int) (F : Fr) (w : World) => F 0 = (.pointer (some ⟨b1, 0, none⟩)) ∧ F 1 = (.int .i64 a1) ∧ F 4 = (.pointer (some ⟨b6, 0, none⟩)) ∧ F 5 = v108 ∧ F 6 = (.int .i64 s_l1.2.2.2) ∧ F 7 = (.pointer (some ⟨b136, 0, none⟩)) ∧ Hp w0 [Ent.blk b136 103 #[(.int .i64 s_l1.2.2.2), (.int .i64 s_j1.2.2.1), (.int .i64 s_j1.2.2.2)], Ent.own 103 S109 v108 s_l1.2.2.1, Ent.blk b6 101 #[(.slice none 0 0)], Ent.blk b1 90 #[v2, (.int .i64 s_j1.1), (.int .i64 s_j1.2.1)], Ent.frz w0 (Ent.blk b1 90 #[v2, .int .i64 a0.at_, .int .i64 a0.seed]).S] w) (fun s_j1 => M.spec_l26DrawRace_j1 s_l1 s_j1 = some t110) ?_ ?_
   · refine CSR ?_
     refine OV (.pointer (some ⟨b1, 0, none⟩)) rfl (x_mv f124) ?_
     obtain ⟨x165, hx166, hm⟩ := bndE hm
     refine OW.cons (OP.call rfl (x_call (vs := [(.pointer (some ⟨b1, 0, none⟩)), (.int .i64 4)]) Try_C86 ⟨rfl, rfl, trivial⟩) (M.spec_l01Next_ok _ (Src.mk a0.code x130.2.1 x130.2.2) (hL.exZ 4 3 (by decide) rfl rfl h3) (hL.get 3 rfl) 4 hx166) ?_)
     rintro e167 wd168 ⟨rfl, hF169⟩
     refine ⟨_, rfl, ?_⟩
     have hL := hL.mut 3 rfl hF169
     simp only [lA, lB, lC, lD] at hL
     refine OV (.bool (x165.1 == 0)) rfl (x_eql rfl rfl) ?_
     refine OW.nil ?_
     refine CW.condM (t := x165.1 == 0) rfl hm (fun hb170 hm => ?_) (fun hb170 hm => ?_)
     · refine CW.regionL ?_
       refine OV (.int .i64 s_l1.2.2.2) rfl (x_mv f128) ?_
       refine OV (.pointer (some ⟨b1, 0, none⟩)) rfl (x_mv f124) ?_
       obtain ⟨x171, hx172, hm⟩ := bndE hm
       refine OW.cons (OP.call rfl (x_call (vs := [(.pointer (some ⟨b1, 0, none⟩)), (.int .i64 9)]) Try_C86 ⟨rfl, rfl, trivial⟩) (M.spec_l01Next_ok _ (Src.mk a0.code x165.2.1 x165.2.2) (hL.exZ 4 3 (by decide) rfl rfl h3) (hL.get 3 rfl) 9 hx172) ?_)
       rintro e173 wd174 ⟨rfl, hF175⟩
       refine ⟨_, rfl, ?_⟩
       have hL := hL.mut 3 rfl hF175
       simp only [lA, lB, lC, lD] at hL
       refine OV (.int .i64 (w64 (1 + x171.1))) rfl (x_add rfl rfl) ?_
       refine OV (.agg #[(.int .i64 s_l1.2.2.2), (.int .i64 (w64 (1 + x171.1))), (.int .i64 0)]) rfl (x_build Try_B103 (ps := [(0, (.int .i64 s_l1.2.2.2)), (1, (.int .i64 (w64 (1 + x171.1))))]) ⟨⟨rfl, rfl⟩, ⟨rfl, rfl⟩, trivial⟩ (by simp [Instr.fill, cells_int, cells_bool, cells_string, cells_agg, cells_slice, cells_pointer])) ?_
       refine OW.cons (S_storeN (l := [(.int .i64 s_l1.2.2.2), (.int .i64 (w64 (1 + x171.1))), (.int .i64 0)]) (cs' := #[(.int .i64 s_l1.2.2.2), (.int .i64 (w64 (1 + x171.1))), (.int .i64 0)]) hL 0 rfl Try_T103 rfl rfl (List.forall_mem_cons.2 ⟨rfl, (List.forall_mem_cons.2 ⟨rfl, (List.forall_mem_cons.2 ⟨rfl, (fun _ h => by cases h)⟩)⟩)⟩) rfl (Nat.le_of_ble_eq_true rfl) rfl ?_)
       intro wd176 hL
       refine OW.nil ?_
       exact ⟨(x171.2.1, x171.2.2, w64 (1 + x171.1), 0), hm, ⟨f124, f125, f126, f127, f128, rfl, hL⟩⟩
     refine CW.skip ?_
     exact ⟨(x165.2.1, x165.2.2, 0, w64 (1 + x130.1)), hm, ⟨f124, f125, f126, f127, f128, rfl, hL⟩⟩
   intro s_j1 F150 wd151 hJ hm
   unfold M.spec_l26DrawRace_j1 at hm
   obtain ⟨f152, f153, f154, f155, f156, f157, hL⟩ := hJ
   refine CW.regionL ?_
   refine OV v108 rfl (x_mv f155) ?_
   refine OV (.agg #[(.int .i64 s_l1.2.2.2), (.int .i64 s_j1.2.2.1), (.int .i64 s_j1.2.2.2)]) rfl (x_loadN (cs := [(.int .i64 s_l1.2.2.2), (.int .i64 s_j1.2.2.1), (.int .i64 s_j1.2.2.2)]) U103 Try_T103 rfl f157 (hL.cellsB 0 rfl (o := 0) (l := [(.int .i64 s_l1.2.2.2), (.int .i64 s_j1.2.2.1), (.int .i64 s_j1.2.2.2)]) (by intro j u hj; exact (by simpa using hj)))) ?_
   refine OW.cons (S_lit ([(Finish.mk s_l1.2.2.2 s_j1.2.2.1 s_j1.2.2.2)] : List Finish) hL U99 Try_T103 rfl (by decide) (by first | (simp [Instr.fill, madeCells, Value.cells, ev, upd, Flat.enc, Flat.sz]; done) | rfl | kernel_rfl) rfl rfl ?_)
   intro wd158 v159 S160 hL
   obtain ⟨hc164, hm⟩ := chkE hm
   refine OW.cons (S_append (ys := ([(Finish.mk s_l1.2.2.2 s_j1.2.2.1 s_j1.2.2.2)] : List Finish)) hL 2 rfl U99 Try_T103 rfl rfl rfl (hL.rdO 0 rfl) hc164 (by decide) rfl ?_)
   intro wd161 v162 S163 hL
   refine OV v162 rfl (x_assign) ?_
   refine OW.nil ?_
   refine CW.regionL ?_
   refine OV (.int .i64 s_l1.2.2.2) rfl (x_mv f156) ?_
   refine OV (.int .i64 (w64 (s_l1.2.2.2 + 1))) rfl (x_add rfl rfl) ?_
   refine OV (.int .i64 (w64 (s_l1.2.2.2 + 1))) rfl (x_assign) ?_
   refine OW.nil ?_
   have hL := hL.sel [2, 3, 4, 5] (by decide) rfl
   obtain rfl := Option.some.inj hm
   exact ⟨_, rfl, ⟨v162, S163, f152, f153, f154, rfl, rfl, hL⟩⟩
 refine CW.exit ?_
 refine XJ.hit ?_
 obtain rfl := Option.some.inj hm
 exact ⟨_, rfl, ⟨v108, S109, f124, f125, f126, f127, f128, hL⟩⟩

theorem M.spec_l26DrawSeries_ok (w0 : World) {b1 : Nat} {v2 : Value} (a0 : Src) (h3 : rdL (fun k => k < w0.heap.size ∧ ¬ (Ent.blk b1 90 #[v2, .int .i64 a0.at_, .int .i64 a0.seed]).S k) w0 v2 a0.code) (he4 : (Ent.blk b1 90 #[v2, .int .i64 a0.at_, .int .i64 a0.seed]).H w0) {r : (Series) × (Int × Int)} (hm : M.spec_l26DrawSeries a0 = some r) :
    Calls Try.prog 113 #[(.pointer (some ⟨b1, 0, none⟩))] w0 fun e w' => ∃ (rv0 : Value) (rS0 : Nat → Prop), e = .returned (.agg #[(.int .i64 r.1.Boats), (.int .i64 r.1.Scheme), rv0]) ∧ Mut w0 w' (Ent.blk b1 90 #[v2, .int .i64 a0.at_, .int .i64 a0.seed]).S [Ent.blk b1 90 #[v2, .int .i64 r.2.1, .int .i64 r.2.2], Ent.own 101 rS0 rv0 r.1.Races] := by
 unfold M.spec_l26DrawSeries at hm
 refine calls_CW (args := [(.pointer (some ⟨b1, 0, none⟩))]) Try.func113 rfl rfl rfl ?_
 have hL := Hp.startIO he4
 refine CSR ?_
 refine OW.cons (S_alloc (cs := #[(.int .i64 0), (.int .i64 0), (.slice none 0 0)]) hL Try_T97 rfl rfl ?_)
 intro wd5 b6 hL
 refine ONR ?_
 refine OV (.pointer (some ⟨b1, 0, none⟩)) rfl (x_move) ?_
 obtain ⟨x7, hx8, hm⟩ := bndE hm
 refine OW.cons (OP.call rfl (x_call (vs := [(.pointer (some ⟨b1, 0, none⟩))]) Try_C120 ⟨rfl, trivial⟩) (M.spec_l26DrawBoats_ok _ (Src.mk a0.code a0.at_ a0.seed) (hL.exZ 2 1 (by decide) rfl rfl h3) (hL.get 1 rfl) hx8) ?_)
 rintro e9 wd10 ⟨rfl, hF11⟩
 refine ⟨_, rfl, ?_⟩
 have hL := hL.mut 1 rfl hF11
 simp only [lA, lB, lC, lD] at hL
 refine OV (.int .i64 x7.1) rfl (x_assign) ?_
 refine ONR ?_
 refine OV (.int .i64 x7.1) rfl (x_move) ?_
 refine OV (.pointer (some ⟨b1, 0, none⟩)) rfl (x_move) ?_
 obtain ⟨x12, hx13, hm⟩ := bndE hm
 refine OW.cons (OP.call rfl (x_call (vs := [(.pointer (some ⟨b1, 0, none⟩)), (.int .i64 2)]) Try_C86 ⟨rfl, rfl, trivial⟩) (M.spec_l01Next_ok _ (Src.mk a0.code x7.2.1 x7.2.2) (hL.exZ 2 1 (by decide) rfl rfl h3) (hL.get 1 rfl) 2 hx13) ?_)
 rintro e14 wd15 ⟨rfl, hF16⟩
 refine ⟨_, rfl, ?_⟩
 have hL := hL.mut 1 rfl hF16
 simp only [lA, lB, lC, lD] at hL
 refine OW.cons (S_lit0 (α := Finish) Race hL U95 Try_T101 rfl ?_)
 intro wd17 v18 S19 hL
 refine OV (.agg #[(.int .i64 x7.1), (.int .i64 x12.1), v18]) rfl (x_build Try_B97 (ps := [(0, (.int .i64 x7.1)), (1, (.int .i64 x12.1)), (2, v18)]) ⟨⟨rfl, rfl⟩, ⟨rfl, rfl⟩, ⟨rfl, rfl⟩, trivial⟩ (by simp [Instr.fill, cells_int, cells_bool, cells_string, cells_agg, cells_slice, cells_pointer, (rdL_cells (hL.rdO 0 rfl))])) ?_
 refine OW.cons (S_alloc (cs := #[(.int .i64 0), (.int .i64 0), (.slice none 0 0)]) hL Try_T97 rfl rfl ?_)
 intro wd20 b21 hL
 refine OW.cons (S_storeN (l := [(.int .i64 x7.1), (.int .i64 x12.1), v18]) (cs' := #[(.int .i64 x7.1), (.int .i64 x12.1), v18]) hL 0 rfl Try_T97 rfl rfl (List.forall_mem_cons.2 ⟨rfl, (List.forall_mem_cons.2 ⟨rfl, (List.forall_mem_cons.2 ⟨rdL_one (hL.rdO 1 rfl), (fun _ h => by cases h)⟩)⟩)⟩) rfl (Nat.le_of_ble_eq_true rfl) rfl ?_)
 intro wd22 hL
 refine ONR ?_
 refine OW.cons (S_lit0 (α := Finish) Race hL U95 Try_T101 rfl ?_)
 intro wd23 v24 S25 hL
 refine OV v24 rfl (x_assign) ?_
 refine ONS ?_
 refine CSR ?_
 refine OV (.pointer (some ⟨b1, 0, none⟩)) rfl (x_move) ?_
 obtain ⟨x26, hx27, hm⟩ := bndE hm
 refine OW.cons (OP.call rfl (x_call (vs := [(.pointer (some ⟨b1, 0, none⟩)), (.int .i64 7)]) Try_C86 ⟨rfl, rfl, trivial⟩) (M.spec_l01Next_ok _ (Src.mk a0.code x12.2.1 x12.2.2) (hL.exZ 5 4 (by decide) rfl rfl h3) (hL.get 4 rfl) 7 hx27) ?_)
 rintro e28 wd29 ⟨rfl, hF30⟩
 refine ⟨_, rfl, ?_⟩
 have hL := hL.mut 4 rfl hF30
 simp only [lA, lB, lC, lD] at hL
 refine OV (.int .i64 x26.1) rfl (x_assign) ?_
 refine OW.nil ?_
 obtain ⟨o67, ho68, hm⟩ := bndE hm
 refine CW.loopB (fun (s_l1 : Int × Int × (List Race) × Int) (F : Fr) (w : World) => ∃ (v63 : Value) (S64 : Nat → Prop), F 0 = (.pointer (some ⟨b1, 0, none⟩)) ∧ F 2 = (.pointer (some ⟨b6, 0, none⟩)) ∧ F 3 = (.int .i64 x7.1) ∧ F 4 = (.pointer (some ⟨b21, 0, none⟩)) ∧ F 5 = v63 ∧ F 6 = (.int .i64 s_l1.2.2.2) ∧ Hp w0 [Ent.own 101 S64 v63 s_l1.2.2.1, Ent.blk b21 97 #[(.int .i64 x7.1), (.int .i64 x12.1), v18], Ent.own 101 S19 v18 ([] : List Race), Ent.blk b6 97 #[(.int .i64 0), (.int .i64 0), (.slice none 0 0)], Ent.blk b1 90 #[v2, (.int .i64 s_l1.1), (.int .i64 s_l1.2.1)], Ent.frz w0 (Ent.blk b1 90 #[v2, .int .i64 a0.at_, .int .i64 a0.seed]).S] w) (fun o => outc o (fun x => some x) (fun s => M.spec_l26DrawSeries_a1 a0 x7 x12 s) = some r) ho68 hm ⟨v24, S25, rfl, rfl, rfl, rfl, rfl, rfl, hL⟩ ?_ ?_
 · intro s_l1 F69 wd70 hJ hm
   have hm := outcE hm
   have hm : M.spec_l26DrawSeries_a1 a0 x7 x12 s_l1 = some r := hm
   unfold M.spec_l26DrawSeries_a1 at hm
   obtain ⟨v63, S64, f71, f72, f73, f74, f75, f76, hL⟩ := hJ
   refine CW.seqJ (fun (s_j1 : Int × Int × Int × (List Race)) (F : Fr) (w : World) => ∃ (v275 : Value) (S276 : Nat → Prop), F 2 = (.pointer (some ⟨b6, 0, none⟩)) ∧ F 4 = (.pointer (some ⟨b21, 0, none⟩)) ∧ F 5 = v275 ∧ Hp w0 [Ent.own 101 S276 v275 s_j1.2.2.2, Ent.blk b21 97 #[(.int .i64 x7.1), (.int .i64 s_j1.2.2.1), v18], Ent.own 101 S19 v18 ([] : List Race), Ent.blk b6 97 #[(.int .i64 0), (.int .i64 0), (.slice none 0 0)], Ent.blk b1 90 #[v2, (.int .i64 s_j1.1), (.int .i64 s_j1.2.1)], Ent.frz w0 (Ent.blk b1 90 #[v2, .int .i64 a0.at_, .int .i64 a0.seed]).S] w) (fun s_j1 => M.spec_l26DrawSeries_j1 x7 s_j1 = some r) ?_ ?_
   · refine CSR ?_
     refine OV (.pointer (some ⟨b1, 0, none⟩)) rfl (x_mv f71) ?_
     obtain ⟨x283, hx284, hm⟩ := bndE hm
     refine OW.cons (OP.call rfl (x_call (vs := [(.pointer (some ⟨b1, 0, none⟩)), (.int .i64 30)]) Try_C86 ⟨rfl, rfl, trivial⟩) (M.spec_l01Next_ok _ (Src.mk a0.code s_l1.1 s_l1.2.1) (hL.exZ 5 4 (by decide) rfl rfl h3) (hL.get 4 rfl) 30 hx284) ?_)
     rintro e285 wd286 ⟨rfl, hF287⟩
     refine ⟨_, rfl, ?_⟩
     have hL := hL.mut 4 rfl hF287
     simp only [lA, lB, lC, lD] at hL
     refine OW.nil ?_
     refine CW.blockJ (fun (s_j2 : Int × Int × Int × (List Race)) (F : Fr) (w : World) => ∃ (v381 : Value) (S382 : Nat → Prop), F 2 = (.pointer (some ⟨b6, 0, none⟩)) ∧ F 4 = (.pointer (some ⟨b21, 0, none⟩)) ∧ F 5 = v381 ∧ Hp w0 [Ent.own 101 S382 v381 s_j2.2.2.2, Ent.blk b21 97 #[(.int .i64 x7.1), (.int .i64 s_j2.2.2.1), v18], Ent.own 101 S19 v18 ([] : List Race), Ent.blk b6 97 #[(.int .i64 0), (.int .i64 0), (.slice none 0 0)], Ent.blk b1 90 #[v2, (.int .i64 s_j2.1), (.int .i64 s_j2.2.1)], Ent.frz w0 (Ent.blk b1 90 #[v2, .int .i64 a0.at_, .int .i64 a0.seed]).S] w) (fun s_j2 => M.spec_l26DrawSeries_j2 x7 s_j2 = some r) ?_ ?_
     · refine CSR ?_
       refine OV (.bool (x283.1 == 0)) rfl (x_eql rfl rfl) ?_
       refine OV (.bool (x283.1 == 0)) rfl (x_assign) ?_
       refine OW.nil ?_
       refine CW.condM (t := x283.1 == 0) rfl hm (fun hb388 hm => ?_) (fun hb388 hm => ?_)
       · refine CW.regionL ?_
         refine OV (.pointer (some ⟨b21, 1, none⟩)) rfl (x_fieldAddr (fsz := 1) 0 1 1 U97 rfl Try_T2 rfl f74 rfl) ?_
         refine OW.cons (S_store (cs' := #[(.int .i64 x7.1), (.int .i64 2), v18]) hL 1 rfl Try_T2 rfl rfl rfl rfl rfl ?_)
         intro wd389 hL
         refine OW.nil ?_
         exact ⟨(x283.2.1, x283.2.2, 2, s_l1.2.2.1), hm, ⟨v63, S64, f72, f74, f75, hL⟩⟩
       refine CSR ?_
       refine OV (.bool (x283.1 == 1)) rfl (x_eql rfl rfl) ?_
       refine OV (.bool (x283.1 == 1)) rfl (x_assign) ?_
       refine OW.nil ?_
       refine CW.condM (t := x283.1 == 1) rfl hm (fun hb390 hm => ?_) (fun hb390 hm => ?_)
       · refine CW.regionL ?_
         refine OV v63 rfl (x_mv f75) ?_
         refine OV (.pointer (some ⟨b1, 0, none⟩)) rfl (x_mv f71) ?_
         refine OV (.int .i64 x7.1) rfl (x_mv f73) ?_
         refine OV (.int .i64 (w64 (x7.1 + 1))) rfl (x_add rfl rfl) ?_
         obtain ⟨x391, hx392, hm⟩ := bndE hm
         refine OW.cons (OP.call rfl (x_call (vs := [(.pointer (some ⟨b1, 0, none⟩)), (.int .i64 (w64 (x7.1 + 1)))]) Try_C121 ⟨rfl, rfl, trivial⟩) (M.spec_l26DrawRace_ok _ (Src.mk a0.code x283.2.1 x283.2.2) (hL.exZ 5 4 (by decide) rfl rfl h3) (hL.get 4 rfl) (w64 (x7.1 + 1)) hx392) ?_)
         rintro e395 wd396 ⟨v394, S393, rfl, hF397⟩
         refine ⟨_, rfl, ?_⟩
         have hL := hL.mut 4 rfl hF397
         simp only [lA, lB, lC, lD] at hL
         refine OW.cons (S_lit1 (Race.mk x391.1.Finishes) rfl hL U95 Try_T101 rfl rfl ?_)
         intro wd398 v399 S400 hL
         obtain ⟨hc404, hm⟩ := chkE hm
         have hL := hL.sel [1, 0, 2, 3, 4, 5, 6] (by decide) rfl
         refine OW.cons (S_appendN Finish hL U95 Try_T101 rfl rfl rfl hc404 (by decide) rfl ?_)
         intro wd401 v402 S403 hL
         refine OV v402 rfl (x_assign) ?_
         refine OW.nil ?_
         exact ⟨(x391.2.1, x391.2.2, x12.1, s_l1.2.2.1 ++ ([(Race.mk x391.1.Finishes)] : List Race)), hm, ⟨v402, S403, f72, f74, rfl, hL⟩⟩
       refine CSR ?_
       refine OV (.bool (x283.1 == 2)) rfl (x_eql rfl rfl) ?_
       refine OV (.bool (x283.1 == 2)) rfl (x_assign) ?_
       refine OW.nil ?_
       refine CW.condM (t := x283.1 == 2) rfl hm (fun hb405 hm => ?_) (fun hb405 hm => ?_)
       · refine CW.seq ?_
         obtain ⟨o442, ho443, hm⟩ := bndE hm
         refine CW.loopB (fun (s_l2 : Int × Int × (List Race)) (F : Fr) (w : World) => ∃ (v438 : Value) (S439 : Nat → Prop), F 0 = (.pointer (some ⟨b1, 0, none⟩)) ∧ F 2 = (.pointer (some ⟨b6, 0, none⟩)) ∧ F 3 = (.int .i64 x7.1) ∧ F 4 = (.pointer (some ⟨b21, 0, none⟩)) ∧ F 5 = v438 ∧ Hp w0 [Ent.own 101 S439 v438 s_l2.2.2, Ent.blk b21 97 #[(.int .i64 x7.1), (.int .i64 x12.1), v18], Ent.own 101 S19 v18 ([] : List Race), Ent.blk b6 97 #[(.int .i64 0), (.int .i64 0), (.slice none 0 0)], Ent.blk b1 90 #[v2, (.int .i64 s_l2.1), (.int .i64 s_l2.2.1)], Ent.frz w0 (Ent.blk b1 90 #[v2, .int .i64 a0.at_, .int .i64 a0.seed]).S] w) (fun o => outc o (fun x => some x) (fun s => M.spec_l26DrawSeries_a2 a0 x7 x12 s) = some r) ho443 hm ⟨v63, S64, f71, f72, f73, f74, f75, hL⟩ ?_ ?_
         · intro s_l2 F444 wd445 hJ hm
           have hm := outcE hm
           have hm : M.spec_l26DrawSeries_a2 a0 x7 x12 s_l2 = some r := hm
           unfold M.spec_l26DrawSeries_a2 at hm
           obtain ⟨v438, S439, f446, f447, f448, f449, f450, hL⟩ := hJ
           refine CW.regionL ?_
           refine OV v438 rfl (x_mv f450) ?_
           refine OV (.pointer (some ⟨b1, 0, none⟩)) rfl (x_mv f446) ?_
           obtain ⟨x451, hx452, hm⟩ := bndE hm
           refine OW.cons (OP.call rfl (x_call (vs := [(.pointer (some ⟨b1, 0, none⟩)), (.int .i64 2)]) Try_C86 ⟨rfl, rfl, trivial⟩) (M.spec_l01Next_ok _ (Src.mk a0.code s_l2.1 s_l2.2.1) (hL.exZ 5 4 (by decide) rfl rfl h3) (hL.get 4 rfl) 2 hx452) ?_)
           rintro e453 wd454 ⟨rfl, hF455⟩
           refine ⟨_, rfl, ?_⟩
           have hL := hL.mut 4 rfl hF455
           simp only [lA, lB, lC, lD] at hL
           refine OV (.int .i64 (w64 (12 + x451.1))) rfl (x_add rfl rfl) ?_
           obtain ⟨hc458, hm⟩ := chkE hm
           obtain ⟨v456, hs457⟩ := subV_of (hL.rdO 0 rfl) hc458
           refine OV v456 rfl (x_slice0 U95 Try_T101 rfl rfl hs457) ?_
           refine OV v456 rfl (x_assign) ?_
           refine OW.nil ?_
           have hL := hL.prefix 0 rfl hs457
           exact ⟨(x451.2.1, x451.2.2, x12.1, subL s_l2.2.2 0 (w64 (12 + x451.1))), hm, ⟨v456, S439, f447, f449, rfl, hL⟩⟩
         intro s_l2 F459 wd460 t440 hJ hm hr441
         unfold M.spec_l26DrawSeries_l2 at hm
         obtain ⟨v438, S439, f461, f462, f463, f464, f465, hL⟩ := hJ
         refine CW.seq ?_
         refine CSR ?_
         refine OV v438 rfl (x_mv f465) ?_
         refine OV (.int .i64 (s_l2.2.2.length : Int)) rfl (x_lenR U95 rfl (hL.rdO 0 rfl)) ?_
         refine OV (.bool (decide ((s_l2.2.2.length : Int) < 13))) rfl (x_lss rfl rfl) ?_
         refine OW.nil ?_
         refine CW.condM (t := decide ((s_l2.2.2.length : Int) < 13)) rfl hm (fun hb466 hm => ?_) (fun hb466 hm => ?_)
         · refine CW.skip ?_
           refine CW.block ?_
           refine CW.regionL ?_
           refine OV v438 rfl (x_mv f465) ?_
           refine OV (.pointer (some ⟨b1, 0, none⟩)) rfl (x_mv f461) ?_
           refine OV (.int .i64 x7.1) rfl (x_mv f463) ?_
           obtain ⟨x467, hx468, hm⟩ := bndE hm
           refine OW.cons (OP.call rfl (x_call (vs := [(.pointer (some ⟨b1, 0, none⟩)), (.int .i64 x7.1)]) Try_C121 ⟨rfl, rfl, trivial⟩) (M.spec_l26DrawRace_ok _ (Src.mk a0.code s_l2.1 s_l2.2.1) (hL.exZ 5 4 (by decide) rfl rfl h3) (hL.get 4 rfl) x7.1 hx468) ?_)
           rintro e471 wd472 ⟨v470, S469, rfl, hF473⟩
           refine ⟨_, rfl, ?_⟩
           have hL := hL.mut 4 rfl hF473
           simp only [lA, lB, lC, lD] at hL
           refine OW.cons (S_lit1 (Race.mk x467.1.Finishes) rfl hL U95 Try_T101 rfl rfl ?_)
           intro wd474 v475 S476 hL
           obtain ⟨hc480, hm⟩ := chkE hm
           have hL := hL.sel [1, 0, 2, 3, 4, 5, 6] (by decide) rfl
           refine OW.cons (S_appendN Finish hL U95 Try_T101 rfl rfl rfl hc480 (by decide) rfl ?_)
           intro wd477 v478 S479 hL
           refine OV v478 rfl (x_assign) ?_
           refine OW.nil ?_
           obtain rfl := Option.some.inj hm
           exact ⟨_, rfl, ⟨v478, S479, f461, f462, f463, f464, rfl, hL⟩⟩
         refine CW.exit ?_
         refine XJ.hit ?_
         obtain rfl := Option.some.inj hm
         exact ⟨_, rfl, ⟨v438, S439, f461, f462, f463, f464, f465, hL⟩⟩
       refine CW.skip ?_
       exact ⟨(x283.2.1, x283.2.2, x12.1, s_l1.2.2.1), hm, ⟨v63, S64, f72, f74, f75, hL⟩⟩
     intro s_j2 F383 wd384 hJ hm
     unfold M.spec_l26DrawSeries_j2 at hm
     obtain ⟨v381, S382, f385, f386, f387, hL⟩ := hJ
     exact ⟨(s_j2.1, s_j2.2.1, s_j2.2.2.1, s_j2.2.2.2), hm, ⟨v381, S382, f385, f386, f387, hL⟩⟩
   intro s_j1 F277 wd278 hJ hm
   unfold M.spec_l26DrawSeries_j1 at hm
   obtain ⟨v275, S276, f279, f280, f281, hL⟩ := hJ
   refine CSR ?_
   refine OV (.pointer (some ⟨b21, 0, none⟩)) rfl (x_fieldAddr (fsz := 1) 0 0 0 U97 rfl Try_T2 rfl f280 rfl) ?_
   refine OV (.int .i64 x7.1) rfl (x_load1 U2 rfl rfl (hL.cellB 1 rfl rfl)) ?_
   refine OV (.pointer (some ⟨b21, 1, none⟩)) rfl (x_fieldAddr (fsz := 1) 0 1 1 U97 rfl Try_T2 rfl f280 rfl) ?_
   refine OV (.int .i64 s_j1.2.2.1) rfl (x_load1 U2 rfl rfl (hL.cellB 1 rfl rfl)) ?_
   refine OV v275 rfl (x_mv f281) ?_
   refine OV (.agg #[(.int .i64 x7.1), (.int .i64 s_j1.2.2.1), v275]) rfl (x_build Try_B97 (ps := [(0, (.int .i64 x7.1)), (1, (.int .i64 s_j1.2.2.1)), (2, v275)]) ⟨⟨rfl, rfl⟩, ⟨rfl, rfl⟩, ⟨rfl, rfl⟩, trivial⟩ (by simp [Instr.fill, cells_int, cells_bool, cells_string, cells_agg, cells_slice, cells_pointer, (rdL_cells (hL.rdO 0 rfl))])) ?_
   refine OW.cons (S_storeN (l := [(.int .i64 x7.1), (.int .i64 s_j1.2.2.1), v275]) (cs' := #[(.int .i64 x7.1), (.int .i64 s_j1.2.2.1), v275]) hL 3 rfl Try_T97 f279 rfl (List.forall_mem_cons.2 ⟨rfl, (List.forall_mem_cons.2 ⟨rfl, (List.forall_mem_cons.2 ⟨rdL_one (hL.rdO 0 rfl), (fun _ h => by cases h)⟩)⟩)⟩) rfl (Nat.le_of_ble_eq_true rfl) rfl ?_)
   intro wd282 hL
   refine OW.nil ?_
   refine CW.ret ?_
   obtain rfl := Option.some.inj hm
   exact RRc rfl f279 (run_loadBlk U97 Try_T97 (hL.get 3 rfl) rfl) ⟨v275, S276, rfl, hL.mutOut 5 rfl [4, 0] (by decide) (by decide) rfl⟩
 intro s_l1 F481 wd482 t65 hJ hm hr66
 unfold M.spec_l26DrawSeries_l1 at hm
 obtain ⟨v63, S64, f483, f484, f485, f486, f487, f488, hL⟩ := hJ
 refine CW.seq ?_
 refine CSR ?_
 refine OV (.int .i64 s_l1.2.2.2) rfl (x_mv f488) ?_
 refine OV (.bool (decide (0 < s_l1.2.2.2))) rfl (x_gtr rfl rfl) ?_
 refine OW.nil ?_
 refine CW.condM (t := decide (0 < s_l1.2.2.2)) rfl hm (fun hb489 hm => ?_) (fun hb489 hm => ?_)
 · refine CW.skip ?_
   refine CW.seq ?_
   refine CW.block ?_
   refine CW.regionL ?_
   refine OV v63 rfl (x_mv f487) ?_
   refine OV (.pointer (some ⟨b1, 0, none⟩)) rfl (x_mv f483) ?_
   refine OV (.int .i64 x7.1) rfl (x_mv f485) ?_
   obtain ⟨x490, hx491, hm⟩ := bndE hm
   refine OW.cons (OP.call rfl (x_call (vs := [(.pointer (some ⟨b1, 0, none⟩)), (.int .i64 x7.1)]) Try_C121 ⟨rfl, rfl, trivial⟩) (M.spec_l26DrawRace_ok _ (Src.mk a0.code s_l1.1 s_l1.2.1) (hL.exZ 5 4 (by decide) rfl rfl h3) (hL.get 4 rfl) x7.1 hx491) ?_)
   rintro e494 wd495 ⟨v493, S492, rfl, hF496⟩
   refine ⟨_, rfl, ?_⟩
   have hL := hL.mut 4 rfl hF496
   simp only [lA, lB, lC, lD] at hL
   refine OW.cons (S_lit1 (Race.mk x490.1.Finishes) rfl hL U95 Try_T101 rfl rfl ?_)
   intro wd497 v498 S499 hL
   obtain ⟨hc503, hm⟩ := chkE hm
   have hL := hL.sel [1, 0, 2, 3, 4, 5, 6] (by decide) rfl
   refine OW.cons (S_appendN Finish hL U95 Try_T101 rfl rfl rfl hc503 (by decide) rfl ?_)
   intro wd500 v501 S502 hL
   refine OV v501 rfl (x_assign) ?_
   refine OW.nil ?_
   refine CW.regionL ?_
   refine OV (.int .i64 s_l1.2.2.2) rfl (x_mv f488) ?_
   refine OV (.int .i64 (w64 (s_l1.2.2.2 - 1))) rfl (x_sub rfl rfl) ?_
   refine OV (.int .i64 (w64 (s_l1.2.2.2 - 1))) rfl (x_assign) ?_
   refine OW.nil ?_
   obtain rfl := Option.some.inj hm
   exact ⟨_, rfl, ⟨v501, S502, f483, f484, f485, f486, rfl, rfl, hL⟩⟩
 refine CW.exit ?_
 refine XJ.hit ?_
 obtain rfl := Option.some.inj hm
 exact ⟨_, rfl, ⟨v63, S64, f483, f484, f485, f486, f487, f488, hL⟩⟩

theorem M.spec_l26Race_ok (w0 : World) (a0 : Int) (a1 : Race) {v1 : Value} (h2 : rdL (· < w0.heap.size) w0 v1 a1.Finishes) {r : Bool} (hm : M.spec_l26Race a0 a1 = some r) :
    Calls Try.prog 136 #[(.int .i64 a0), (.agg #[v1])] w0 fun e w' => e = .returned (.bool r) ∧ Fresh w0 w' [] := by
 unfold M.spec_l26Race at hm
 refine calls_CW (args := [(.int .i64 a0), (.agg #[v1])]) Try.func136 rfl rfl rfl ?_
 have hL := Hp.start w0
 refine CSR ?_
 refine OW.cons (S_box (cs := #[v1]) hL rfl rfl rfl ?_)
 intro wd3 b4 hL
 refine OV (.bool false) rfl (x_assign) ?_
 refine ONS ?_
 refine CSR ?_
 refine OV (.pointer (some ⟨b4, 0, none⟩)) rfl (x_fieldAddr (fsz := 1) 0 0 0 U101 rfl Try_T99 rfl rfl rfl) ?_
 refine OV v1 rfl (x_load1 U99 rfl rfl (hL.cellB 0 rfl rfl)) ?_
 refine OV (.int .i64 (a1.Finishes.length : Int)) rfl (x_lenR U99 rfl (hL.rdS 1 rfl h2)) ?_
 refine OV (.int .i64 a0) rfl (x_move) ?_
 refine OV (.bool ((a1.Finishes.length : Int) != a0)) rfl (x_neq rfl rfl) ?_
 refine OW.nil ?_
 refine CW.condM (t := (a1.Finishes.length : Int) != a0) rfl hm (fun hb5 hm => ?_) (fun hb5 hm => ?_)
 · refine CSR ?_
   refine OV (.bool false) rfl (x_assign) ?_
   refine OW.nil ?_
   refine CW.ret ?_
   obtain rfl := Option.some.inj hm
   exact RR1 rfl rfl ⟨rfl, hL.fresh 1 rfl [] (by decide) (by decide) rfl⟩
 refine CW.skip ?_
 refine CW.seq ?_
 refine CSR ?_
 refine OV (.int .i64 0) rfl (x_assign) ?_
 refine OW.nil ?_
 obtain ⟨o116, ho117, hm⟩ := bndE hm
 refine CW.loopB (fun (s_l1 : Int) (F : Fr) (w : World) => F 3 = (.pointer (some ⟨b4, 0, none⟩)) ∧ F 5 = (.int .i64 s_l1) ∧ Hp w0 [Ent.blk b4 101 #[v1], Ent.snap w0 w0.heap.size] w) (fun o => outc o (fun x => some x) (fun s => M.spec_l26Race_a1 s) = some r) ho117 hm ⟨rfl, rfl, hL⟩ ?_ ?_
 · intro s_l1 F118 wd119 hJ hm
   have hm := outcE hm
   have hm : M.spec_l26Race_a1 s_l1 = some r := hm
   unfold M.spec_l26Race_a1 at hm
   obtain ⟨f120, f121, hL⟩ := hJ
   refine CSR ?_
   refine OV (.bool true) rfl (x_assign) ?_
   refine OW.nil ?_
   refine CW.ret ?_
   obtain rfl := Option.some.inj hm
   exact RR1 rfl rfl ⟨rfl, hL.fresh 1 rfl [] (by decide) (by decide) rfl⟩
 intro s_l1 F122 wd123 t114 hJ hm hr115
 unfold M.spec_l26Race_l1 at hm
 obtain ⟨f124, f125, hL⟩ := hJ
 refine CW.seq ?_
 refine CSR ?_
 refine OV (.int .i64 s_l1) rfl (x_mv f125) ?_
 refine OV (.pointer (some ⟨b4, 0, none⟩)) rfl (x_fieldAddr (fsz := 1) 0 0 0 U101 rfl Try_T99 rfl f124 rfl) ?_
 refine OV v1 rfl (x_load1 U99 rfl rfl (hL.cellB 0 rfl rfl)) ?_
 refine OV (.int .i64 (a1.Finishes.length : Int)) rfl (x_lenR U99 rfl (hL.rdS 1 rfl h2)) ?_
 refine OV (.bool (decide (s_l1 < (a1.Finishes.length : Int)))) rfl (x_lss rfl rfl) ?_
 refine OW.nil ?_
 refine CW.condM (t := decide (s_l1 < (a1.Finishes.length : Int))) rfl hm (fun hb126 hm => ?_) (fun hb126 hm => ?_)
 · refine CW.skip ?_
   refine CW.seq ?_
   refine CW.block ?_
   refine CSR ?_
   refine OV (.pointer (some ⟨b4, 0, none⟩)) rfl (x_fieldAddr (fsz := 1) 0 0 0 U101 rfl Try_T99 rfl f124 rfl) ?_
   refine OV v1 rfl (x_load1 U99 rfl rfl (hL.cellB 0 rfl rfl)) ?_
   refine OV (.int .i64 s_l1) rfl (x_mv f125) ?_
   obtain ⟨x127, ha128, hm⟩ := bndE hm
   obtain ⟨hz129, ha133⟩ := idxE ha128
   obtain ⟨b130, q131, hix132⟩ := rdL_ix (hL.rdS 1 rfl h2) hz129 ha133
   refine OV (.pointer (some ⟨b130, q131, none⟩)) rfl (x_ix U99 Try_T103 rfl rfl hix132) ?_
   refine OV (.agg #[(.int .i64 x127.Boat), (.int .i64 x127.Code), (.int .i64 x127.Time)]) rfl (x_loadN (cs := [(.int .i64 x127.Boat), (.int .i64 x127.Code), (.int .i64 x127.Time)]) U103 Try_T103 rfl rfl (rdF_cells (hL.rdS 1 rfl h2) hix132 ha133)) ?_
   refine OW.cons (S_alloc (cs := #[(.int .i64 0), (.int .i64 0), (.int .i64 0)]) hL Try_T103 rfl rfl ?_)
   intro wd134 b135 hL
   refine OW.cons (S_storeN (l := [(.int .i64 x127.Boat), (.int .i64 x127.Code), (.int .i64 x127.Time)]) (cs' := #[(.int .i64 x127.Boat), (.int .i64 x127.Code), (.int .i64 x127.Time)]) hL 0 rfl Try_T103 rfl rfl (List.forall_mem_cons.2 ⟨rfl, (List.forall_mem_cons.2 ⟨rfl, (List.forall_mem_cons.2 ⟨rfl, (fun _ h => by cases h)⟩)⟩)⟩) rfl (Nat.le_of_ble_eq_true rfl) rfl ?_)
   intro wd136 hL
   refine ONS ?_
   refine CW.seqJ (fun (s_j1 : Bool) (F : Fr) (w : World) => F 3 = (.pointer (some ⟨b4, 0, none⟩)) ∧ F 5 = (.int .i64 s_l1) ∧ F 6 = (.pointer (some ⟨b135, 0, none⟩)) ∧ F 33 = (.bool s_j1) ∧ Hp w0 [Ent.blk b135 103 #[(.int .i64 x127.Boat), (.int .i64 x127.Code), (.int .i64 x127.Time)], Ent.blk b4 101 #[v1], Ent.snap w0 w0.heap.size] w) (fun s_j1 => M.spec_l26Race_j1 s_l1 x127 s_j1 = some t114) ?_ ?_
   · refine CW.regionL ?_
     refine OV (.pointer (some ⟨b135, 0, none⟩)) rfl (x_fieldAddr (fsz := 1) 0 0 0 U103 rfl Try_T2 rfl rfl rfl) ?_
     refine OV (.int .i64 x127.Boat) rfl (x_load1 U2 rfl rfl (hL.cellB 0 rfl rfl)) ?_
     refine OV (.int .i64 s_l1) rfl (x_mv f125) ?_
     refine OV (.bool (x127.Boat != s_l1)) rfl (x_neq rfl rfl) ?_
     refine OV (.bool (x127.Boat != s_l1)) rfl (x_move) ?_
     refine ifB_elim hm (fun hb174 hm => ?_) (fun hb174 hm => ?_)
     · refine OW.cons (OP.no' rfl rfl hb174 rfl ?_)
       refine OW.cons (OP.no' rfl rfl hb174 rfl ?_)
       refine OW.cons (OP.no' rfl rfl hb174 rfl ?_)
       refine OW.cons (OP.no' rfl rfl hb174 rfl ?_)
       refine OV (.bool true) rfl (x_pickT' rfl hb174 rfl) ?_
       refine OW.nil ?_
       exact ⟨true, hm, ⟨f124, f125, rfl, rfl, hL⟩⟩
     refine OW.cons (OP.yes' rfl rfl hb174 (OP.val (v := (.pointer (some ⟨b135, 1, none⟩))) rfl (x_fieldAddr (fsz := 1) 0 1 1 U103 rfl Try_T2 rfl rfl rfl) ?_))
     refine OW.cons (OP.yes' rfl rfl hb174 (OP.val (v := (.int .i64 x127.Code)) rfl (x_load1 U2 rfl rfl (hL.cellB 0 rfl rfl)) ?_))
     obtain ⟨x175, hx176, hm⟩ := bndE hm
     refine OW.cons (OP.yes' rfl rfl hb174 (OP.call rfl (x_call (vs := [(.int .i64 x127.Code)]) Try_C109 ⟨rfl, trivial⟩) (M.spec_l26Code_ok _ x127.Code hx176) ?_))
     rintro e177 wd178 ⟨rfl, hF179⟩
     refine ⟨_, rfl, ?_⟩
     have hL := hL.pushAll hF179
     simp only [lA, lB, lC, lD] at hL
     refine OW.cons (OP.yes' rfl rfl hb174 (OP.val (v := (.bool (!x175))) rfl (x_not rfl) ?_))
     refine OV (.bool (!x175)) rfl (x_pickF' rfl hb174 rfl) ?_
     refine OW.nil ?_
     exact ⟨!x175, hm, ⟨f124, f125, rfl, rfl, hL⟩⟩
   intro s_j1 F143 wd144 hJ hm
   unfold M.spec_l26Race_j1 at hm
   obtain ⟨f145, f146, f147, f148, hL⟩ := hJ
   refine CW.condM (t := s_j1) f148 hm (fun hb149 hm => ?_) (fun hb149 hm => ?_)
   · refine CSR ?_
     refine OV (.bool false) rfl (x_assign) ?_
     refine OW.nil ?_
     refine CW.ret ?_
     obtain rfl := Option.some.inj hm
     have hm := hr115 _ rfl
     obtain rfl := Option.some.inj hm
     exact RR1 rfl rfl ⟨rfl, hL.fresh 2 rfl [] (by decide) (by decide) rfl⟩
   refine CW.skip ?_
   refine CW.seqJ (fun (s_j2 : Bool) (F : Fr) (w : World) => F 3 = (.pointer (some ⟨b4, 0, none⟩)) ∧ F 5 = (.int .i64 s_l1) ∧ F 52 = (.bool s_j2) ∧ Hp w0 [Ent.blk b135 103 #[(.int .i64 x127.Boat), (.int .i64 x127.Code), (.int .i64 x127.Time)], Ent.blk b4 101 #[v1], Ent.snap w0 w0.heap.size] w) (fun s_j2 => M.spec_l26Race_j2 s_l1 s_j2 = some t114) ?_ ?_
   · refine CW.regionL ?_
     refine OV (.pointer (some ⟨b135, 1, none⟩)) rfl (x_fieldAddr (fsz := 1) 0 1 1 U103 rfl Try_T2 rfl f147 rfl) ?_
     refine OV (.int .i64 x127.Code) rfl (x_load1 U2 rfl rfl (hL.cellB 0 rfl rfl)) ?_
     refine OV (.bool (x127.Code == 0)) rfl (x_eql rfl rfl) ?_
     refine OV (.bool (x127.Code == 0)) rfl (x_move) ?_
     refine ifB_elim hm (fun hb165 hm => ?_) (fun hb165 hm => ?_)
     · refine OW.cons (OP.yes' rfl rfl hb165 (OP.val (v := (.pointer (some ⟨b135, 2, none⟩))) rfl (x_fieldAddr (fsz := 1) 0 2 2 U103 rfl Try_T2 rfl f147 rfl) ?_))
       refine OW.cons (OP.yes' rfl rfl hb165 (OP.val (v := (.int .i64 x127.Time)) rfl (x_load1 U2 rfl rfl (hL.cellB 0 rfl rfl)) ?_))
       obtain ⟨x166, hx167, hm⟩ := bndE hm
       refine OW.cons (OP.yes' rfl rfl hb165 (OP.call rfl (x_call (vs := [(.int .i64 x127.Time), (.int .i64 1), (.int .i64 1000000000)]) Try_C88 ⟨rfl, rfl, rfl, trivial⟩) (M.spec_l01In_ok _ x127.Time 1 1000000000 hx167) ?_))
       rintro e168 wd169 ⟨rfl, hF170⟩
       refine ⟨_, rfl, ?_⟩
       have hL := hL.pushAll hF170
       simp only [lA, lB, lC, lD] at hL
       refine OW.cons (OP.yes' rfl rfl hb165 (OP.val (v := (.bool (!x166))) rfl (x_not rfl) ?_))
       refine OV (.bool (!x166)) rfl (x_pickT' rfl hb165 rfl) ?_
       refine OV (.bool (!x166)) rfl (x_move) ?_
       refine ifB_elim hm (fun hb171 hm => ?_) (fun hb171 hm => ?_)
       · refine OW.cons (OP.no' rfl rfl hb171 rfl ?_)
         refine OW.cons (OP.no' rfl rfl hb171 rfl ?_)
         refine OW.cons (OP.no' rfl rfl hb171 rfl ?_)
         refine OW.cons (OP.no' rfl rfl hb171 rfl ?_)
         refine OW.cons (OP.noU rfl rfl rfl ?_)
         refine OW.cons (OP.noU rfl rfl rfl ?_)
         refine OW.cons (OP.noU rfl rfl rfl ?_)
         refine OW.cons (OP.no' rfl rfl hb171 rfl ?_)
         refine OV (.bool true) rfl (x_pickT' rfl hb171 rfl) ?_
         refine OW.nil ?_
         exact ⟨true, hm, ⟨f145, f146, rfl, hL⟩⟩
       refine OW.cons (OP.yes' rfl rfl hb171 (OP.val (v := (.pointer (some ⟨b135, 1, none⟩))) rfl (x_fieldAddr (fsz := 1) 0 1 1 U103 rfl Try_T2 rfl f147 rfl) ?_))
       refine OW.cons (OP.yes' rfl rfl hb171 (OP.val (v := (.int .i64 x127.Code)) rfl (x_load1 U2 rfl rfl (hL.cellB 0 rfl rfl)) ?_))
       refine OW.cons (OP.yes' rfl rfl hb171 (OP.val (v := (.bool (x127.Code != 0))) rfl (x_neq rfl rfl) ?_))
       refine OW.cons (OP.yes' rfl rfl hb171 (OP.val (v := (.bool (x127.Code != 0))) rfl (x_move) ?_))
       refine ifB_elim hm (fun hb172 hm => ?_) (fun hb172 hm => ?_)
       · refine OW.cons (OP.yes' rfl rfl hb172 (OP.val (v := (.pointer (some ⟨b135, 2, none⟩))) rfl (x_fieldAddr (fsz := 1) 0 2 2 U103 rfl Try_T2 rfl f147 rfl) ?_))
         refine OW.cons (OP.yes' rfl rfl hb172 (OP.val (v := (.int .i64 x127.Time)) rfl (x_load1 U2 rfl rfl (hL.cellB 0 rfl rfl)) ?_))
         refine OW.cons (OP.yes' rfl rfl hb172 (OP.val (v := (.bool (x127.Time != 0))) rfl (x_neq rfl rfl) ?_))
         refine OW.cons (OP.yes' rfl rfl hb171 (OP.val (v := (.bool (x127.Time != 0))) rfl (x_pickT' rfl hb172 rfl) ?_))
         refine OV (.bool (x127.Time != 0)) rfl (x_pickF' rfl hb171 rfl) ?_
         refine OW.nil ?_
         exact ⟨x127.Time != 0, hm, ⟨f145, f146, rfl, hL⟩⟩
       refine OW.cons (OP.no' rfl rfl hb172 rfl ?_)
       refine OW.cons (OP.no' rfl rfl hb172 rfl ?_)
       refine OW.cons (OP.no' rfl rfl hb172 rfl ?_)
       refine OW.cons (OP.yes' rfl rfl hb171 (OP.val (v := (.bool false)) rfl (x_pickF' rfl hb172 rfl) ?_))
       refine OV (.bool false) rfl (x_pickF' rfl hb171 rfl) ?_
       refine OW.nil ?_
       exact ⟨false, hm, ⟨f145, f146, rfl, hL⟩⟩
     refine OW.cons (OP.no' rfl rfl hb165 rfl ?_)
     refine OW.cons (OP.no' rfl rfl hb165 rfl ?_)
     refine OW.cons (OP.no' rfl rfl hb165 rfl ?_)
     refine OW.cons (OP.no' rfl rfl hb165 rfl ?_)
     refine OV (.bool false) rfl (x_pickF' rfl hb165 rfl) ?_
     refine OV (.bool false) rfl (x_move) ?_
     refine OW.cons (OP.yes' rfl rfl rfl (OP.val (v := (.pointer (some ⟨b135, 1, none⟩))) rfl (x_fieldAddr (fsz := 1) 0 1 1 U103 rfl Try_T2 rfl f147 rfl) ?_))
     refine OW.cons (OP.yes' rfl rfl rfl (OP.val (v := (.int .i64 x127.Code)) rfl (x_load1 U2 rfl rfl (hL.cellB 0 rfl rfl)) ?_))
     refine OW.cons (OP.yes' rfl rfl rfl (OP.val (v := (.bool (x127.Code != 0))) rfl (x_neq rfl rfl) ?_))
     refine OW.cons (OP.yes' rfl rfl rfl (OP.val (v := (.bool (x127.Code != 0))) rfl (x_move) ?_))
     refine ifB_elim hm (fun hb173 hm => ?_) (fun hb173 hm => ?_)
     · refine OW.cons (OP.yes' rfl rfl hb173 (OP.val (v := (.pointer (some ⟨b135, 2, none⟩))) rfl (x_fieldAddr (fsz := 1) 0 2 2 U103 rfl Try_T2 rfl f147 rfl) ?_))
       refine OW.cons (OP.yes' rfl rfl hb173 (OP.val (v := (.int .i64 x127.Time)) rfl (x_load1 U2 rfl rfl (hL.cellB 0 rfl rfl)) ?_))
       refine OW.cons (OP.yes' rfl rfl hb173 (OP.val (v := (.bool (x127.Time != 0))) rfl (x_neq rfl rfl) ?_))
       refine OW.cons (OP.yes' rfl rfl rfl (OP.val (v := (.bool (x127.Time != 0))) rfl (x_pickT' rfl hb173 rfl) ?_))
       refine OV (.bool (x127.Time != 0)) rfl (x_pickF' rfl rfl rfl) ?_
       refine OW.nil ?_
       exact ⟨x127.Time != 0, hm, ⟨f145, f146, rfl, hL⟩⟩
     refine OW.cons (OP.no' rfl rfl hb173 rfl ?_)
     refine OW.cons (OP.no' rfl rfl hb173 rfl ?_)
     refine OW.cons (OP.no' rfl rfl hb173 rfl ?_)
     refine OW.cons (OP.yes' rfl rfl rfl (OP.val (v := (.bool false)) rfl (x_pickF' rfl hb173 rfl) ?_))
     refine OV (.bool false) rfl (x_pickF' rfl rfl rfl) ?_
     refine OW.nil ?_
     exact ⟨false, hm, ⟨f145, f146, rfl, hL⟩⟩
   intro s_j2 F159 wd160 hJ hm
   unfold M.spec_l26Race_j2 at hm
   obtain ⟨f161, f162, f163, hL⟩ := hJ
   refine CW.condM (t := s_j2) f163 hm (fun hb164 hm => ?_) (fun hb164 hm => ?_)
   · refine CSR ?_
     refine OV (.bool false) rfl (x_assign) ?_
     refine OW.nil ?_
     refine CW.ret ?_
     obtain rfl := Option.some.inj hm
     have hm := hr115 _ rfl
     obtain rfl := Option.some.inj hm
     exact RR1 rfl rfl ⟨rfl, hL.fresh 2 rfl [] (by decide) (by decide) rfl⟩
   refine CW.skip ?_
   refine CW.regionL ?_
   refine OV (.int .i64 s_l1) rfl (x_mv f162) ?_
   refine OV (.int .i64 (w64 (s_l1 + 1))) rfl (x_add rfl rfl) ?_
   refine OV (.int .i64 (w64 (s_l1 + 1))) rfl (x_assign) ?_
   refine OW.nil ?_
   have hL := hL.sel [1, 2] (by decide) rfl
   obtain rfl := Option.some.inj hm
   exact ⟨_, rfl, ⟨f161, rfl, hL⟩⟩
 refine CW.exit ?_
 refine XJ.hit ?_
 obtain rfl := Option.some.inj hm
 exact ⟨_, rfl, ⟨f124, f125, hL⟩⟩

theorem M.spec_IsSeries_ok (w0 : World) (a0 : Series) {v1 : Value} (h2 : rdL (· < w0.heap.size) w0 v1 a0.Races) {r : Bool} (hm : M.spec_IsSeries a0 = some r) :
    Calls Try.prog 122 #[(.agg #[(.int .i64 a0.Boats), (.int .i64 a0.Scheme), v1])] w0 fun e w' => e = .returned (.bool r) ∧ Fresh w0 w' [] := by
 unfold M.spec_IsSeries at hm
 refine calls_CW (args := [(.agg #[(.int .i64 a0.Boats), (.int .i64 a0.Scheme), v1])]) Try.func122 rfl rfl rfl ?_
 have hL := Hp.start w0
 refine CSR ?_
 refine OW.cons (S_box (cs := #[(.int .i64 a0.Boats), (.int .i64 a0.Scheme), v1]) hL rfl rfl rfl ?_)
 intro wd3 b4 hL
 refine OV (.bool false) rfl (x_assign) ?_
 refine ONS ?_
 refine CW.seqJ (fun (s_j1 : Bool) (F : Fr) (w : World) => F 1 = (.pointer (some ⟨b4, 0, none⟩)) ∧ F 19 = (.bool s_j1) ∧ Hp w0 [Ent.blk b4 97 #[(.int .i64 a0.Boats), (.int .i64 a0.Scheme), v1], Ent.snap w0 w0.heap.size] w) (fun s_j1 => M.spec_IsSeries_j1 a0 s_j1 = some r) ?_ ?_
 · refine CW.regionL ?_
   refine OV (.pointer (some ⟨b4, 0, none⟩)) rfl (x_fieldAddr (fsz := 1) 0 0 0 U97 rfl Try_T2 rfl rfl rfl) ?_
   refine OV (.int .i64 a0.Boats) rfl (x_load1 U2 rfl rfl (hL.cellB 0 rfl rfl)) ?_
   obtain ⟨x82, hx83, hm⟩ := bndE hm
   refine OW.cons (OP.call rfl (x_call (vs := [(.int .i64 a0.Boats), (.int .i64 1), (.int .i64 16)]) Try_C88 ⟨rfl, rfl, rfl, trivial⟩) (M.spec_l01In_ok _ a0.Boats 1 16 hx83) ?_)
   rintro e84 wd85 ⟨rfl, hF86⟩
   refine ⟨_, rfl, ?_⟩
   have hL := hL.pushAll hF86
   simp only [lA, lB, lC, lD] at hL
   refine OV (.bool (!x82)) rfl (x_not rfl) ?_
   refine OV (.bool (!x82)) rfl (x_move) ?_
   refine ifB_elim hm (fun hb87 hm => ?_) (fun hb87 hm => ?_)
   · refine OW.cons (OP.no' rfl rfl hb87 rfl ?_)
     refine OW.cons (OP.no' rfl rfl hb87 rfl ?_)
     refine OW.cons (OP.no' rfl rfl hb87 rfl ?_)
     refine OW.cons (OP.no' rfl rfl hb87 rfl ?_)
     refine OV (.bool true) rfl (x_pickT' rfl hb87 rfl) ?_
     refine OV (.bool true) rfl (x_move) ?_
     refine OW.cons (OP.no' rfl rfl rfl rfl ?_)
     refine OW.cons (OP.no' rfl rfl rfl rfl ?_)
     refine OW.cons (OP.no' rfl rfl rfl rfl ?_)
     refine OW.cons (OP.no' rfl rfl rfl rfl ?_)
     refine OV (.bool true) rfl (x_pickT' rfl rfl rfl) ?_
     refine OW.nil ?_
     exact ⟨true, hm, ⟨rfl, rfl, hL⟩⟩
   refine OW.cons (OP.yes' rfl rfl hb87 (OP.val (v := (.pointer (some ⟨b4, 1, none⟩))) rfl (x_fieldAddr (fsz := 1) 0 1 1 U97 rfl Try_T2 rfl rfl rfl) ?_))
   refine OW.cons (OP.yes' rfl rfl hb87 (OP.val (v := (.int .i64 a0.Scheme)) rfl (x_load1 U2 rfl rfl (hL.cellB 0 rfl rfl)) ?_))
   obtain ⟨x88, hx89, hm⟩ := bndE hm
   refine OW.cons (OP.yes' rfl rfl hb87 (OP.call rfl (x_call (vs := [(.int .i64 a0.Scheme), (.int .i64 0), (.int .i64 1)]) Try_C88 ⟨rfl, rfl, rfl, trivial⟩) (M.spec_l01In_ok _ a0.Scheme 0 1 hx89) ?_))
   rintro e90 wd91 ⟨rfl, hF92⟩
   refine ⟨_, rfl, ?_⟩
   have hL := hL.pushAll hF92
   simp only [lA, lB, lC, lD] at hL
   refine OW.cons (OP.yes' rfl rfl hb87 (OP.val (v := (.bool (!x88))) rfl (x_not rfl) ?_))
   refine OV (.bool (!x88)) rfl (x_pickF' rfl hb87 rfl) ?_
   refine OV (.bool (!x88)) rfl (x_move) ?_
   refine ifB_elim hm (fun hb93 hm => ?_) (fun hb93 hm => ?_)
   · refine OW.cons (OP.no' rfl rfl hb93 rfl ?_)
     refine OW.cons (OP.no' rfl rfl hb93 rfl ?_)
     refine OW.cons (OP.no' rfl rfl hb93 rfl ?_)
     refine OW.cons (OP.no' rfl rfl hb93 rfl ?_)
     refine OV (.bool true) rfl (x_pickT' rfl hb93 rfl) ?_
     refine OW.nil ?_
     exact ⟨true, hm, ⟨rfl, rfl, hL⟩⟩
   refine OW.cons (OP.yes' rfl rfl hb93 (OP.val (v := (.pointer (some ⟨b4, 2, none⟩))) rfl (x_fieldAddr (fsz := 1) 0 2 2 U97 rfl Try_T95 rfl rfl rfl) ?_))
   refine OW.cons (OP.yes' rfl rfl hb93 (OP.val (v := v1) rfl (x_load1 U95 rfl rfl (hL.cellB 0 rfl rfl)) ?_))
   refine OW.cons (OP.yes' rfl rfl hb93 (OP.val (v := (.int .i64 (a0.Races.length : Int))) rfl (x_lenR U95 rfl (hL.rdS 1 rfl h2)) ?_))
   refine OW.cons (OP.yes' rfl rfl hb93 (OP.val (v := (.bool (decide (12 < (a0.Races.length : Int))))) rfl (x_gtr rfl rfl) ?_))
   refine OV (.bool (decide (12 < (a0.Races.length : Int)))) rfl (x_pickF' rfl hb93 rfl) ?_
   refine OW.nil ?_
   exact ⟨decide (12 < (a0.Races.length : Int)), hm, ⟨rfl, rfl, hL⟩⟩
 intro s_j1 F17 wd18 hJ hm
 unfold M.spec_IsSeries_j1 at hm
 obtain ⟨f19, f20, hL⟩ := hJ
 refine CW.condM (t := s_j1) f20 hm (fun hb21 hm => ?_) (fun hb21 hm => ?_)
 · refine CSR ?_
   refine OV (.bool false) rfl (x_assign) ?_
   refine OW.nil ?_
   refine CW.ret ?_
   obtain rfl := Option.some.inj hm
   exact RR1 rfl rfl ⟨rfl, hL.fresh 1 rfl [] (by decide) (by decide) rfl⟩
 refine CW.skip ?_
 refine CW.seq ?_
 refine CSR ?_
 refine OV (.int .i64 0) rfl (x_assign) ?_
 refine OW.nil ?_
 obtain ⟨o56, ho57, hm⟩ := bndE hm
 refine CW.loopB (fun (s_l1 : Int) (F : Fr) (w : World) => F 1 = (.pointer (some ⟨b4, 0, none⟩)) ∧ F 3 = (.int .i64 s_l1) ∧ Hp w0 [Ent.blk b4 97 #[(.int .i64 a0.Boats), (.int .i64 a0.Scheme), v1], Ent.snap w0 w0.heap.size] w) (fun o => outc o (fun x => some x) (fun s => M.spec_IsSeries_a1 s) = some r) ho57 hm ⟨f19, rfl, hL⟩ ?_ ?_
 · intro s_l1 F58 wd59 hJ hm
   have hm := outcE hm
   have hm : M.spec_IsSeries_a1 s_l1 = some r := hm
   unfold M.spec_IsSeries_a1 at hm
   obtain ⟨f60, f61, hL⟩ := hJ
   refine CSR ?_
   refine OV (.bool true) rfl (x_assign) ?_
   refine OW.nil ?_
   refine CW.ret ?_
   obtain rfl := Option.some.inj hm
   exact RR1 rfl rfl ⟨rfl, hL.fresh 1 rfl [] (by decide) (by decide) rfl⟩
 intro s_l1 F62 wd63 t54 hJ hm hr55
 unfold M.spec_IsSeries_l1 at hm
 obtain ⟨f64, f65, hL⟩ := hJ
 refine CW.seq ?_
 refine CSR ?_
 refine OV (.int .i64 s_l1) rfl (x_mv f65) ?_
 refine OV (.pointer (some ⟨b4, 2, none⟩)) rfl (x_fieldAddr (fsz := 1) 0 2 2 U97 rfl Try_T95 rfl f64 rfl) ?_
 refine OV v1 rfl (x_load1 U95 rfl rfl (hL.cellB 0 rfl rfl)) ?_
 refine OV (.int .i64 (a0.Races.length : Int)) rfl (x_lenR U95 rfl (hL.rdS 1 rfl h2)) ?_
 refine OV (.bool (decide (s_l1 < (a0.Races.length : Int)))) rfl (x_lss rfl rfl) ?_
 refine OW.nil ?_
 refine CW.condM (t := decide (s_l1 < (a0.Races.length : Int))) rfl hm (fun hb66 hm => ?_) (fun hb66 hm => ?_)
 · refine CW.skip ?_
   refine CW.seq ?_
   refine CW.block ?_
   refine CW.seq ?_
   refine CW.draw Try_mixed ?_
   have hL := hL.call (Mod.drew _)
   refine DW.pre (fuel := 0) (fin := bma 9 511) (C := fun w' => Mod None_ _ w') [0, 1, 2, 3, 4, 5, 6, 7, 8] (Mod.refl _ _) (by kernel_rfl) (by kernel_rfl) ?_
   refine QW.cons rfl (QP.val (v := (.pointer (some ⟨b4, 0, none⟩))) rfl (fun w' hm' => x_fieldAddr (fsz := 1) 0 0 0 U97 rfl Try_T2 rfl f64 rfl) ?_)
   refine QW.cons rfl (QP.val (v := (.int .i64 a0.Boats)) rfl (fun w' hm' => x_load1 U2 rfl rfl ((hL.call hm').cellB 0 rfl rfl)) ?_)
   refine QW.cons rfl (QP.val (v := (.pointer (some ⟨b4, 2, none⟩))) rfl (fun w' hm' => x_fieldAddr (fsz := 1) 0 2 2 U97 rfl Try_T95 rfl f64 rfl) ?_)
   refine QW.cons rfl (QP.val (v := v1) rfl (fun w' hm' => x_load1 U95 rfl rfl ((hL.call hm').cellB 0 rfl rfl)) ?_)
   refine QW.cons rfl (QP.val (v := (.int .i64 s_l1)) rfl (fun w' hm' => x_mv f65) ?_)
   obtain ⟨x67, ha68, hm⟩ := bndE hm
   obtain ⟨hz69, ha77⟩ := idxE ha68
   obtain ⟨b70, q71, v72, hix73, hs74, hc75, hr76⟩ := rdN_at h2 hz69 ha77
   refine QW.cons rfl (QP.val (v := (.pointer (some ⟨b70, q71, none⟩))) rfl (fun w' hm' => x_ix U95 Try_T101 rfl rfl hix73) ?_)
   refine QW.cons rfl (QP.val (v := (.agg #[v72])) rfl (fun w' hm' => x_loadN (cs := [v72]) U101 Try_T101 rfl rfl (by intro j u hj; match j, hj with | 0, hj => (simp at hj; subst hj; exact ((hL.call hm').cellS 1 rfl hs74 hc75)))) ?_)
   obtain ⟨x78, hx79, hm⟩ := bndE hm
   refine QW.cons rfl (QP.call (v := (.bool x78)) rfl (fun w' hm' => x_call (vs := [(.int .i64 a0.Boats), (.agg #[v72])]) Try_C136 ⟨rfl, rfl, trivial⟩) (fun w' hm' => (M.spec_l26Race_ok w' a0.Boats x67 ((hL.call hm').rdS 1 rfl hr76) hx79).mono (fun e w'' h => ⟨h.1, hm'.trans h.2.mod⟩)) ?_)
   refine QW.cons rfl (QP.val (v := (.bool (!x78))) rfl (fun w' hm' => x_not rfl) ?_)
   refine QW.nil ?_
   intro wd80 hmod
   have hL := hL.call hmod
   refine DW.done (by kernel_rfl) ?_
   refine CW.condM (t := !x78) rfl hm (fun hb81 hm => ?_) (fun hb81 hm => ?_)
   · refine CSR ?_
     refine OV (.bool false) rfl (x_assign) ?_
     refine OW.nil ?_
     refine CW.ret ?_
     obtain rfl := Option.some.inj hm
     have hm := hr55 _ rfl
     obtain rfl := Option.some.inj hm
     exact RR1 rfl rfl ⟨rfl, hL.fresh 1 rfl [] (by decide) (by decide) rfl⟩
   refine CW.skip ?_
   refine CW.regionL ?_
   refine OV (.int .i64 s_l1) rfl (x_mv f65) ?_
   refine OV (.int .i64 (w64 (s_l1 + 1))) rfl (x_add rfl rfl) ?_
   refine OV (.int .i64 (w64 (s_l1 + 1))) rfl (x_assign) ?_
   refine OW.nil ?_
   obtain rfl := Option.some.inj hm
   exact ⟨_, rfl, ⟨f64, rfl, hL⟩⟩
 refine CW.exit ?_
 refine XJ.hit ?_
 obtain rfl := Option.some.inj hm
 exact ⟨_, rfl, ⟨f64, f65, hL⟩⟩

theorem M.spec_l26Done_ok (w0 : World) (a0 : Finish) {r : Bool} (hm : M.spec_l26Done a0 = some r) :
    Calls Try.prog 145 #[(.agg #[(.int .i64 a0.Boat), (.int .i64 a0.Code), (.int .i64 a0.Time)])] w0 fun e w' => e = .returned (.bool r) ∧ Fresh w0 w' [] := by
 unfold M.spec_l26Done at hm
 refine calls_CW (args := [(.agg #[(.int .i64 a0.Boat), (.int .i64 a0.Code), (.int .i64 a0.Time)])]) Try.func145 rfl rfl rfl ?_
 have hL := Hp.start w0
 refine CSR ?_
 refine OW.cons (S_box (cs := #[(.int .i64 a0.Boat), (.int .i64 a0.Code), (.int .i64 a0.Time)]) hL rfl rfl rfl ?_)
 intro wd1 b2 hL
 refine OV (.bool false) rfl (x_assign) ?_
 refine ONR ?_
 refine OV (.pointer (some ⟨b2, 1, none⟩)) rfl (x_fieldAddr (fsz := 1) 0 1 1 U103 rfl Try_T2 rfl rfl rfl) ?_
 refine OV (.int .i64 a0.Code) rfl (x_load1 U2 rfl rfl (hL.cellB 0 rfl rfl)) ?_
 refine OV (.bool (a0.Code == 0)) rfl (x_eql rfl rfl) ?_
 refine OV (.bool (a0.Code == 0)) rfl (x_assign) ?_
 refine OW.nil ?_
 refine CW.ret ?_
 obtain rfl := Option.some.inj hm
 exact RR1 rfl rfl ⟨rfl, hL.fresh 1 rfl [] (by decide) (by decide) rfl⟩

theorem M.spec_l26Place_ok (w0 : World) (a0 : Race) {v1 : Value} (h2 : rdL (· < w0.heap.size) w0 v1 a0.Finishes) (a1 : List Int) {v3 : Value} (h4 : rdL (· < w0.heap.size) w0 v3 a1) (a2 : Int) {r : Int × Int} (hm : M.spec_l26Place a0 a1 a2 = some r) :
    Calls Try.prog 137 #[(.agg #[v1]), v3, (.int .i64 a2)] w0 fun e w' => e = .returned (.tuple #[(.int .i64 r.1), (.int .i64 r.2)]) ∧ Fresh w0 w' [] := by
 unfold M.spec_l26Place at hm
 refine calls_CW (args := [(.agg #[v1]), v3, (.int .i64 a2)]) Try.func137 rfl rfl rfl ?_
 have hL := Hp.start w0
 refine CSR ?_
 refine OW.cons (S_box (cs := #[v1]) hL rfl rfl rfl ?_)
 intro wd5 b6 hL
 refine OV (.int .i64 0) rfl (x_assign) ?_
 refine OV (.int .i64 0) rfl (x_assign) ?_
 refine ONR ?_
 refine OV (.int .i64 1) rfl (x_assign) ?_
 refine ONR ?_
 refine OV (.int .i64 0) rfl (x_assign) ?_
 refine ONS ?_
 refine CSR ?_
 refine OV (.int .i64 0) rfl (x_assign) ?_
 refine OW.nil ?_
 obtain ⟨o819, ho820, hm⟩ := bndE hm
 refine CW.loopB (fun (s_l1 : Int × Int × Int) (F : Fr) (w : World) => F 1 = v3 ∧ F 2 = (.int .i64 a2) ∧ F 3 = (.pointer (some ⟨b6, 0, none⟩)) ∧ F 8 = (.int .i64 s_l1.1) ∧ F 9 = (.int .i64 s_l1.2.1) ∧ F 10 = (.int .i64 s_l1.2.2) ∧ Hp w0 [Ent.blk b6 101 #[v1], Ent.snap w0 w0.heap.size] w) (fun o => outc o (fun x => some x) (fun s => M.spec_l26Place_a1 s) = some r) ho820 hm ⟨rfl, rfl, rfl, rfl, rfl, rfl, hL⟩ ?_ ?_
 · intro s_l1 F821 wd822 hJ hm
   have hm := outcE hm
   have hm : M.spec_l26Place_a1 s_l1 = some r := hm
   unfold M.spec_l26Place_a1 at hm
   obtain ⟨f823, f824, f825, f826, f827, f828, hL⟩ := hJ
   refine CSR ?_
   refine OV (.int .i64 s_l1.1) rfl (x_mv f826) ?_
   refine OV (.int .i64 s_l1.2.1) rfl (x_mv f827) ?_
   refine OV (.int .i64 s_l1.1) rfl (x_assign) ?_
   refine OV (.int .i64 s_l1.2.1) rfl (x_assign) ?_
   refine OW.nil ?_
   refine CW.ret ?_
   obtain rfl := Option.some.inj hm
   exact RR2 rfl rfl rfl ⟨rfl, hL.fresh 1 rfl [] (by decide) (by decide) rfl⟩
 intro s_l1 F829 wd830 t817 hJ hm hr818
 unfold M.spec_l26Place_l1 at hm
 obtain ⟨f831, f832, f833, f834, f835, f836, hL⟩ := hJ
 refine CW.seq ?_
 refine CSR ?_
 refine OV (.int .i64 s_l1.2.2) rfl (x_mv f836) ?_
 refine OV (.pointer (some ⟨b6, 0, none⟩)) rfl (x_fieldAddr (fsz := 1) 0 0 0 U101 rfl Try_T99 rfl f833 rfl) ?_
 refine OV v1 rfl (x_load1 U99 rfl rfl (hL.cellB 0 rfl rfl)) ?_
 refine OV (.int .i64 (a0.Finishes.length : Int)) rfl (x_lenR U99 rfl (hL.rdS 1 rfl h2)) ?_
 refine OV (.bool (decide (s_l1.2.2 < (a0.Finishes.length : Int)))) rfl (x_lss rfl rfl) ?_
 refine OW.nil ?_
 refine CW.condM (t := decide (s_l1.2.2 < (a0.Finishes.length : Int))) rfl hm (fun hb837 hm => ?_) (fun hb837 hm => ?_)
 · refine CW.skip ?_
   refine CW.seqJ (fun (s_j1 : Int × Int) (F : Fr) (w : World) => F 1 = v3 ∧ F 2 = (.int .i64 a2) ∧ F 3 = (.pointer (some ⟨b6, 0, none⟩)) ∧ F 8 = (.int .i64 s_j1.1) ∧ F 9 = (.int .i64 s_j1.2) ∧ F 10 = (.int .i64 s_l1.2.2) ∧ Hp w0 [Ent.blk b6 101 #[v1], Ent.snap w0 w0.heap.size] w) (fun s_j1 => M.spec_l26Place_j1 s_l1 s_j1 = some t817) ?_ ?_
   · refine CW.blockJ (fun (s_j2 : Int × Int) (F : Fr) (w : World) => F 1 = v3 ∧ F 2 = (.int .i64 a2) ∧ F 3 = (.pointer (some ⟨b6, 0, none⟩)) ∧ F 8 = (.int .i64 s_j2.1) ∧ F 9 = (.int .i64 s_j2.2) ∧ F 10 = (.int .i64 s_l1.2.2) ∧ Hp w0 [Ent.blk b6 101 #[v1], Ent.snap w0 w0.heap.size] w) (fun s_j2 => M.spec_l26Place_j2 s_l1 s_j2 = some t817) ?_ ?_
     · refine CSR ?_
       refine OV (.pointer (some ⟨b6, 0, none⟩)) rfl (x_fieldAddr (fsz := 1) 0 0 0 U101 rfl Try_T99 rfl f833 rfl) ?_
       refine OV v1 rfl (x_load1 U99 rfl rfl (hL.cellB 0 rfl rfl)) ?_
       refine OV (.int .i64 s_l1.2.2) rfl (x_mv f836) ?_
       obtain ⟨x1147, ha1148, hm⟩ := bndE hm
       obtain ⟨hz1149, ha1153⟩ := idxE ha1148
       obtain ⟨b1150, q1151, hix1152⟩ := rdL_ix (hL.rdS 1 rfl h2) hz1149 ha1153
       refine OV (.pointer (some ⟨b1150, q1151, none⟩)) rfl (x_ix U99 Try_T103 rfl rfl hix1152) ?_
       refine OV (.agg #[(.int .i64 x1147.Boat), (.int .i64 x1147.Code), (.int .i64 x1147.Time)]) rfl (x_loadN (cs := [(.int .i64 x1147.Boat), (.int .i64 x1147.Code), (.int .i64 x1147.Time)]) U103 Try_T103 rfl rfl (rdF_cells (hL.rdS 1 rfl h2) hix1152 ha1153)) ?_
       refine OW.cons (S_alloc (cs := #[(.int .i64 0), (.int .i64 0), (.int .i64 0)]) hL Try_T103 rfl rfl ?_)
       intro wd1154 b1155 hL
       refine OW.cons (S_storeN (l := [(.int .i64 x1147.Boat), (.int .i64 x1147.Code), (.int .i64 x1147.Time)]) (cs' := #[(.int .i64 x1147.Boat), (.int .i64 x1147.Code), (.int .i64 x1147.Time)]) hL 0 rfl Try_T103 rfl rfl (List.forall_mem_cons.2 ⟨rfl, (List.forall_mem_cons.2 ⟨rfl, (List.forall_mem_cons.2 ⟨rfl, (fun _ h => by cases h)⟩)⟩)⟩) rfl (Nat.le_of_ble_eq_true rfl) rfl ?_)
       intro wd1156 hL
       refine ONS ?_
       refine CW.seqJ (fun (s_j3 : Bool) (F : Fr) (w : World) => F 1 = v3 ∧ F 2 = (.int .i64 a2) ∧ F 3 = (.pointer (some ⟨b6, 0, none⟩)) ∧ F 8 = (.int .i64 s_l1.1) ∧ F 9 = (.int .i64 s_l1.2.1) ∧ F 10 = (.int .i64 s_l1.2.2) ∧ F 11 = (.pointer (some ⟨b1155, 0, none⟩)) ∧ F 37 = (.bool s_j3) ∧ Hp w0 [Ent.blk b1155 103 #[(.int .i64 x1147.Boat), (.int .i64 x1147.Code), (.int .i64 x1147.Time)], Ent.blk b6 101 #[v1], Ent.snap w0 w0.heap.size] w) (fun s_j3 => M.spec_l26Place_j3 a0 a2 s_l1 x1147 s_j3 = some t817) ?_ ?_
       · refine CW.draw Try_mixed ?_
         have hL := hL.call (Mod.drew _)
         refine DW.pre (fuel := 0) (fin := bma 14 16383) (C := fun w' => Mod None_ _ w') [0, 1, 2, 3, 4, 5, 6, 7, 8, 9, 10, 11, 12, 13] (Mod.refl _ _) (by kernel_rfl) (by kernel_rfl) ?_
         refine QW.cons rfl (QP.val (v := (.agg #[(.int .i64 x1147.Boat), (.int .i64 x1147.Code), (.int .i64 x1147.Time)])) rfl (fun w' hm' => x_loadN (cs := [(.int .i64 x1147.Boat), (.int .i64 x1147.Code), (.int .i64 x1147.Time)]) U103 Try_T103 rfl rfl ((hL.call hm').cellsB 0 rfl (o := 0) (l := [(.int .i64 x1147.Boat), (.int .i64 x1147.Code), (.int .i64 x1147.Time)]) (by intro j u hj; exact (by simpa using hj)))) ?_)
         obtain ⟨x1223, hx1224, hm⟩ := bndE hm
         refine QW.cons rfl (QP.call (v := (.bool x1223)) rfl (fun w' hm' => x_call (vs := [(.agg #[(.int .i64 x1147.Boat), (.int .i64 x1147.Code), (.int .i64 x1147.Time)])]) Try_C145 ⟨rfl, trivial⟩) (fun w' hm' => (M.spec_l26Done_ok w' x1147 hx1224).mono (fun e w'' h => ⟨h.1, hm'.trans h.2.mod⟩)) ?_)
         refine QW.cons rfl (QP.val (v := (.bool (!x1223))) rfl (fun w' hm' => x_not rfl) ?_)
         refine QW.cons rfl (QP.val (v := (.bool (!x1223))) rfl (fun w' hm' => x_move) ?_)
         refine ifB_elim hm (fun hb1225 hm => ?_) (fun hb1225 hm => ?_)
         · refine QW.cons rfl (QP.no' rfl rfl hb1225 rfl ?_)
           refine QW.cons rfl (QP.no' rfl rfl hb1225 rfl ?_)
           refine QW.cons rfl (QP.no' rfl rfl hb1225 rfl ?_)
           refine QW.cons rfl (QP.no' rfl rfl hb1225 rfl ?_)
           refine QW.cons rfl (QP.no' rfl rfl hb1225 rfl ?_)
           refine QW.cons rfl (QP.no' rfl rfl hb1225 rfl ?_)
           refine QW.cons rfl (QP.no' rfl rfl hb1225 rfl ?_)
           refine QW.cons rfl (QP.no' rfl rfl hb1225 rfl ?_)
           refine QW.cons rfl (QP.no' rfl rfl hb1225 rfl ?_)
           refine QW.cons rfl (QP.val (v := (.bool true)) rfl (fun w' hm' => x_pickT' rfl hb1225 rfl) ?_)
           refine QW.nil ?_
           intro wd1226 hmod
           have hL := hL.call hmod
           refine DW.done (by kernel_rfl) ?_
           exact ⟨true, hm, ⟨f831, f832, f833, f834, f835, f836, rfl, rfl, hL⟩⟩
         refine QW.cons rfl (QP.yes' rfl rfl hb1225 (QP.val (v := v3) rfl (fun w' hm' => x_mv f831) ?_))
         refine QW.cons rfl (QP.yes' rfl rfl hb1225 (QP.val (v := (.int .i64 s_l1.2.2)) rfl (fun w' hm' => x_mv f836) ?_))
         obtain ⟨x1227, ha1228, hm⟩ := bndE hm
         obtain ⟨hz1229, ha1233⟩ := idxE ha1228
         obtain ⟨b1230, q1231, hix1232⟩ := rdL_ix (hL.rdS 2 rfl h4) hz1229 ha1233
         refine QW.cons rfl (QP.yes' rfl rfl hb1225 (QP.val (v := (.pointer (some ⟨b1230, q1231, none⟩))) rfl (fun w' hm' => x_ix U25 Try_T2 rfl rfl hix1232) ?_))
         refine QW.cons rfl (QP.yes' rfl rfl hb1225 (QP.val (v := (.int .i64 x1227)) rfl (fun w' hm' => x_load1 U2 rfl rfl (rdF_cells ((hL.call hm').rdS 2 rfl h4) hix1232 ha1233 0 _ rfl)) ?_))
         refine QW.cons rfl (QP.yes' rfl rfl hb1225 (QP.val (v := v3) rfl (fun w' hm' => x_mv f831) ?_))
         refine QW.cons rfl (QP.yes' rfl rfl hb1225 (QP.val (v := (.int .i64 a2)) rfl (fun w' hm' => x_mv f832) ?_))
         obtain ⟨x1234, ha1235, hm⟩ := bndE hm
         obtain ⟨hz1236, ha1240⟩ := idxE ha1235
         obtain ⟨b1237, q1238, hix1239⟩ := rdL_ix (hL.rdS 2 rfl h4) hz1236 ha1240
         refine QW.cons rfl (QP.yes' rfl rfl hb1225 (QP.val (v := (.pointer (some ⟨b1237, q1238, none⟩))) rfl (fun w' hm' => x_ix U25 Try_T2 rfl rfl hix1239) ?_))
         refine QW.cons rfl (QP.yes' rfl rfl hb1225 (QP.val (v := (.int .i64 x1234)) rfl (fun w' hm' => x_load1 U2 rfl rfl (rdF_cells ((hL.call hm').rdS 2 rfl h4) hix1239 ha1240 0 _ rfl)) ?_))
         refine QW.cons rfl (QP.yes' rfl rfl hb1225 (QP.val (v := (.bool (x1227 != x1234))) rfl (fun w' hm' => x_neq rfl rfl) ?_))
         refine QW.cons rfl (QP.val (v := (.bool (x1227 != x1234))) rfl (fun w' hm' => x_pickF' rfl hb1225 rfl) ?_)
         refine QW.nil ?_
         intro wd1241 hmod
         have hL := hL.call hmod
         refine DW.done (by kernel_rfl) ?_
         exact ⟨x1227 != x1234, hm, ⟨f831, f832, f833, f834, f835, f836, rfl, rfl, hL⟩⟩
       intro s_j3 F1176 wd1177 hJ hm
       unfold M.spec_l26Place_j3 at hm
       obtain ⟨f1178, f1179, f1180, f1181, f1182, f1183, f1184, f1185, hL⟩ := hJ
       refine CW.condM (t := s_j3) f1185 hm (fun hb1186 hm => ?_) (fun hb1186 hm => ?_)
       · refine CW.exit ?_
         refine XJ.hit ?_
         have hL := hL.sel [1, 2] (by decide) rfl
         exact ⟨(s_l1.1, s_l1.2.1), hm, ⟨f1178, f1179, f1180, f1181, f1182, f1183, hL⟩⟩
       refine CW.skip ?_
       refine CW.seqJ (fun (s_j4 : Int) (F : Fr) (w : World) => F 1 = v3 ∧ F 2 = (.int .i64 a2) ∧ F 3 = (.pointer (some ⟨b6, 0, none⟩)) ∧ F 8 = (.int .i64 s_j4) ∧ F 9 = (.int .i64 s_l1.2.1) ∧ F 10 = (.int .i64 s_l1.2.2) ∧ F 11 = (.pointer (some ⟨b1155, 0, none⟩)) ∧ Hp w0 [Ent.blk b1155 103 #[(.int .i64 x1147.Boat), (.int .i64 x1147.Code), (.int .i64 x1147.Time)], Ent.blk b6 101 #[v1], Ent.snap w0 w0.heap.size] w) (fun s_j4 => M.spec_l26Place_j4 a0 a2 s_l1 x1147 s_j4 = some t817) ?_ ?_
       · refine CW.seq ?_
         refine CW.draw Try_mixed ?_
         have hL := hL.call (Mod.drew _)
         refine DW.pre (fuel := 0) (fin := bma 9 511) (C := fun w' => Mod None_ _ w') [0, 1, 2, 3, 4, 5, 6, 7, 8] (Mod.refl _ _) (by kernel_rfl) (by kernel_rfl) ?_
         refine QW.cons rfl (QP.val (v := (.pointer (some ⟨b1155, 2, none⟩))) rfl (fun w' hm' => x_fieldAddr (fsz := 1) 0 2 2 U103 rfl Try_T2 rfl f1184 rfl) ?_)
         refine QW.cons rfl (QP.val (v := (.int .i64 x1147.Time)) rfl (fun w' hm' => x_load1 U2 rfl rfl ((hL.call hm').cellB 0 rfl rfl)) ?_)
         refine QW.cons rfl (QP.val (v := (.pointer (some ⟨b6, 0, none⟩))) rfl (fun w' hm' => x_fieldAddr (fsz := 1) 0 0 0 U101 rfl Try_T99 rfl f1180 rfl) ?_)
         refine QW.cons rfl (QP.val (v := v1) rfl (fun w' hm' => x_load1 U99 rfl rfl ((hL.call hm').cellB 1 rfl rfl)) ?_)
         refine QW.cons rfl (QP.val (v := (.int .i64 a2)) rfl (fun w' hm' => x_mv f1179) ?_)
         obtain ⟨x1214, ha1215, hm⟩ := bndE hm
         obtain ⟨hz1216, ha1220⟩ := idxE ha1215
         obtain ⟨b1217, q1218, hix1219⟩ := rdL_ix (hL.rdS 2 rfl h2) hz1216 ha1220
         refine QW.cons rfl (QP.val (v := (.pointer (some ⟨b1217, q1218, none⟩))) rfl (fun w' hm' => x_ix U99 Try_T103 rfl rfl hix1219) ?_)
         refine QW.cons rfl (QP.val (v := (.pointer (some ⟨b1217, q1218 + 2, none⟩))) rfl (fun w' hm' => x_fieldAddr (fsz := 1) q1218 2 (q1218 + 2) U103 rfl Try_T2 rfl rfl rfl) ?_)
         refine QW.cons rfl (QP.val (v := (.int .i64 x1214.Time)) rfl (fun w' hm' => x_load1 U2 rfl rfl (rdF_cells ((hL.call hm').rdS 2 rfl h2) hix1219 ha1220 2 _ rfl)) ?_)
         refine QW.cons rfl (QP.val (v := (.bool (decide (x1147.Time < x1214.Time)))) rfl (fun w' hm' => x_lss rfl rfl) ?_)
         refine QW.nil ?_
         intro wd1221 hmod
         have hL := hL.call hmod
         refine DW.done (by kernel_rfl) ?_
         refine CW.condM (t := decide (x1147.Time < x1214.Time)) rfl hm (fun hb1222 hm => ?_) (fun hb1222 hm => ?_)
         · refine CW.regionL ?_
           refine OV (.int .i64 s_l1.1) rfl (x_mv f1181) ?_
           refine OV (.int .i64 (w64 (s_l1.1 + 1))) rfl (x_add rfl rfl) ?_
           refine OV (.int .i64 (w64 (s_l1.1 + 1))) rfl (x_assign) ?_
           refine OW.nil ?_
           exact ⟨w64 (s_l1.1 + 1), hm, ⟨f1178, f1179, f1180, rfl, f1182, f1183, f1184, hL⟩⟩
         refine CW.skip ?_
         exact ⟨s_l1.1, hm, ⟨f1178, f1179, f1180, f1181, f1182, f1183, f1184, hL⟩⟩
       intro s_j4 F1196 wd1197 hJ hm
       unfold M.spec_l26Place_j4 at hm
       obtain ⟨f1198, f1199, f1200, f1201, f1202, f1203, f1204, hL⟩ := hJ
       refine CW.seq ?_
       refine CW.draw Try_mixed ?_
       have hL := hL.call (Mod.drew _)
       refine DW.pre (fuel := 0) (fin := bma 9 511) (C := fun w' => Mod None_ _ w') [0, 1, 2, 3, 4, 5, 6, 7, 8] (Mod.refl _ _) (by kernel_rfl) (by kernel_rfl) ?_
       refine QW.cons rfl (QP.val (v := (.pointer (some ⟨b1155, 2, none⟩))) rfl (fun w' hm' => x_fieldAddr (fsz := 1) 0 2 2 U103 rfl Try_T2 rfl f1204 rfl) ?_)
       refine QW.cons rfl (QP.val (v := (.int .i64 x1147.Time)) rfl (fun w' hm' => x_load1 U2 rfl rfl ((hL.call hm').cellB 0 rfl rfl)) ?_)
       refine QW.cons rfl (QP.val (v := (.pointer (some ⟨b6, 0, none⟩))) rfl (fun w' hm' => x_fieldAddr (fsz := 1) 0 0 0 U101 rfl Try_T99 rfl f1200 rfl) ?_)
       refine QW.cons rfl (QP.val (v := v1) rfl (fun w' hm' => x_load1 U99 rfl rfl ((hL.call hm').cellB 1 rfl rfl)) ?_)
       refine QW.cons rfl (QP.val (v := (.int .i64 a2)) rfl (fun w' hm' => x_mv f1199) ?_)
       obtain ⟨x1205, ha1206, hm⟩ := bndE hm
       obtain ⟨hz1207, ha1211⟩ := idxE ha1206
       obtain ⟨b1208, q1209, hix1210⟩ := rdL_ix (hL.rdS 2 rfl h2) hz1207 ha1211
       refine QW.cons rfl (QP.val (v := (.pointer (some ⟨b1208, q1209, none⟩))) rfl (fun w' hm' => x_ix U99 Try_T103 rfl rfl hix1210) ?_)
       refine QW.cons rfl (QP.val (v := (.pointer (some ⟨b1208, q1209 + 2, none⟩))) rfl (fun w' hm' => x_fieldAddr (fsz := 1) q1209 2 (q1209 + 2) U103 rfl Try_T2 rfl rfl rfl) ?_)
       refine QW.cons rfl (QP.val (v := (.int .i64 x1205.Time)) rfl (fun w' hm' => x_load1 U2 rfl rfl (rdF_cells ((hL.call hm').rdS 2 rfl h2) hix1210 ha1211 2 _ rfl)) ?_)
       refine QW.cons rfl (QP.val (v := (.bool (x1147.Time == x1205.Time))) rfl (fun w' hm' => x_eql rfl rfl) ?_)
       refine QW.nil ?_
       intro wd1212 hmod
       have hL := hL.call hmod
       refine DW.done (by kernel_rfl) ?_
       refine CW.condM (t := x1147.Time == x1205.Time) rfl hm (fun hb1213 hm => ?_) (fun hb1213 hm => ?_)
       · refine CW.regionL ?_
         refine OV (.int .i64 s_l1.2.1) rfl (x_mv f1202) ?_
         refine OV (.int .i64 (w64 (s_l1.2.1 + 1))) rfl (x_add rfl rfl) ?_
         refine OV (.int .i64 (w64 (s_l1.2.1 + 1))) rfl (x_assign) ?_
         refine OW.nil ?_
         have hL := hL.sel [1, 2] (by decide) rfl
         exact ⟨(s_j4, w64 (s_l1.2.1 + 1)), hm, ⟨f1198, f1199, f1200, f1201, rfl, f1203, hL⟩⟩
       refine CW.skip ?_
       have hL := hL.sel [1, 2] (by decide) rfl
       exact ⟨(s_j4, s_l1.2.1), hm, ⟨f1198, f1199, f1200, f1201, f1202, f1203, hL⟩⟩
     intro s_j2 F1139 wd1140 hJ hm
     unfold M.spec_l26Place_j2 at hm
     obtain ⟨f1141, f1142, f1143, f1144, f1145, f1146, hL⟩ := hJ
     exact ⟨(s_j2.1, s_j2.2), hm, ⟨f1141, f1142, f1143, f1144, f1145, f1146, hL⟩⟩
   intro s_j1 F1036 wd1037 hJ hm
   unfold M.spec_l26Place_j1 at hm
   obtain ⟨f1038, f1039, f1040, f1041, f1042, f1043, hL⟩ := hJ
   refine CW.regionL ?_
   refine OV (.int .i64 s_l1.2.2) rfl (x_mv f1043) ?_
   refine OV (.int .i64 (w64 (s_l1.2.2 + 1))) rfl (x_add rfl rfl) ?_
   refine OV (.int .i64 (w64 (s_l1.2.2 + 1))) rfl (x_assign) ?_
   refine OW.nil ?_
   obtain rfl := Option.some.inj hm
   exact ⟨_, rfl, ⟨f1038, f1039, f1040, f1041, f1042, rfl, hL⟩⟩
 refine CW.exit ?_
 refine XJ.hit ?_
 obtain rfl := Option.some.inj hm
 exact ⟨_, rfl, ⟨f831, f832, f833, f834, f835, f836, hL⟩⟩

theorem M.spec_l26Points_ok (w0 : World) (a0 : Race) {v1 : Value} (h2 : rdL (· < w0.heap.size) w0 v1 a0.Finishes) (a1 : Int) {r : (List Int)} (hm : M.spec_l26Points a0 a1 = some r) :
    Calls Try.prog 123 #[(.agg #[v1]), (.int .i64 a1)] w0 fun e w' => ∃ (rv0 : Value) (rS0 : Nat → Prop), e = .returned rv0 ∧ Fresh w0 w' [Ent.own 2 rS0 rv0 r] := by
 unfold M.spec_l26Points at hm
 refine calls_CW (args := [(.agg #[v1]), (.int .i64 a1)]) Try.func123 rfl rfl rfl ?_
 have hL := Hp.start w0
 refine CSR ?_
 refine OW.cons (S_box (cs := #[v1]) hL rfl rfl rfl ?_)
 intro wd3 b4 hL
 refine OV (.slice none 0 0) rfl (x_assign) ?_
 refine ONR ?_
 refine OV (.pointer (some ⟨b4, 0, none⟩)) rfl (x_fieldAddr (fsz := 1) 0 0 0 U101 rfl Try_T99 rfl rfl rfl) ?_
 refine OV v1 rfl (x_load1 U99 rfl rfl (hL.cellB 0 rfl rfl)) ?_
 refine OV (.int .i64 (a0.Finishes.length : Int)) rfl (x_lenR U99 rfl (hL.rdS 1 rfl h2)) ?_
 refine OV (.int .i64 (a0.Finishes.length : Int)) rfl (x_assign) ?_
 refine ONR ?_
 refine OV (.int .i64 0) rfl (x_assign) ?_
 refine ONS ?_
 refine CSR ?_
 refine OV (.int .i64 0) rfl (x_assign) ?_
 refine OW.nil ?_
 obtain ⟨o115, ho116, hm⟩ := bndE hm
 refine CW.loopB (fun (s_l1 : Int × Int) (F : Fr) (w : World) => F 1 = (.int .i64 a1) ∧ F 2 = (.pointer (some ⟨b4, 0, none⟩)) ∧ F 5 = (.int .i64 (a0.Finishes.length : Int)) ∧ F 6 = (.int .i64 s_l1.1) ∧ F 7 = (.int .i64 s_l1.2) ∧ Hp w0 [Ent.blk b4 101 #[v1], Ent.snap w0 w0.heap.size] w) (fun o => outc o (fun x => some x) (fun s => M.spec_l26Points_a1 a0 a1 s) = some r) ho116 hm ⟨rfl, rfl, rfl, rfl, rfl, hL⟩ ?_ ?_
 · intro s_l1 F117 wd118 hJ hm
   have hm := outcE hm
   have hm : M.spec_l26Points_a1 a0 a1 s_l1 = some r := hm
   unfold M.spec_l26Points_a1 at hm
   obtain ⟨f119, f120, f121, f122, f123, hL⟩ := hJ
   refine CSR ?_
   refine OV (.int .i64 (a0.Finishes.length : Int)) rfl (x_mv f121) ?_
   obtain ⟨hc127, hm⟩ := chkE hm
   refine OW.cons (S_make (α := Int) 0 hL U25 Try_T2 rfl rfl rfl hc127 (by decide) rfl ?_)
   intro wd124 v125 S126 hL
   refine OV v125 rfl (x_assign) ?_
   refine ONR ?_
   refine OV (.int .i64 (a0.Finishes.length : Int)) rfl (x_mv f121) ?_
   obtain ⟨hc131, hm⟩ := chkE hm
   refine OW.cons (S_make (α := Int) 0 hL U25 Try_T2 rfl rfl rfl hc131 (by decide) rfl ?_)
   intro wd128 v129 S130 hL
   refine OV v129 rfl (x_assign) ?_
   refine ONS ?_
   refine CSR ?_
   refine OV (.int .i64 0) rfl (x_assign) ?_
   refine OW.nil ?_
   obtain ⟨o1038, ho1039, hm⟩ := bndE hm
   refine CW.loopB (fun (s_l2 : (List Int) × Int) (F : Fr) (w : World) => ∃ (S1035 : Nat → Prop), F 1 = (.int .i64 a1) ∧ F 2 = (.pointer (some ⟨b4, 0, none⟩)) ∧ F 5 = (.int .i64 (a0.Finishes.length : Int)) ∧ F 6 = (.int .i64 s_l1.1) ∧ F 8 = v125 ∧ F 9 = v129 ∧ F 10 = (.int .i64 s_l2.2) ∧ Hp w0 [Ent.own 2 S130 v129 (List.replicate ((a0.Finishes.length : Int)).toNat (0 : Int)), Ent.own 2 S1035 v125 s_l2.1, Ent.blk b4 101 #[v1], Ent.snap w0 w0.heap.size] w) (fun o => outc o (fun x => some x) (fun s => M.spec_l26Points_a2 s) = some r) ho1039 hm ⟨S126, f119, f120, f121, f122, rfl, rfl, rfl, hL⟩ ?_ ?_
   · intro s_l2 F1040 wd1041 hJ hm
     have hm := outcE hm
     have hm : M.spec_l26Points_a2 s_l2 = some r := hm
     unfold M.spec_l26Points_a2 at hm
     obtain ⟨S1035, f1042, f1043, f1044, f1045, f1046, f1047, f1048, hL⟩ := hJ
     refine CSR ?_
     refine OV v125 rfl (x_mv f1046) ?_
     refine OV v125 rfl (x_assign) ?_
     refine OW.nil ?_
     refine CW.ret ?_
     obtain rfl := Option.some.inj hm
     exact RR1 rfl rfl ⟨v125, S1035, rfl, hL.fresh 3 rfl [1] (by decide) (by decide) rfl⟩
   intro s_l2 F1049 wd1050 t1036 hJ hm hr1037
   unfold M.spec_l26Points_l2 at hm
   obtain ⟨S1035, f1051, f1052, f1053, f1054, f1055, f1056, f1057, hL⟩ := hJ
   refine CW.seq ?_
   refine CSR ?_
   refine OV (.int .i64 s_l2.2) rfl (x_mv f1057) ?_
   refine OV v125 rfl (x_mv f1055) ?_
   refine OV (.int .i64 (s_l2.1.length : Int)) rfl (x_lenR U25 rfl (hL.rdO 1 rfl)) ?_
   refine OV (.bool (decide (s_l2.2 < (s_l2.1.length : Int)))) rfl (x_lss rfl rfl) ?_
   refine OW.nil ?_
   refine CW.condM (t := decide (s_l2.2 < (s_l2.1.length : Int))) rfl hm (fun hb1058 hm => ?_) (fun hb1058 hm => ?_)
   · refine CW.skip ?_
     refine CW.seqJ (fun (s_j1 : (List Int)) (F : Fr) (w : World) => ∃ (S1279 : Nat → Prop), F 1 = (.int .i64 a1) ∧ F 2 = (.pointer (some ⟨b4, 0, none⟩)) ∧ F 5 = (.int .i64 (a0.Finishes.length : Int)) ∧ F 6 = (.int .i64 s_l1.1) ∧ F 8 = v125 ∧ F 9 = v129 ∧ F 10 = (.int .i64 s_l2.2) ∧ Hp w0 [Ent.own 2 S130 v129 (List.replicate ((a0.Finishes.length : Int)).toNat (0 : Int)), Ent.own 2 S1279 v125 s_j1, Ent.blk b4 101 #[v1], Ent.snap w0 w0.heap.size] w) (fun s_j1 => M.spec_l26Points_j1 s_l2 s_j1 = some t1036) ?_ ?_
     · refine CW.blockJ (fun (s_j2 : (List Int)) (F : Fr) (w : World) => ∃ (S1394 : Nat → Prop), F 1 = (.int .i64 a1) ∧ F 2 = (.pointer (some ⟨b4, 0, none⟩)) ∧ F 5 = (.int .i64 (a0.Finishes.length : Int)) ∧ F 6 = (.int .i64 s_l1.1) ∧ F 8 = v125 ∧ F 9 = v129 ∧ F 10 = (.int .i64 s_l2.2) ∧ Hp w0 [Ent.own 2 S130 v129 (List.replicate ((a0.Finishes.length : Int)).toNat (0 : Int)), Ent.own 2 S1394 v125 s_j2, Ent.blk b4 101 #[v1], Ent.snap w0 w0.heap.size] w) (fun s_j2 => M.spec_l26Points_j2 s_l2 s_j2 = some t1036) ?_ ?_
       · refine CSR ?_
         refine OV (.pointer (some ⟨b4, 0, none⟩)) rfl (x_fieldAddr (fsz := 1) 0 0 0 U101 rfl Try_T99 rfl f1052 rfl) ?_
         refine OV v1 rfl (x_load1 U99 rfl rfl (hL.cellB 2 rfl rfl)) ?_
         refine OV (.int .i64 s_l2.2) rfl (x_mv f1057) ?_
         obtain ⟨x1404, ha1405, hm⟩ := bndE hm
         obtain ⟨hz1406, ha1410⟩ := idxE ha1405
         obtain ⟨b1407, q1408, hix1409⟩ := rdL_ix (hL.rdS 3 rfl h2) hz1406 ha1410
         refine OV (.pointer (some ⟨b1407, q1408, none⟩)) rfl (x_ix U99 Try_T103 rfl rfl hix1409) ?_
         refine OV (.pointer (some ⟨b1407, q1408 + 1, none⟩)) rfl (x_fieldAddr (fsz := 1) q1408 1 (q1408 + 1) U103 rfl Try_T2 rfl rfl rfl) ?_
         refine OV (.int .i64 x1404.Code) rfl (x_load1 U2 rfl rfl (rdF_cells (hL.rdS 3 rfl h2) hix1409 ha1410 1 _ rfl)) ?_
         refine OV (.int .i64 x1404.Code) rfl (x_assign) ?_
         refine OW.nil ?_
         refine CW.blockJ (fun (s_j3 : (List Int)) (F : Fr) (w : World) => ∃ (S1455 : Nat → Prop), F 1 = (.int .i64 a1) ∧ F 2 = (.pointer (some ⟨b4, 0, none⟩)) ∧ F 5 = (.int .i64 (a0.Finishes.length : Int)) ∧ F 6 = (.int .i64 s_l1.1) ∧ F 8 = v125 ∧ F 9 = v129 ∧ F 10 = (.int .i64 s_l2.2) ∧ Hp w0 [Ent.own 2 S130 v129 (List.replicate ((a0.Finishes.length : Int)).toNat (0 : Int)), Ent.own 2 S1455 v125 s_j3, Ent.blk b4 101 #[v1], Ent.snap w0 w0.heap.size] w) (fun s_j3 => M.spec_l26Points_j3 s_l2 s_j3 = some t1036) ?_ ?_
         · refine CSR ?_
           refine OV (.int .i64 x1404.Code) rfl (x_move) ?_
           refine OV (.bool (x1404.Code == 0)) rfl (x_eql rfl rfl) ?_
           refine OV (.bool (x1404.Code == 0)) rfl (x_assign) ?_
           refine OW.nil ?_
           refine CW.condM (t := x1404.Code == 0) rfl hm (fun hb1465 hm => ?_) (fun hb1465 hm => ?_)
           · refine CSR ?_
             refine OV (.agg #[v1]) rfl (x_loadN (cs := [v1]) U101 Try_T101 rfl f1052 (hL.cellsB 2 rfl (o := 0) (l := [v1]) (by intro j u hj; exact (by simpa using hj)))) ?_
             refine OV v129 rfl (x_mv f1056) ?_
             refine OV (.int .i64 s_l2.2) rfl (x_mv f1057) ?_
             obtain ⟨x1466, hx1467, hm⟩ := bndE hm
             refine OW.cons (OP.call rfl (x_call (vs := [(.agg #[v1]), v129, (.int .i64 s_l2.2)]) Try_C137 ⟨rfl, rfl, rfl, trivial⟩) (M.spec_l26Place_ok _ a0 (hL.rdS 3 rfl h2) (List.replicate ((a0.Finishes.length : Int)).toNat (0 : Int)) (hL.rdO 0 rfl) s_l2.2 hx1467) ?_)
             rintro e1468 wd1469 ⟨rfl, hF1470⟩
             refine ⟨_, rfl, ?_⟩
             have hL := hL.pushAll hF1470
             simp only [lA, lB, lC, lD] at hL
             refine OV (.tuple #[(.int .i64 x1466.1), (.int .i64 x1466.2)]) rfl (x_move) ?_
             refine OV (.int .i64 x1466.1) rfl (x_extract rfl rfl) ?_
             refine OV (.int .i64 x1466.2) rfl (x_extract rfl rfl) ?_
             refine OV (.int .i64 x1466.1) rfl (x_assign) ?_
             refine OV (.int .i64 x1466.2) rfl (x_assign) ?_
             refine OW.nil ?_
             refine CW.regionL ?_
             refine OV v125 rfl (x_mv f1055) ?_
             refine OV (.int .i64 s_l2.2) rfl (x_mv f1057) ?_
             refine OV (.int .i64 x1466.1) rfl (x_move) ?_
             refine OV (.int .i64 (w64 (2 * x1466.1))) rfl (x_mul rfl rfl) ?_
             refine OV (.int .i64 x1466.2) rfl (x_move) ?_
             refine OV (.int .i64 (w64 ((w64 (2 * x1466.1)) + x1466.2))) rfl (x_add rfl rfl) ?_
             refine OV (.int .i64 (w64 ((w64 ((w64 (2 * x1466.1)) + x1466.2)) - 1))) rfl (x_sub rfl rfl) ?_
             refine OV (.int .i64 (w64 (5 * (w64 ((w64 ((w64 (2 * x1466.1)) + x1466.2)) - 1))))) rfl (x_mul rfl rfl) ?_
             obtain ⟨x1471, ha1472, hm⟩ := bndE hm
             obtain ⟨hz1473, ha1477⟩ := idxE ha1472
             obtain ⟨b1474, q1475, hix1476⟩ := rdL_ix (hL.rdO 1 rfl) hz1473 ha1477
             refine OV (.pointer (some ⟨b1474, q1475, none⟩)) rfl (x_ix U25 Try_T2 rfl rfl hix1476) ?_
             refine OW.cons (S_storeX (j := 0) (w64 (5 * (w64 ((w64 ((w64 (2 * x1466.1)) + x1466.2)) - 1)))) hL 1 rfl Try_T2 hix1476 ha1477 rfl rfl rfl rfl rfl rfl ?_)
             intro wd1478 hL
             refine OW.nil ?_
             exact ⟨s_l2.1.set (s_l2.2 : Int).toNat (w64 (5 * (w64 ((w64 ((w64 (2 * x1466.1)) + x1466.2)) - 1)))), hm, ⟨S1035, f1051, f1052, f1053, f1054, f1055, f1056, f1057, hL⟩⟩
           refine CSR ?_
           refine OV (.int .i64 x1404.Code) rfl (x_move) ?_
           refine OV (.bool (x1404.Code == 9)) rfl (x_eql rfl rfl) ?_
           refine OV (.bool (x1404.Code == 9)) rfl (x_assign) ?_
           refine OW.nil ?_
           refine CW.condM (t := x1404.Code == 9) rfl hm (fun hb1479 hm => ?_) (fun hb1479 hm => ?_)
           · refine CW.skip ?_
             exact ⟨s_l2.1, hm, ⟨S1035, f1051, f1052, f1053, f1054, f1055, f1056, f1057, hL⟩⟩
           refine CW.seqJ (fun (s_j4 : Bool) (F : Fr) (w : World) => F 1 = (.int .i64 a1) ∧ F 2 = (.pointer (some ⟨b4, 0, none⟩)) ∧ F 5 = (.int .i64 (a0.Finishes.length : Int)) ∧ F 6 = (.int .i64 s_l1.1) ∧ F 8 = v125 ∧ F 9 = v129 ∧ F 10 = (.int .i64 s_l2.2) ∧ F 77 = (.bool s_j4) ∧ Hp w0 [Ent.own 2 S130 v129 (List.replicate ((a0.Finishes.length : Int)).toNat (0 : Int)), Ent.own 2 S1035 v125 s_l2.1, Ent.blk b4 101 #[v1], Ent.snap w0 w0.heap.size] w) (fun s_j4 => M.spec_l26Points_j4 a0 s_l1 s_l2 s_j4 = some t1036) ?_ ?_
           · refine CW.regionL ?_
             refine OV (.int .i64 x1404.Code) rfl (x_move) ?_
             refine OV (.bool (x1404.Code == 1)) rfl (x_eql rfl rfl) ?_
             refine OV (.bool (x1404.Code == 1)) rfl (x_move) ?_
             refine ifB_elim hm (fun hb1508 hm => ?_) (fun hb1508 hm => ?_)
             · refine OW.cons (OP.no' rfl rfl hb1508 rfl ?_)
               refine OW.cons (OP.no' rfl rfl hb1508 rfl ?_)
               refine OV (.bool true) rfl (x_pickT' rfl hb1508 rfl) ?_
               refine OV (.bool true) rfl (x_assign) ?_
               refine OW.nil ?_
               exact ⟨true, hm, ⟨f1051, f1052, f1053, f1054, f1055, f1056, f1057, rfl, hL⟩⟩
             refine OW.cons (OP.yes' rfl rfl hb1508 (OP.val (v := (.int .i64 a1)) rfl (x_mv f1051) ?_))
             refine OW.cons (OP.yes' rfl rfl hb1508 (OP.val (v := (.bool (a1 == 0))) rfl (x_eql rfl rfl) ?_))
             refine OV (.bool (a1 == 0)) rfl (x_pickF' rfl hb1508 rfl) ?_
             refine OV (.bool (a1 == 0)) rfl (x_assign) ?_
             refine OW.nil ?_
             exact ⟨a1 == 0, hm, ⟨f1051, f1052, f1053, f1054, f1055, f1056, f1057, rfl, hL⟩⟩
           intro s_j4 F1481 wd1482 hJ hm
           unfold M.spec_l26Points_j4 at hm
           obtain ⟨f1483, f1484, f1485, f1486, f1487, f1488, f1489, f1490, hL⟩ := hJ
           refine CW.condM (t := s_j4) f1490 hm (fun hb1491 hm => ?_) (fun hb1491 hm => ?_)
           · refine CW.regionL ?_
             refine OV v125 rfl (x_mv f1487) ?_
             refine OV (.int .i64 s_l2.2) rfl (x_mv f1489) ?_
             refine OV (.int .i64 (a0.Finishes.length : Int)) rfl (x_mv f1485) ?_
             refine OV (.int .i64 (w64 ((a0.Finishes.length : Int) + 1))) rfl (x_add rfl rfl) ?_
             refine OV (.int .i64 (w64 (10 * (w64 ((a0.Finishes.length : Int) + 1))))) rfl (x_mul rfl rfl) ?_
             obtain ⟨x1492, ha1493, hm⟩ := bndE hm
             obtain ⟨hz1494, ha1498⟩ := idxE ha1493
             obtain ⟨b1495, q1496, hix1497⟩ := rdL_ix (hL.rdO 1 rfl) hz1494 ha1498
             refine OV (.pointer (some ⟨b1495, q1496, none⟩)) rfl (x_ix U25 Try_T2 rfl rfl hix1497) ?_
             refine OW.cons (S_storeX (j := 0) (w64 (10 * (w64 ((a0.Finishes.length : Int) + 1)))) hL 1 rfl Try_T2 hix1497 ha1498 rfl rfl rfl rfl rfl rfl ?_)
             intro wd1499 hL
             refine OW.nil ?_
             exact ⟨s_l2.1.set (s_l2.2 : Int).toNat (w64 (10 * (w64 ((a0.Finishes.length : Int) + 1)))), hm, ⟨S1035, f1483, f1484, f1485, f1486, f1487, f1488, f1489, hL⟩⟩
           refine CW.regionL ?_
           refine OV v125 rfl (x_mv f1487) ?_
           refine OV (.int .i64 s_l2.2) rfl (x_mv f1489) ?_
           refine OV (.int .i64 s_l1.1) rfl (x_mv f1486) ?_
           refine OV (.int .i64 (w64 (s_l1.1 + 1))) rfl (x_add rfl rfl) ?_
           refine OV (.int .i64 (w64 (10 * (w64 (s_l1.1 + 1))))) rfl (x_mul rfl rfl) ?_
           obtain ⟨x1500, ha1501, hm⟩ := bndE hm
           obtain ⟨hz1502, ha1506⟩ := idxE ha1501
           obtain ⟨b1503, q1504, hix1505⟩ := rdL_ix (hL.rdO 1 rfl) hz1502 ha1506
           refine OV (.pointer (some ⟨b1503, q1504, none⟩)) rfl (x_ix U25 Try_T2 rfl rfl hix1505) ?_
           refine OW.cons (S_storeX (j := 0) (w64 (10 * (w64 (s_l1.1 + 1)))) hL 1 rfl Try_T2 hix1505 ha1506 rfl rfl rfl rfl rfl rfl ?_)
           intro wd1507 hL
           refine OW.nil ?_
           exact ⟨s_l2.1.set (s_l2.2 : Int).toNat (w64 (10 * (w64 (s_l1.1 + 1)))), hm, ⟨S1035, f1483, f1484, f1485, f1486, f1487, f1488, f1489, hL⟩⟩
         intro s_j3 F1456 wd1457 hJ hm
         unfold M.spec_l26Points_j3 at hm
         obtain ⟨S1455, f1458, f1459, f1460, f1461, f1462, f1463, f1464, hL⟩ := hJ
         exact ⟨s_j3, hm, ⟨S1455, f1458, f1459, f1460, f1461, f1462, f1463, f1464, hL⟩⟩
       intro s_j2 F1395 wd1396 hJ hm
       unfold M.spec_l26Points_j2 at hm
       obtain ⟨S1394, f1397, f1398, f1399, f1400, f1401, f1402, f1403, hL⟩ := hJ
       exact ⟨s_j2, hm, ⟨S1394, f1397, f1398, f1399, f1400, f1401, f1402, f1403, hL⟩⟩
     intro s_j1 F1280 wd1281 hJ hm
     unfold M.spec_l26Points_j1 at hm
     obtain ⟨S1279, f1282, f1283, f1284, f1285, f1286, f1287, f1288, hL⟩ := hJ
     refine CW.regionL ?_
     refine OV (.int .i64 s_l2.2) rfl (x_mv f1288) ?_
     refine OV (.int .i64 (w64 (s_l2.2 + 1))) rfl (x_add rfl rfl) ?_
     refine OV (.int .i64 (w64 (s_l2.2 + 1))) rfl (x_assign) ?_
     refine OW.nil ?_
     obtain rfl := Option.some.inj hm
     exact ⟨_, rfl, ⟨S1279, f1282, f1283, f1284, f1285, f1286, f1287, rfl, hL⟩⟩
   refine CW.exit ?_
   refine XJ.hit ?_
   obtain rfl := Option.some.inj hm
   exact ⟨_, rfl, ⟨S1035, f1051, f1052, f1053, f1054, f1055, f1056, f1057, hL⟩⟩
 intro s_l1 F1509 wd1510 t113 hJ hm hr114
 unfold M.spec_l26Points_l1 at hm
 obtain ⟨f1511, f1512, f1513, f1514, f1515, hL⟩ := hJ
 refine CW.seq ?_
 refine CSR ?_
 refine OV (.int .i64 s_l1.2) rfl (x_mv f1515) ?_
 refine OV (.pointer (some ⟨b4, 0, none⟩)) rfl (x_fieldAddr (fsz := 1) 0 0 0 U101 rfl Try_T99 rfl f1512 rfl) ?_
 refine OV v1 rfl (x_load1 U99 rfl rfl (hL.cellB 0 rfl rfl)) ?_
 refine OV (.int .i64 (a0.Finishes.length : Int)) rfl (x_lenR U99 rfl (hL.rdS 1 rfl h2)) ?_
 refine OV (.bool (decide (s_l1.2 < (a0.Finishes.length : Int)))) rfl (x_lss rfl rfl) ?_
 refine OW.nil ?_
 refine CW.condM (t := decide (s_l1.2 < (a0.Finishes.length : Int))) rfl hm (fun hb1516 hm => ?_) (fun hb1516 hm => ?_)
 · refine CW.skip ?_
   refine CW.seqJ (fun (s_j5 : Int) (F : Fr) (w : World) => F 1 = (.int .i64 a1) ∧ F 2 = (.pointer (some ⟨b4, 0, none⟩)) ∧ F 5 = (.int .i64 (a0.Finishes.length : Int)) ∧ F 6 = (.int .i64 s_j5) ∧ F 7 = (.int .i64 s_l1.2) ∧ Hp w0 [Ent.blk b4 101 #[v1], Ent.snap w0 w0.heap.size] w) (fun s_j5 => M.spec_l26Points_j5 s_l1 s_j5 = some t113) ?_ ?_
   · refine CW.blockJ (fun (s_j6 : Int) (F : Fr) (w : World) => F 1 = (.int .i64 a1) ∧ F 2 = (.pointer (some ⟨b4, 0, none⟩)) ∧ F 5 = (.int .i64 (a0.Finishes.length : Int)) ∧ F 6 = (.int .i64 s_j6) ∧ F 7 = (.int .i64 s_l1.2) ∧ Hp w0 [Ent.blk b4 101 #[v1], Ent.snap w0 w0.heap.size] w) (fun s_j6 => M.spec_l26Points_j6 s_l1 s_j6 = some t113) ?_ ?_
     · refine CSR ?_
       refine OV (.pointer (some ⟨b4, 0, none⟩)) rfl (x_fieldAddr (fsz := 1) 0 0 0 U101 rfl Try_T99 rfl f1512 rfl) ?_
       refine OV v1 rfl (x_load1 U99 rfl rfl (hL.cellB 0 rfl rfl)) ?_
       refine OV (.int .i64 s_l1.2) rfl (x_mv f1515) ?_
       obtain ⟨x1562, ha1563, hm⟩ := bndE hm
       obtain ⟨hz1564, ha1568⟩ := idxE ha1563
       obtain ⟨b1565, q1566, hix1567⟩ := rdL_ix (hL.rdS 1 rfl h2) hz1564 ha1568
       refine OV (.pointer (some ⟨b1565, q1566, none⟩)) rfl (x_ix U99 Try_T103 rfl rfl hix1567) ?_
       refine OV (.pointer (some ⟨b1565, q1566 + 1, none⟩)) rfl (x_fieldAddr (fsz := 1) q1566 1 (q1566 + 1) U103 rfl Try_T2 rfl rfl rfl) ?_
       refine OV (.int .i64 x1562.Code) rfl (x_load1 U2 rfl rfl (rdF_cells (hL.rdS 1 rfl h2) hix1567 ha1568 1 _ rfl)) ?_
       refine OV (.bool (x1562.Code != 1)) rfl (x_neq rfl rfl) ?_
       refine OW.nil ?_
       refine CW.condM (t := x1562.Code != 1) rfl hm (fun hb1569 hm => ?_) (fun hb1569 hm => ?_)
       · refine CW.regionL ?_
         refine OV (.int .i64 s_l1.1) rfl (x_mv f1514) ?_
         refine OV (.int .i64 (w64 (s_l1.1 + 1))) rfl (x_add rfl rfl) ?_
         refine OV (.int .i64 (w64 (s_l1.1 + 1))) rfl (x_assign) ?_
         refine OW.nil ?_
         exact ⟨w64 (s_l1.1 + 1), hm, ⟨f1511, f1512, f1513, rfl, f1515, hL⟩⟩
       refine CW.skip ?_
       exact ⟨s_l1.1, hm, ⟨f1511, f1512, f1513, f1514, f1515, hL⟩⟩
     intro s_j6 F1555 wd1556 hJ hm
     unfold M.spec_l26Points_j6 at hm
     obtain ⟨f1557, f1558, f1559, f1560, f1561, hL⟩ := hJ
     exact ⟨s_j6, hm, ⟨f1557, f1558, f1559, f1560, f1561, hL⟩⟩
   intro s_j5 F1540 wd1541 hJ hm
   unfold M.spec_l26Points_j5 at hm
   obtain ⟨f1542, f1543, f1544, f1545, f1546, hL⟩ := hJ
   refine CW.regionL ?_
   refine OV (.int .i64 s_l1.2) rfl (x_mv f1546) ?_
   refine OV (.int .i64 (w64 (s_l1.2 + 1))) rfl (x_add rfl rfl) ?_
   refine OV (.int .i64 (w64 (s_l1.2 + 1))) rfl (x_assign) ?_
   refine OW.nil ?_
   obtain rfl := Option.some.inj hm
   exact ⟨_, rfl, ⟨f1542, f1543, f1544, f1545, rfl, hL⟩⟩
 refine CW.exit ?_
 refine XJ.hit ?_
 obtain rfl := Option.some.inj hm
 exact ⟨_, rfl, ⟨f1511, f1512, f1513, f1514, f1515, hL⟩⟩

end Go.Proofs.Ytpobaajdhfoomaa
