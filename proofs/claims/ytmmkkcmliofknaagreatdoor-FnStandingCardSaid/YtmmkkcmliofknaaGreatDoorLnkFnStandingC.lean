/- Links: each Go function returns what its model computes and leaves what was there. Printed by my generator. -/
import Derived.Test.YtmmkkcmliofknaaGreatDoorLnkFnStandingB
namespace Go.Proofs.YtmmkkcmliofknaaGreatDoor
set_option maxRecDepth 10000
open Go Go.RowKit Go.ChangeShapes Go.WideShapes
set_option linter.unusedVariables false
set_option linter.unusedSimpArgs false

theorem M.slices_insertionSortOrdered_int64__ok (w0 : World) {E4 : TypeId} {S2 : Nat → Prop} {v1 : Value} (a0 : List Int) (he3 : (Ent.own E4 S2 v1 a0).H w0) (a1 : Int) (a2 : Int) {r : (Unit) × (List Int)} (hm : M.slices_insertionSortOrdered_int64_ a0 a1 a2 = some r) :
    Calls Tryz.prog 132 #[v1, (.int .i64 a1), (.int .i64 a2)] w0 fun e w' => ∃ (ioS : Nat → Prop), e = .returned (.tuple #[]) ∧ Mut w0 w' (Ent.own E4 S2 v1 a0).S [Ent.own E4 ioS v1 r.2] := by
 unfold M.slices_insertionSortOrdered_int64_ at hm
 refine calls_CW (args := [v1, (.int .i64 a1), (.int .i64 a2)]) Tryz.func132 rfl rfl rfl ?_
 have hL := Hp.startIO he3
 refine CSR ?_
 refine OV (.int .i64 a1) rfl (x_move) ?_
 refine OV (.int .i64 (w64 (a1 + 1))) rfl (x_add rfl rfl) ?_
 refine OV (.int .i64 (w64 (a1 + 1))) rfl (x_assign) ?_
 refine OW.nil ?_
 obtain ⟨o801, ho802, hm⟩ := bndE hm
 refine CW.loopB (fun (s_l1 : (List Int) × Int) (F : Fr) (w : World) => ∃ (S798 : Nat → Prop), F 0 = v1 ∧ F 1 = (.int .i64 a1) ∧ F 2 = (.int .i64 a2) ∧ F 6 = (.int .i64 s_l1.2) ∧ Hp w0 [Ent.own E4 S798 v1 s_l1.1, Ent.frz w0 (Ent.own E4 S2 v1 a0).S] w) (fun o => outc o (fun x => some x) (fun s => M.slices_insertionSortOrdered_int64__a1 s) = some r) ho802 hm ⟨S2, rfl, rfl, rfl, rfl, hL⟩ ?_ ?_
 · intro s_l1 F803 wd804 hJ hm
   have hm := outcE hm
   have hm : M.slices_insertionSortOrdered_int64__a1 s_l1 = some r := hm
   unfold M.slices_insertionSortOrdered_int64__a1 at hm
   obtain ⟨S798, f805, f806, f807, f808, hL⟩ := hJ
   obtain rfl := Option.some.inj hm
   exact RR0 rfl  ⟨S798, rfl, hL.mutOut 1 rfl [0] (by decide) (by decide) rfl⟩
 intro s_l1 F809 wd810 t799 hJ hm hr800
 unfold M.slices_insertionSortOrdered_int64__l1 at hm
 obtain ⟨S798, f811, f812, f813, f814, hL⟩ := hJ
 refine CW.seq ?_
 refine CSR ?_
 refine OV (.int .i64 s_l1.2) rfl (x_mv f814) ?_
 refine OV (.int .i64 a2) rfl (x_mv f813) ?_
 refine OV (.bool (decide (s_l1.2 < a2))) rfl (x_lss rfl rfl) ?_
 refine OW.nil ?_
 refine CW.condM (t := decide (s_l1.2 < a2)) rfl hm (fun hb815 hm => ?_) (fun hb815 hm => ?_)
 · refine CW.skip ?_
   refine CW.seq ?_
   refine CW.block ?_
   refine CSR ?_
   refine OV (.int .i64 s_l1.2) rfl (x_mv f814) ?_
   refine OV (.int .i64 s_l1.2) rfl (x_assign) ?_
   refine OW.nil ?_
   obtain ⟨o1070, ho1071, hm⟩ := bndE hm
   refine CW.loopB (fun (s_l2 : (List Int) × Int) (F : Fr) (w : World) => ∃ (S1067 : Nat → Prop), F 0 = v1 ∧ F 1 = (.int .i64 a1) ∧ F 2 = (.int .i64 a2) ∧ F 6 = (.int .i64 s_l1.2) ∧ F 7 = (.int .i64 s_l2.2) ∧ Hp w0 [Ent.own E4 S1067 v1 s_l2.1, Ent.frz w0 (Ent.own E4 S2 v1 a0).S] w) (fun o => outc o (fun x => some (.ret x)) (fun s => M.slices_insertionSortOrdered_int64__a2 s_l1 s) = some t799) ho1071 hm ⟨S798, f811, f812, f813, f814, rfl, hL⟩ ?_ ?_
   · intro s_l2 F1072 wd1073 hJ hm
     have hm := outcE hm
     have hm : M.slices_insertionSortOrdered_int64__a2 s_l1 s_l2 = some t799 := hm
     unfold M.slices_insertionSortOrdered_int64__a2 at hm
     obtain ⟨S1067, f1074, f1075, f1076, f1077, f1078, hL⟩ := hJ
     refine CW.regionL ?_
     refine OV (.int .i64 s_l1.2) rfl (x_mv f1077) ?_
     refine OV (.int .i64 (w64 (s_l1.2 + 1))) rfl (x_add rfl rfl) ?_
     refine OV (.int .i64 (w64 (s_l1.2 + 1))) rfl (x_assign) ?_
     refine OW.nil ?_
     obtain rfl := Option.some.inj hm
     exact ⟨_, rfl, ⟨S1067, f1074, f1075, f1076, rfl, hL⟩⟩
   intro s_l2 F1079 wd1080 t1068 hJ hm hr1069
   unfold M.slices_insertionSortOrdered_int64__l2 at hm
   obtain ⟨S1067, f1081, f1082, f1083, f1084, f1085, hL⟩ := hJ
   refine CW.seq ?_
   refine CW.seqJ (fun (s_j1 : Bool) (F : Fr) (w : World) => F 0 = v1 ∧ F 1 = (.int .i64 a1) ∧ F 2 = (.int .i64 a2) ∧ F 6 = (.int .i64 s_l1.2) ∧ F 7 = (.int .i64 s_l2.2) ∧ F 30 = (.bool s_j1) ∧ Hp w0 [Ent.own E4 S1067 v1 s_l2.1, Ent.frz w0 (Ent.own E4 S2 v1 a0).S] w) (fun s_j1 => M.slices_insertionSortOrdered_int64__j1 s_l2 s_j1 = some t1068) ?_ ?_
   · refine CW.draw Tryz_mixed ?_
     have hL := hL.call (Mod.drew _)
     refine DW.pre (fuel := 0) (fin := bma 15 32767) (C := fun w' => Mod None_ _ w') [0, 1, 2, 3, 4, 5, 6, 7, 8, 9, 10, 11, 12, 13, 14] (Mod.refl _ _) (by kernel_rfl) (by kernel_rfl) ?_
     refine QW.cons rfl (QP.val (v := (.int .i64 s_l2.2)) rfl (fun w' hm' => x_mv f1085) ?_)
     refine QW.cons rfl (QP.val (v := (.int .i64 a1)) rfl (fun w' hm' => x_mv f1082) ?_)
     refine QW.cons rfl (QP.val (v := (.bool (decide (a1 < s_l2.2)))) rfl (fun w' hm' => x_gtr rfl rfl) ?_)
     refine QW.cons rfl (QP.val (v := (.bool (decide (a1 < s_l2.2)))) rfl (fun w' hm' => x_move) ?_)
     refine ifB_elim hm (fun hb1192 hm => ?_) (fun hb1192 hm => ?_)
     · refine QW.cons rfl (QP.yes' rfl rfl hb1192 (QP.val (v := v1) rfl (fun w' hm' => x_mv f1081) ?_))
       refine QW.cons rfl (QP.yes' rfl rfl hb1192 (QP.val (v := (.int .i64 s_l2.2)) rfl (fun w' hm' => x_mv f1085) ?_))
       obtain ⟨x1193, ha1194, hm⟩ := bndE hm
       obtain ⟨hz1195, ha1199⟩ := idxE ha1194
       obtain ⟨b1196, q1197, hix1198⟩ := rdL_ix (hL.rdO 0 rfl) hz1195 ha1199
       refine QW.cons rfl (QP.yes' rfl rfl hb1192 (QP.val (v := (.pointer (some ⟨b1196, q1197, none⟩))) rfl (fun w' hm' => x_ix U27 Tryz_T2 rfl rfl hix1198) ?_))
       refine QW.cons rfl (QP.yes' rfl rfl hb1192 (QP.val (v := (.int .i64 x1193)) rfl (fun w' hm' => x_load1 U2 rfl rfl (rdF_cells ((hL.call hm').rdO 0 rfl) hix1198 ha1199 0 _ rfl)) ?_))
       refine QW.cons rfl (QP.yes' rfl rfl hb1192 (QP.val (v := v1) rfl (fun w' hm' => x_mv f1081) ?_))
       refine QW.cons rfl (QP.yes' rfl rfl hb1192 (QP.val (v := (.int .i64 s_l2.2)) rfl (fun w' hm' => x_mv f1085) ?_))
       refine QW.cons rfl (QP.yes' rfl rfl hb1192 (QP.val (v := (.int .i64 (w64 (s_l2.2 - 1)))) rfl (fun w' hm' => x_sub rfl rfl) ?_))
       obtain ⟨x1200, ha1201, hm⟩ := bndE hm
       obtain ⟨hz1202, ha1206⟩ := idxE ha1201
       obtain ⟨b1203, q1204, hix1205⟩ := rdL_ix (hL.rdO 0 rfl) hz1202 ha1206
       refine QW.cons rfl (QP.yes' rfl rfl hb1192 (QP.val (v := (.pointer (some ⟨b1203, q1204, none⟩))) rfl (fun w' hm' => x_ix U27 Tryz_T2 rfl rfl hix1205) ?_))
       refine QW.cons rfl (QP.yes' rfl rfl hb1192 (QP.val (v := (.int .i64 x1200)) rfl (fun w' hm' => x_load1 U2 rfl rfl (rdF_cells ((hL.call hm').rdO 0 rfl) hix1205 ha1206 0 _ rfl)) ?_))
       obtain ⟨x1207, hx1208, hm⟩ := bndE hm
       refine QW.cons rfl (QP.yes' rfl rfl hb1192 (QP.call (v := (.bool x1207)) rfl (fun w' hm' => x_call (vs := [(.int .i64 x1193), (.int .i64 x1200)]) Tryz_C138 ⟨rfl, rfl, trivial⟩) (fun w' hm' => (M.cmp_Less_int64__ok w' x1193 x1200 hx1208).mono (fun e w'' h => ⟨h.1, hm'.trans h.2.mod⟩)) ?_))
       refine QW.cons rfl (QP.val (v := (.bool x1207)) rfl (fun w' hm' => x_pickT' rfl hb1192 rfl) ?_)
       refine QW.nil ?_
       intro wd1209 hmod
       have hL := hL.call hmod
       refine DW.done (by kernel_rfl) ?_
       exact ⟨x1207, hm, ⟨f1081, f1082, f1083, f1084, f1085, rfl, hL⟩⟩
     refine QW.cons rfl (QP.no' rfl rfl hb1192 rfl ?_)
     refine QW.cons rfl (QP.no' rfl rfl hb1192 rfl ?_)
     refine QW.cons rfl (QP.no' rfl rfl hb1192 rfl ?_)
     refine QW.cons rfl (QP.no' rfl rfl hb1192 rfl ?_)
     refine QW.cons rfl (QP.no' rfl rfl hb1192 rfl ?_)
     refine QW.cons rfl (QP.no' rfl rfl hb1192 rfl ?_)
     refine QW.cons rfl (QP.no' rfl rfl hb1192 rfl ?_)
     refine QW.cons rfl (QP.no' rfl rfl hb1192 rfl ?_)
     refine QW.cons rfl (QP.no' rfl rfl hb1192 rfl ?_)
     refine QW.cons rfl (QP.no' rfl rfl hb1192 rfl ?_)
     refine QW.cons rfl (QP.val (v := (.bool false)) rfl (fun w' hm' => x_pickF' rfl hb1192 rfl) ?_)
     refine QW.nil ?_
     intro wd1210 hmod
     have hL := hL.call hmod
     refine DW.done (by kernel_rfl) ?_
     exact ⟨false, hm, ⟨f1081, f1082, f1083, f1084, f1085, rfl, hL⟩⟩
   intro s_j1 F1105 wd1106 hJ hm
   unfold M.slices_insertionSortOrdered_int64__j1 at hm
   obtain ⟨f1107, f1108, f1109, f1110, f1111, f1112, hL⟩ := hJ
   refine CW.condM (t := s_j1) f1112 hm (fun hb1113 hm => ?_) (fun hb1113 hm => ?_)
   · refine CW.skip ?_
     refine CW.seq ?_
     refine CW.block ?_
     refine CW.drawH (fun w' => Hp w0 [Ent.frz w0 (Ent.own E4 S2 v1 a0).S] w') Tryz_mixed ?_
     have hL := hL.call (Mod.drew _)
     have hS := (hL.sel [1] (by decide) rfl)
     refine DH.take 0 rfl (by kernel_rfl) (by kernel_rfl) (by kernel_rfl) rfl rfl hS (YH.val (v := v1) (fun w' hS' => x_mv f1107)) ?_
     have hS := (hL.sel [1] (by decide) rfl)
     refine DH.take 1 rfl (by kernel_rfl) (by kernel_rfl) (by kernel_rfl) rfl rfl hS (YH.val (v := (.int .i64 s_l2.2)) (fun w' hS' => x_mv f1111)) ?_
     have hS := (hL.sel [1] (by decide) rfl)
     refine DH.take 2 rfl (by kernel_rfl) (by kernel_rfl) (by kernel_rfl) rfl rfl hS (YH.val (v := v1) (fun w' hS' => x_mv f1107)) ?_
     have hS := (hL.sel [1] (by decide) rfl)
     refine DH.take 3 rfl (by kernel_rfl) (by kernel_rfl) (by kernel_rfl) rfl rfl hS (YH.val (v := (.int .i64 s_l2.2)) (fun w' hS' => x_mv f1111)) ?_
     have hS := (hL.sel [1] (by decide) rfl)
     refine DH.take 4 rfl (by kernel_rfl) (by kernel_rfl) (by kernel_rfl) rfl rfl hS (YH.val (v := (.int .i64 (w64 (s_l2.2 - 1)))) (fun w' hS' => x_sub rfl rfl)) ?_
     have hS := (hL.sel [1] (by decide) rfl)
     refine DH.take 5 rfl (by kernel_rfl) (by kernel_rfl) (by kernel_rfl) rfl rfl hS (YH.val (v := v1) (fun w' hS' => x_mv f1107)) ?_
     have hS := (hL.sel [1] (by decide) rfl)
     refine DH.take 6 rfl (by kernel_rfl) (by kernel_rfl) (by kernel_rfl) rfl rfl hS (YH.val (v := (.int .i64 s_l2.2)) (fun w' hS' => x_mv f1111)) ?_
     have hS := (hL.sel [1] (by decide) rfl)
     refine DH.take 7 rfl (by kernel_rfl) (by kernel_rfl) (by kernel_rfl) rfl rfl hS (YH.val (v := (.int .i64 (w64 (s_l2.2 - 1)))) (fun w' hS' => x_sub rfl rfl)) ?_
     have hS := (hL.sel [1] (by decide) rfl)
     obtain ⟨x1144, ha1145, hm⟩ := bndE hm
     obtain ⟨hz1146, ha1150⟩ := idxE ha1145
     obtain ⟨b1147, q1148, hix1149⟩ := rdL_ix (hL.rdO 0 rfl) hz1146 ha1150
     refine DH.take 8 rfl (by kernel_rfl) (by kernel_rfl) (by kernel_rfl) rfl rfl hS (YH.val (v := (.pointer (some ⟨b1147, q1148, none⟩))) (fun w' hS' => x_ix U27 Tryz_T2 rfl rfl hix1149)) ?_
     have hS := (hL.sel [1] (by decide) rfl)
     refine DH.take 10 rfl (by kernel_rfl) (by kernel_rfl) (by kernel_rfl) rfl rfl hS (YH.val (v := v1) (fun w' hS' => x_mv f1107)) ?_
     have hS := (hL.sel [1] (by decide) rfl)
     refine DH.take 11 rfl (by kernel_rfl) (by kernel_rfl) (by kernel_rfl) rfl rfl hS (YH.val (v := (.int .i64 s_l2.2)) (fun w' hS' => x_mv f1111)) ?_
     have hS := (hL.sel [1] (by decide) rfl)
     obtain ⟨x1151, ha1152, hm⟩ := bndE hm
     obtain ⟨hz1153, ha1157⟩ := idxE ha1152
     obtain ⟨b1154, q1155, hix1156⟩ := rdL_ix (hL.rdO 0 rfl) hz1153 ha1157
     refine DH.take 12 rfl (by kernel_rfl) (by kernel_rfl) (by kernel_rfl) rfl rfl hS (YH.val (v := (.pointer (some ⟨b1154, q1155, none⟩))) (fun w' hS' => x_ix U27 Tryz_T2 rfl rfl hix1156)) ?_
     refine DH.all (rs := [9, 13]) (by kernel_rfl) (by simp) ?_
     intro i1158 hi1159
     simp only [List.mem_cons, List.not_mem_nil, or_false] at hi1159
     rcases hi1159 with rfl | rfl
     · refine ⟨_, rfl, ?_⟩
       refine OP.val (v := (.int .i64 x1144)) rfl (x_load1 U2 rfl rfl (rdF_cells (hL.rdO 0 rfl) hix1149 ha1150 0 _ rfl)) ?_
       refine ⟨(hL.sel [1] (by decide) rfl), ?_⟩
       refine DH.only 13 rfl (by kernel_rfl) (OP.val (v := (.int .i64 x1151)) rfl (x_load1 U2 rfl rfl (rdF_cells (hL.rdO 0 rfl) hix1156 ha1157 0 _ rfl)) ?_)
       refine ⟨(hL.sel [1] (by decide) rfl), ?_⟩
       have hS := (hL.sel [1] (by decide) rfl)
       obtain ⟨x1160, ha1161, hm⟩ := bndE hm
       obtain ⟨hz1162, ha1166⟩ := idxE ha1161
       obtain ⟨b1163, q1164, hix1165⟩ := rdL_ix (hL.rdO 0 rfl) hz1162 ha1166
       refine DH.take 14 rfl (by kernel_rfl) (by kernel_rfl) (by kernel_rfl) rfl rfl hS (YH.val (v := (.pointer (some ⟨b1163, q1164, none⟩))) (fun w' hS' => x_ix U27 Tryz_T2 rfl rfl hix1165)) ?_
       refine DH.only 15 rfl (by kernel_rfl) (S_storeX (j := 0) x1144 hL 0 rfl Tryz_T2 hix1165 ha1166 rfl rfl rfl rfl rfl rfl ?_)
       intro wd1167 hL
       refine ⟨(hL.sel [1] (by decide) rfl), ?_⟩
       have hS := (hL.sel [1] (by decide) rfl)
       obtain ⟨x1168, ha1169, hm⟩ := bndE hm
       obtain ⟨hz1170, ha1174⟩ := idxE ha1169
       obtain ⟨b1171, q1172, hix1173⟩ := rdL_ix (hL.rdO 0 rfl) hz1170 ha1174
       refine DH.take 16 rfl (by kernel_rfl) (by kernel_rfl) (by kernel_rfl) rfl rfl hS (YH.val (v := (.pointer (some ⟨b1171, q1172, none⟩))) (fun w' hS' => x_ix U27 Tryz_T2 rfl rfl hix1173)) ?_
       refine DH.only 17 rfl (by kernel_rfl) (S_storeX (j := 0) x1151 hL 0 rfl Tryz_T2 hix1173 ha1174 rfl rfl rfl rfl rfl rfl ?_)
       intro wd1175 hL
       refine ⟨(hL.sel [1] (by decide) rfl), ?_⟩
       refine DH.done (by kernel_rfl) ?_
       refine CW.regionL ?_
       refine OV (.int .i64 s_l2.2) rfl (x_mv f1111) ?_
       refine OV (.int .i64 (w64 (s_l2.2 - 1))) rfl (x_sub rfl rfl) ?_
       refine OV (.int .i64 (w64 (s_l2.2 - 1))) rfl (x_assign) ?_
       refine OW.nil ?_
       obtain rfl := Option.some.inj hm
       exact ⟨_, rfl, ⟨S1067, f1107, f1108, f1109, f1110, rfl, hL⟩⟩
     refine ⟨_, rfl, ?_⟩
     refine OP.val (v := (.int .i64 x1151)) rfl (x_load1 U2 rfl rfl (rdF_cells (hL.rdO 0 rfl) hix1156 ha1157 0 _ rfl)) ?_
     refine ⟨(hL.sel [1] (by decide) rfl), ?_⟩
     refine DH.only 9 rfl (by kernel_rfl) (OP.val (v := (.int .i64 x1144)) rfl (x_load1 U2 rfl rfl (rdF_cells (hL.rdO 0 rfl) hix1149 ha1150 0 _ rfl)) ?_)
     refine ⟨(hL.sel [1] (by decide) rfl), ?_⟩
     have hS := (hL.sel [1] (by decide) rfl)
     obtain ⟨x1176, ha1177, hm⟩ := bndE hm
     obtain ⟨hz1178, ha1182⟩ := idxE ha1177
     obtain ⟨b1179, q1180, hix1181⟩ := rdL_ix (hL.rdO 0 rfl) hz1178 ha1182
     refine DH.take 14 rfl (by kernel_rfl) (by kernel_rfl) (by kernel_rfl) rfl rfl hS (YH.val (v := (.pointer (some ⟨b1179, q1180, none⟩))) (fun w' hS' => x_ix U27 Tryz_T2 rfl rfl hix1181)) ?_
     refine DH.only 15 rfl (by kernel_rfl) (S_storeX (j := 0) x1144 hL 0 rfl Tryz_T2 hix1181 ha1182 rfl rfl rfl rfl rfl rfl ?_)
     intro wd1183 hL
     refine ⟨(hL.sel [1] (by decide) rfl), ?_⟩
     have hS := (hL.sel [1] (by decide) rfl)
     obtain ⟨x1184, ha1185, hm⟩ := bndE hm
     obtain ⟨hz1186, ha1190⟩ := idxE ha1185
     obtain ⟨b1187, q1188, hix1189⟩ := rdL_ix (hL.rdO 0 rfl) hz1186 ha1190
     refine DH.take 16 rfl (by kernel_rfl) (by kernel_rfl) (by kernel_rfl) rfl rfl hS (YH.val (v := (.pointer (some ⟨b1187, q1188, none⟩))) (fun w' hS' => x_ix U27 Tryz_T2 rfl rfl hix1189)) ?_
     refine DH.only 17 rfl (by kernel_rfl) (S_storeX (j := 0) x1151 hL 0 rfl Tryz_T2 hix1189 ha1190 rfl rfl rfl rfl rfl rfl ?_)
     intro wd1191 hL
     refine ⟨(hL.sel [1] (by decide) rfl), ?_⟩
     refine DH.done (by kernel_rfl) ?_
     refine CW.regionL ?_
     refine OV (.int .i64 s_l2.2) rfl (x_mv f1111) ?_
     refine OV (.int .i64 (w64 (s_l2.2 - 1))) rfl (x_sub rfl rfl) ?_
     refine OV (.int .i64 (w64 (s_l2.2 - 1))) rfl (x_assign) ?_
     refine OW.nil ?_
     obtain rfl := Option.some.inj hm
     exact ⟨_, rfl, ⟨S1067, f1107, f1108, f1109, f1110, rfl, hL⟩⟩
   refine CW.exit ?_
   refine XJ.hit ?_
   obtain rfl := Option.some.inj hm
   exact ⟨_, rfl, ⟨S1067, f1107, f1108, f1109, f1110, f1111, hL⟩⟩
 refine CW.exit ?_
 refine XJ.hit ?_
 obtain rfl := Option.some.inj hm
 exact ⟨_, rfl, ⟨S798, f811, f812, f813, f814, hL⟩⟩

theorem M.slices_pdqsortOrdered_int64__ok (w0 : World) {E4 : TypeId} {S2 : Nat → Prop} {v1 : Value} (a0 : List Int) (he3 : (Ent.own E4 S2 v1 a0).H w0) (a1 : Int) (a2 : Int) (a3 : Int) {r : (Unit) × (List Int)} (hm : M.slices_pdqsortOrdered_int64_ a0 a1 a2 a3 = some r) :
    Calls Tryz.prog 121 #[v1, (.int .i64 a1), (.int .i64 a2), (.int .i64 a3)] w0 fun e w' => ∃ (ioS : Nat → Prop), e = .returned (.tuple #[]) ∧ Mut w0 w' (Ent.own E4 S2 v1 a0).S [Ent.own E4 ioS v1 r.2] := by
 unfold M.slices_pdqsortOrdered_int64_ at hm
 refine calls_CW (args := [v1, (.int .i64 a1), (.int .i64 a2), (.int .i64 a3)]) Tryz.func121 rfl rfl rfl ?_
 have hL := Hp.startIO he3
 refine CSR ?_
 refine OV (.bool true) rfl (x_assign) ?_
 refine ONR ?_
 refine OV (.bool true) rfl (x_assign) ?_
 refine OW.nil ?_
 obtain ⟨o41, ho42, hm⟩ := bndE hm
 refine CW.loopB (fun (s_l1 : Unit) (F : Fr) (w : World) => F 0 = v1 ∧ F 1 = (.int .i64 a1) ∧ F 2 = (.int .i64 a2) ∧ F 3 = (.int .i64 a3) ∧ F 8 = (.bool true) ∧ F 9 = (.bool true) ∧ Hp w0 [Ent.own E4 S2 v1 a0, Ent.frz w0 (Ent.own E4 S2 v1 a0).S] w) (fun o => outc o (fun x => some x) (fun s => M.slices_pdqsortOrdered_int64__a1 a0 s) = some r) ho42 hm ⟨rfl, rfl, rfl, rfl, rfl, rfl, hL⟩ ?_ ?_
 · intro s_l1 F43 wd44 hJ hm
   have hm := outcE hm
   have hm : M.slices_pdqsortOrdered_int64__a1 a0 s_l1 = some r := hm
   unfold M.slices_pdqsortOrdered_int64__a1 at hm
   obtain ⟨f45, f46, f47, f48, f49, f50, hL⟩ := hJ
   obtain rfl := Option.some.inj hm
   exact RR0 rfl  ⟨S2, rfl, hL.mutOut 1 rfl [0] (by decide) (by decide) rfl⟩
 intro s_l1 F51 wd52 t39 hJ hm hr40
 unfold M.slices_pdqsortOrdered_int64__l1 at hm
 obtain ⟨f53, f54, f55, f56, f57, f58, hL⟩ := hJ
 refine CW.block ?_
 refine CSR ?_
 refine OV (.int .i64 a2) rfl (x_mv f55) ?_
 refine OV (.int .i64 a1) rfl (x_mv f54) ?_
 refine OV (.int .i64 (w64 (a2 - a1))) rfl (x_sub rfl rfl) ?_
 refine OV (.int .i64 (w64 (a2 - a1))) rfl (x_assign) ?_
 refine ONS ?_
 refine CSR ?_
 refine OV (.int .i64 (w64 (a2 - a1))) rfl (x_move) ?_
 refine OV (.bool (decide ((w64 (a2 - a1)) ≤ 12))) rfl (x_leq rfl rfl) ?_
 refine OW.nil ?_
 refine CW.condM (t := decide ((w64 (a2 - a1)) ≤ 12)) rfl hm (fun hb76 hm => ?_) (fun hb76 hm => ?_)
 · refine CSR ?_
   refine OV v1 rfl (x_mv f53) ?_
   refine OV (.int .i64 a1) rfl (x_mv f54) ?_
   refine OV (.int .i64 a2) rfl (x_mv f55) ?_
   obtain ⟨x77, hx78, hm⟩ := bndE hm
   refine OW.cons (OP.call rfl (x_call (vs := [v1, (.int .i64 a1), (.int .i64 a2)]) Tryz_C132 ⟨rfl, rfl, rfl, trivial⟩) (M.slices_insertionSortOrdered_int64__ok _ a0 (hL.get 0 rfl) a1 a2 hx78) ?_)
   rintro e79 wd80 ⟨S82, rfl, hF81⟩
   refine ⟨_, rfl, ?_⟩
   have hL := hL.mut 0 rfl hF81
   simp only [lA, lB, lC, lD] at hL
   refine OW.nil ?_
   refine CW.ret ?_
   obtain rfl := Option.some.inj hm
   have hm := hr40 _ rfl
   obtain rfl := Option.some.inj hm
   exact RR0 rfl  ⟨S82, rfl, hL.mutOut 1 rfl [0] (by decide) (by decide) rfl⟩
 refine CW.skip ?_
 refine CW.seq ?_
 refine CSR ?_
 refine OV (.int .i64 a3) rfl (x_mv f56) ?_
 refine OV (.bool (a3 == 0)) rfl (x_eql rfl rfl) ?_
 refine OW.nil ?_
 refine CW.condM (t := a3 == 0) rfl hm (fun hb83 hm => ?_) (fun hb83 hm => ?_)
 · refine CSR ?_
   refine OV v1 rfl (x_mv f53) ?_
   refine OV (.int .i64 a1) rfl (x_mv f54) ?_
   refine OV (.int .i64 a2) rfl (x_mv f55) ?_
   exact nomatch hm
 refine CW.skip ?_
 refine CW.seqJ (fun (s_j1 : Unit) (F : Fr) (w : World) => F 0 = v1 ∧ F 1 = (.int .i64 a1) ∧ F 2 = (.int .i64 a2) ∧ F 3 = (.int .i64 a3) ∧ F 8 = (.bool true) ∧ F 9 = (.bool true) ∧ F 10 = (.int .i64 (w64 (a2 - a1))) ∧ Hp w0 [Ent.own E4 S2 v1 a0, Ent.frz w0 (Ent.own E4 S2 v1 a0).S] w) (fun s_j1 => M.slices_pdqsortOrdered_int64__j1 s_j1 = some t39) ?_ ?_
 · refine CSR ?_
   refine OV (.bool true) rfl (x_mv f57) ?_
   refine OV (.bool false) rfl (x_not (b := true) rfl) ?_
   refine OW.nil ?_
   refine CW.condF rfl rfl ?_
   refine CW.skip ?_
   exact ⟨(), hm, ⟨f53, f54, f55, f56, f57, f58, rfl, hL⟩⟩
 intro s_j1 F84 wd85 hJ hm
 unfold M.slices_pdqsortOrdered_int64__j1 at hm
 obtain ⟨f86, f87, f88, f89, f90, f91, f92, hL⟩ := hJ
 refine CSR ?_
 refine OV v1 rfl (x_mv f86) ?_
 refine OV (.int .i64 a1) rfl (x_mv f87) ?_
 refine OV (.int .i64 a2) rfl (x_mv f88) ?_
 exact nomatch hm

theorem M.slices_Sort___int64_int64__ok (w0 : World) {E4 : TypeId} {S2 : Nat → Prop} {v1 : Value} (a0 : List Int) (he3 : (Ent.own E4 S2 v1 a0).H w0) {r : (Unit) × (List Int)} (hm : M.slices_Sort___int64_int64_ a0 = some r) :
    Calls Tryz.prog 103 #[v1] w0 fun e w' => ∃ (ioS : Nat → Prop), e = .returned (.tuple #[]) ∧ Mut w0 w' (Ent.own E4 S2 v1 a0).S [Ent.own E4 ioS v1 r.2] := by
 unfold M.slices_Sort___int64_int64_ at hm
 refine calls_CW (args := [v1]) Tryz.func103 rfl rfl rfl ?_
 have hL := Hp.startIO he3
 refine CSR ?_
 refine OV v1 rfl (x_move) ?_
 refine OV (.int .i64 (a0.length : Int)) rfl (x_lenR U27 rfl (hL.rdO 0 rfl)) ?_
 refine OV (.int .i64 (a0.length : Int)) rfl (x_assign) ?_
 refine OW.nil ?_
 refine CW.regionL ?_
 refine OV v1 rfl (x_move) ?_
 refine OV (.int .i64 (a0.length : Int)) rfl (x_move) ?_
 refine OV (.int .i64 (a0.length : Int)) rfl (x_move) ?_
 refine OV (.int .u64 (IntKind.u64.wrap (a0.length : Int))) rfl (x_conv U3 U140 rfl) ?_
 obtain ⟨x5, hx6, hm⟩ := bndE hm
 refine OW.cons (OP.call rfl (x_call (vs := [(.int .u64 (IntKind.u64.wrap (a0.length : Int)))]) Tryz_C122 ⟨rfl, trivial⟩) (M.math_bits_Len_ok _ (IntKind.u64.wrap (a0.length : Int)) hx6) ?_)
 rintro e7 wd8 ⟨rfl, hF9⟩
 refine ⟨_, rfl, ?_⟩
 have hL := hL.pushAll hF9
 simp only [lA, lB, lC, lD] at hL
 obtain ⟨x10, hx11, hm⟩ := bndE hm
 refine OW.cons (OP.call rfl (x_call (vs := [v1, (.int .i64 0), (.int .i64 (a0.length : Int)), (.int .i64 x5)]) Tryz_C121 ⟨rfl, rfl, rfl, rfl, trivial⟩) (M.slices_pdqsortOrdered_int64__ok _ a0 (hL.get 0 rfl) 0 (a0.length : Int) x5 hx11) ?_)
 rintro e12 wd13 ⟨S15, rfl, hF14⟩
 refine ⟨_, rfl, ?_⟩
 have hL := hL.mut 0 rfl hF14
 simp only [lA, lB, lC, lD] at hL
 refine OW.nil ?_
 obtain rfl := Option.some.inj hm
 exact RR0 rfl  ⟨S15, rfl, hL.mutOut 1 rfl [0] (by decide) (by decide) rfl⟩

theorem M.impl_discardsOf_ok (w0 : World) (a0 : Table) {v1 : Value} {v3 : Value} (h2 : rdL (· < w0.heap.size) w0 v1 a0.Points) (h4 : rdL (· < w0.heap.size) w0 v3 a0.Codes) (a1 : List Int) {v5 : Value} (h6 : rdL (· < w0.heap.size) w0 v5 a1) (a2 : Int) {r : (List Int)} (hm : M.impl_discardsOf a0 a1 a2 = some r) :
    Calls Tryz.prog 98 #[(.agg #[(.int .i64 a0.Boats), v1, v3]), v5, (.int .i64 a2)] w0 fun e w' => ∃ (rv0 : Value) (rS0 : Nat → Prop), e = .returned rv0 ∧ Fresh w0 w' [Ent.own 2 rS0 rv0 r] := by
 unfold M.impl_discardsOf at hm
 refine calls_CW (args := [(.agg #[(.int .i64 a0.Boats), v1, v3]), v5, (.int .i64 a2)]) Tryz.func98 rfl rfl rfl ?_
 have hL := Hp.start w0
 refine CSR ?_
 refine OW.cons (S_box (cs := #[(.int .i64 a0.Boats), v1, v3]) hL rfl rfl rfl ?_)
 intro wd7 b8 hL
 refine OW.cons (S_box (cs := #[(.int .i64 a2)]) hL rfl rfl rfl ?_)
 intro wd9 b10 hL
 refine OV (.slice none 0 0) rfl (x_assign) ?_
 refine ONR ?_
 refine OW.cons (S_lit ([] : List Int) hL U27 Tryz_T2 rfl (by decide) (by first | (simp [Instr.fill, madeCells, Value.cells, ev, upd, Flat.enc, Flat.sz]; done) | rfl | kernel_rfl) rfl rfl ?_)
 intro wd11 v12 S13 hL
 refine OV v5 rfl (x_move) ?_
 refine OV (.pointer (some ⟨b8, 1, none⟩)) rfl (x_fieldAddr (fsz := 1) 0 1 1 U26 rfl Tryz_T24 rfl rfl rfl) ?_
 refine OV v1 rfl (x_load1 U24 rfl rfl (hL.cellB 2 rfl rfl)) ?_
 refine OV (.int .i64 (a0.Points.length : Int)) rfl (x_lenR U24 rfl (hL.rdS 3 rfl h2)) ?_
 obtain ⟨x14, hx15, hm⟩ := bndE hm
 refine OW.cons (OP.call rfl (x_call (vs := [v5, (.int .i64 (a0.Points.length : Int))]) Tryz_C118 ⟨rfl, rfl, trivial⟩) (M.impl_discardCount_ok _ a1 (hL.rdS 3 rfl h6) (a0.Points.length : Int) hx15) ?_)
 rintro e16 wd17 ⟨rfl, hF18⟩
 refine ⟨_, rfl, ?_⟩
 have hL := hL.pushAll hF18
 simp only [lA, lB, lC, lD] at hL
 refine OV v12 rfl (x_assign) ?_
 refine OV (.int .i64 x14) rfl (x_assign) ?_
 refine ONS ?_
 refine CSR ?_
 refine OV (.pointer (some ⟨b8, 1, none⟩)) rfl (x_fieldAddr (fsz := 1) 0 1 1 U26 rfl Tryz_T24 rfl rfl rfl) ?_
 refine OV v1 rfl (x_load1 U24 rfl rfl (hL.cellB 2 rfl rfl)) ?_
 refine OV (.int .i64 (a0.Points.length : Int)) rfl (x_lenR U24 rfl (hL.rdS 3 rfl h2)) ?_
 refine OV (.func (.func 119) #[] #[(.pointer (some ⟨b8, 0, none⟩)), (.pointer (some ⟨b10, 0, none⟩))]) rfl (x_makeFunc (vs := [(.pointer (some ⟨b8, 0, none⟩)), (.pointer (some ⟨b10, 0, none⟩))]) ⟨rfl, rfl, trivial⟩) ?_
 obtain ⟨x19, hx20, hm⟩ := bndE hm
 refine OW.cons (OP.call rfl (x_call (vs := [(.int .i64 (a0.Points.length : Int)), (.func (.func 119) #[] #[(.pointer (some ⟨b8, 0, none⟩)), (.pointer (some ⟨b10, 0, none⟩))])]) Tryz_C62 ⟨rfl, rfl, trivial⟩) (M.impl_sortedIndices_ok _ (a0.Points.length : Int) (fun y0 y1 => M.impl_discardsOf_1 y0 y1 a0 a2) ⟨Tryz_C119, fun yw hag yvs yv hR => by obtain ⟨y0, y1, yr, rfl, hyf, rfl⟩ := hR; exact M.impl_discardsOf_1_ok yw y0 y1 a0 (hag.rdL (hL.rdS 3 rfl h2)) (hag.rdL (hL.rdS 3 rfl h4)) (hag.bx (hL.bxB 2 rfl)) a2 (hag.bx (hL.bxB 1 rfl)) hyf⟩ hx20) ?_)
 rintro e23 wd24 ⟨v22, S21, rfl, hF25⟩
 refine ⟨_, rfl, ?_⟩
 have hL := hL.pushAll hF25
 simp only [lA, lB, lC, lD] at hL
 refine OV (.int .i64 (x19.length : Int)) rfl (x_lenR U27 rfl (hL.rdO 0 rfl)) ?_
 refine OV (.int .i64 0) rfl (x_move) ?_
 refine OW.nil ?_
 obtain ⟨o644, ho645, hm⟩ := bndE hm
 have hL := hL.sel [1, 0, 2, 3, 4] (by decide) rfl
 refine CW.loopB (fun (s_l1 : (List Int) × Int × Int) (F : Fr) (w : World) => ∃ (v640 : Value) (S641 : Nat → Prop), F 3 = (.pointer (some ⟨b8, 0, none⟩)) ∧ F 5 = (.pointer (some ⟨b10, 0, none⟩)) ∧ F 7 = v640 ∧ F 8 = (.int .i64 s_l1.2.1) ∧ F 21 = v22 ∧ F 22 = (.int .i64 (x19.length : Int)) ∧ F 23 = (.int .i64 s_l1.2.2) ∧ Hp w0 [Ent.own 2 S641 v640 s_l1.1, Ent.own 2 S21 v22 x19, Ent.blk b10 2 #[(.int .i64 a2)], Ent.blk b8 26 #[(.int .i64 a0.Boats), v1, v3], Ent.snap w0 w0.heap.size] w) (fun o => outc o (fun x => some x) (fun s => M.impl_discardsOf_a1 s) = some r) ho645 hm ⟨v12, S13, rfl, rfl, rfl, rfl, rfl, rfl, rfl, hL⟩ ?_ ?_
 · intro s_l1 F646 wd647 hJ hm
   have hm := outcE hm
   have hm : M.impl_discardsOf_a1 s_l1 = some r := hm
   unfold M.impl_discardsOf_a1 at hm
   obtain ⟨v640, S641, f648, f649, f650, f651, f652, f653, f654, hL⟩ := hJ
   refine CSR ?_
   refine OV v640 rfl (x_mv f650) ?_
   obtain ⟨x655, hx656, hm⟩ := bndE hm
   refine OW.cons (OP.call rfl (x_call (vs := [v640]) Tryz_C103 ⟨rfl, trivial⟩) (M.slices_Sort___int64_int64__ok _ s_l1.1 (hL.get 0 rfl) hx656) ?_)
   rintro e657 wd658 ⟨S660, rfl, hF659⟩
   refine ⟨_, rfl, ?_⟩
   have hL := hL.mut 0 rfl hF659
   simp only [lA, lB, lC, lD] at hL
   refine ONR ?_
   refine OV v640 rfl (x_mv f650) ?_
   refine OV v640 rfl (x_assign) ?_
   refine OW.nil ?_
   refine CW.ret ?_
   obtain rfl := Option.some.inj hm
   exact RR1 rfl rfl ⟨v640, S660, rfl, hL.fresh 4 rfl [0] (by decide) (by decide) rfl⟩
 intro s_l1 F661 wd662 t642 hJ hm hr643
 unfold M.impl_discardsOf_l1 at hm
 obtain ⟨v640, S641, f663, f664, f665, f666, f667, f668, f669, hL⟩ := hJ
 refine CSR ?_
 refine OV (.bool (decide (s_l1.2.2 < (x19.length : Int)))) rfl (x_lss f669 f668) ?_
 refine ONS ?_
 refine CW.condM (t := decide (s_l1.2.2 < (x19.length : Int))) rfl hm (fun hb670 hm => ?_) (fun hb670 hm => ?_)
 · refine CW.skip ?_
   refine CW.seqJ (fun (s_j1 : (List Int) × Int) (F : Fr) (w : World) => ∃ (v818 : Value) (S819 : Nat → Prop), F 3 = (.pointer (some ⟨b8, 0, none⟩)) ∧ F 5 = (.pointer (some ⟨b10, 0, none⟩)) ∧ F 7 = v818 ∧ F 8 = (.int .i64 s_j1.2) ∧ F 21 = v22 ∧ F 22 = (.int .i64 (x19.length : Int)) ∧ F 23 = (.int .i64 s_l1.2.2) ∧ Hp w0 [Ent.own 2 S819 v818 s_j1.1, Ent.own 2 S21 v22 x19, Ent.blk b10 2 #[(.int .i64 a2)], Ent.blk b8 26 #[(.int .i64 a0.Boats), v1, v3], Ent.snap w0 w0.heap.size] w) (fun s_j1 => M.impl_discardsOf_j1 s_l1 s_j1 = some t642) ?_ ?_
   · refine CW.blockJ (fun (s_j2 : (List Int) × Int) (F : Fr) (w : World) => ∃ (v897 : Value) (S898 : Nat → Prop), F 3 = (.pointer (some ⟨b8, 0, none⟩)) ∧ F 5 = (.pointer (some ⟨b10, 0, none⟩)) ∧ F 7 = v897 ∧ F 8 = (.int .i64 s_j2.2) ∧ F 21 = v22 ∧ F 22 = (.int .i64 (x19.length : Int)) ∧ F 23 = (.int .i64 s_l1.2.2) ∧ Hp w0 [Ent.own 2 S898 v897 s_j2.1, Ent.own 2 S21 v22 x19, Ent.blk b10 2 #[(.int .i64 a2)], Ent.blk b8 26 #[(.int .i64 a0.Boats), v1, v3], Ent.snap w0 w0.heap.size] w) (fun s_j2 => M.impl_discardsOf_j2 s_l1 s_j2 = some t642) ?_ ?_
     · refine CSR ?_
       obtain ⟨x908, ha909, hm⟩ := bndE hm
       obtain ⟨hz910, ha914⟩ := idxE ha909
       obtain ⟨b911, q912, hix913⟩ := rdL_ix (hL.rdO 1 rfl) hz910 ha914
       refine OV (.pointer (some ⟨b911, q912, none⟩)) rfl (x_ix U27 Tryz_T2 f667 f669 hix913) ?_
       refine OV (.int .i64 x908) rfl (x_load1 U2 rfl rfl (rdF_cells (hL.rdO 1 rfl) hix913 ha914 0 _ rfl)) ?_
       refine OV (.int .i64 x908) rfl (x_assign) ?_
       refine OW.nil ?_
       refine CW.seqJ (fun (s_j3 : Bool) (F : Fr) (w : World) => F 3 = (.pointer (some ⟨b8, 0, none⟩)) ∧ F 5 = (.pointer (some ⟨b10, 0, none⟩)) ∧ F 7 = v640 ∧ F 8 = (.int .i64 s_l1.2.1) ∧ F 10 = (.int .i64 x908) ∧ F 21 = v22 ∧ F 22 = (.int .i64 (x19.length : Int)) ∧ F 23 = (.int .i64 s_l1.2.2) ∧ F 39 = (.bool s_j3) ∧ Hp w0 [Ent.own 2 S641 v640 s_l1.1, Ent.own 2 S21 v22 x19, Ent.blk b10 2 #[(.int .i64 a2)], Ent.blk b8 26 #[(.int .i64 a0.Boats), v1, v3], Ent.snap w0 w0.heap.size] w) (fun s_j3 => M.impl_discardsOf_j3 s_l1 x908 s_j3 = some t642) ?_ ?_
       · refine CW.draw Tryz_mixed ?_
         have hL := hL.call (Mod.drew _)
         refine DW.pre (fuel := 0) (fin := bma 13 8191) (C := fun w' => Mod None_ _ w') [0, 1, 2, 3, 4, 5, 6, 7, 8, 9, 10, 11, 12] (Mod.refl _ _) (by kernel_rfl) (by kernel_rfl) ?_
         refine QW.cons rfl (QP.val (v := (.int .i64 s_l1.2.1)) rfl (fun w' hm' => x_mv f666) ?_)
         refine QW.cons rfl (QP.val (v := (.bool (decide (0 < s_l1.2.1)))) rfl (fun w' hm' => x_gtr rfl rfl) ?_)
         refine QW.cons rfl (QP.val (v := (.bool (decide (0 < s_l1.2.1)))) rfl (fun w' hm' => x_move) ?_)
         refine ifB_elim hm (fun hb955 hm => ?_) (fun hb955 hm => ?_)
         · refine QW.cons rfl (QP.yes' rfl rfl hb955 (QP.val (v := (.pointer (some ⟨b8, 2, none⟩))) rfl (fun w' hm' => x_fieldAddr (fsz := 1) 0 2 2 U26 rfl Tryz_T24 rfl f663 rfl) ?_))
           refine QW.cons rfl (QP.yes' rfl rfl hb955 (QP.val (v := v3) rfl (fun w' hm' => x_load1 U24 rfl rfl ((hL.call hm').cellB 3 rfl rfl)) ?_))
           refine QW.cons rfl (QP.yes' rfl rfl hb955 (QP.val (v := (.int .i64 x908)) rfl (fun w' hm' => x_move) ?_))
           obtain ⟨x956, ha957, hm⟩ := bndE hm
           obtain ⟨hz958, ha966⟩ := idxE ha957
           obtain ⟨b959, q960, v961, hix962, hs963, hc964, hr965⟩ := rdN_at h4 hz958 ha966
           refine QW.cons rfl (QP.yes' rfl rfl hb955 (QP.val (v := (.pointer (some ⟨b959, q960, none⟩))) rfl (fun w' hm' => x_ix U24 Tryz_T27 rfl rfl hix962) ?_))
           refine QW.cons rfl (QP.yes' rfl rfl hb955 (QP.val (v := v961) rfl (fun w' hm' => x_load1 U27 rfl rfl ((hL.call hm').cellS 4 rfl hs963 hc964)) ?_))
           refine QW.cons rfl (QP.yes' rfl rfl hb955 (QP.val (v := (.int .i64 a2)) rfl (fun w' hm' => x_load1 U2 rfl f664 ((hL.call hm').cellB 2 rfl rfl)) ?_))
           obtain ⟨x967, ha968, hm⟩ := bndE hm
           obtain ⟨hz969, ha973⟩ := idxE ha968
           obtain ⟨b970, q971, hix972⟩ := rdL_ix (hL.rdS 4 rfl hr965) hz969 ha973
           refine QW.cons rfl (QP.yes' rfl rfl hb955 (QP.val (v := (.pointer (some ⟨b970, q971, none⟩))) rfl (fun w' hm' => x_ix U27 Tryz_T2 rfl rfl hix972) ?_))
           refine QW.cons rfl (QP.yes' rfl rfl hb955 (QP.val (v := (.int .i64 x967)) rfl (fun w' hm' => x_load1 U2 rfl rfl (rdF_cells ((hL.call hm').rdS 4 rfl hr965) hix972 ha973 0 _ rfl)) ?_))
           refine QW.cons rfl (QP.yes' rfl rfl hb955 (QP.val (v := (.bool (x967 != 7))) rfl (fun w' hm' => x_neq rfl rfl) ?_))
           refine QW.cons rfl (QP.val (v := (.bool (x967 != 7))) rfl (fun w' hm' => x_pickT' rfl hb955 rfl) ?_)
           refine QW.nil ?_
           intro wd974 hmod
           have hL := hL.call hmod
           refine DW.done (by kernel_rfl) ?_
           exact ⟨x967 != 7, hm, ⟨f663, f664, f665, f666, rfl, f667, f668, f669, rfl, hL⟩⟩
         refine QW.cons rfl (QP.no' rfl rfl hb955 rfl ?_)
         refine QW.cons rfl (QP.no' rfl rfl hb955 rfl ?_)
         refine QW.cons rfl (QP.no' rfl rfl hb955 rfl ?_)
         refine QW.cons rfl (QP.no' rfl rfl hb955 rfl ?_)
         refine QW.cons rfl (QP.no' rfl rfl hb955 rfl ?_)
         refine QW.cons rfl (QP.no' rfl rfl hb955 rfl ?_)
         refine QW.cons rfl (QP.no' rfl rfl hb955 rfl ?_)
         refine QW.cons rfl (QP.no' rfl rfl hb955 rfl ?_)
         refine QW.cons rfl (QP.no' rfl rfl hb955 rfl ?_)
         refine QW.cons rfl (QP.val (v := (.bool false)) rfl (fun w' hm' => x_pickF' rfl hb955 rfl) ?_)
         refine QW.nil ?_
         intro wd975 hmod
         have hL := hL.call hmod
         refine DW.done (by kernel_rfl) ?_
         exact ⟨false, hm, ⟨f663, f664, f665, f666, rfl, f667, f668, f669, rfl, hL⟩⟩
       intro s_j3 F936 wd937 hJ hm
       unfold M.impl_discardsOf_j3 at hm
       obtain ⟨f938, f939, f940, f941, f942, f943, f944, f945, f946, hL⟩ := hJ
       refine CW.condM (t := s_j3) f946 hm (fun hb947 hm => ?_) (fun hb947 hm => ?_)
       · refine CSR ?_
         refine OV v640 rfl (x_mv f940) ?_
         refine OV (.int .i64 x908) rfl (x_mv f942) ?_
         refine OW.cons (S_lit ([x908] : List Int) hL U27 Tryz_T2 rfl (by decide) (by first | (simp [Instr.fill, madeCells, Value.cells, ev, upd, Flat.enc, Flat.sz]; done) | rfl | kernel_rfl) rfl rfl ?_)
         intro wd948 v949 S950 hL
         obtain ⟨hc954, hm⟩ := chkE hm
         refine OW.cons (S_append (ys := ([x908] : List Int)) hL 1 rfl U27 Tryz_T2 rfl rfl rfl (hL.rdO 0 rfl) hc954 (by decide) rfl ?_)
         intro wd951 v952 S953 hL
         refine OV v952 rfl (x_assign) ?_
         refine OW.nil ?_
         refine CW.regionL ?_
         refine OV (.int .i64 s_l1.2.1) rfl (x_mv f941) ?_
         refine OV (.int .i64 (w64 (s_l1.2.1 - 1))) rfl (x_sub rfl rfl) ?_
         refine OV (.int .i64 (w64 (s_l1.2.1 - 1))) rfl (x_assign) ?_
         refine OW.nil ?_
         have hL := hL.sel [1, 2, 3, 4, 5] (by decide) rfl
         exact ⟨(s_l1.1 ++ ([x908] : List Int), w64 (s_l1.2.1 - 1)), hm, ⟨v952, S953, f938, f939, rfl, rfl, f943, f944, f945, hL⟩⟩
       refine CW.skip ?_
       exact ⟨(s_l1.1, s_l1.2.1), hm, ⟨v640, S641, f938, f939, f940, f941, f943, f944, f945, hL⟩⟩
     intro s_j2 F899 wd900 hJ hm
     unfold M.impl_discardsOf_j2 at hm
     obtain ⟨v897, S898, f901, f902, f903, f904, f905, f906, f907, hL⟩ := hJ
     exact ⟨(s_j2.1, s_j2.2), hm, ⟨v897, S898, f901, f902, f903, f904, f905, f906, f907, hL⟩⟩
   intro s_j1 F820 wd821 hJ hm
   unfold M.impl_discardsOf_j1 at hm
   obtain ⟨v818, S819, f822, f823, f824, f825, f826, f827, f828, hL⟩ := hJ
   refine CW.regionL ?_
   refine OV (.int .i64 (w64 (s_l1.2.2 + 1))) rfl (x_add f828 rfl) ?_
   refine OV (.int .i64 (w64 (s_l1.2.2 + 1))) rfl (x_move) ?_
   refine OW.nil ?_
   obtain rfl := Option.some.inj hm
   exact ⟨_, rfl, ⟨v818, S819, f822, f823, f824, f825, f826, f827, rfl, hL⟩⟩
 refine CW.exit ?_
 refine XJ.hit ?_
 obtain rfl := Option.some.inj hm
 exact ⟨_, rfl, ⟨v640, S641, f663, f664, f665, f666, f667, f668, f669, hL⟩⟩

theorem M.slices_Index___int64_int64__ok (w0 : World) (a0 : List Int) {v1 : Value} (h2 : rdL (· < w0.heap.size) w0 v1 a0) (a1 : Int) {r : Int} (hm : M.slices_Index___int64_int64_ a0 a1 = some r) :
    Calls Tryz.prog 120 #[v1, (.int .i64 a1)] w0 fun e w' => e = .returned (.int .i64 r) ∧ Fresh w0 w' [] := by
 unfold M.slices_Index___int64_int64_ at hm
 refine calls_CW (args := [v1, (.int .i64 a1)]) Tryz.func120 rfl rfl rfl ?_
 have hL := Hp.start w0
 refine CSR ?_
 refine OV (.int .i64 0) rfl (x_assign) ?_
 refine ONS ?_
 refine CSR ?_
 refine OV v1 rfl (x_move) ?_
 refine OV (.int .i64 (a0.length : Int)) rfl (x_lenR U27 rfl (hL.rdS 0 rfl h2)) ?_
 refine OV (.int .i64 0) rfl (x_move) ?_
 refine OW.nil ?_
 obtain ⟨o23, ho24, hm⟩ := bndE hm
 refine CW.loopB (fun (s_l1 : Int) (F : Fr) (w : World) => F 0 = v1 ∧ F 1 = (.int .i64 a1) ∧ F 7 = (.int .i64 (a0.length : Int)) ∧ F 8 = (.int .i64 s_l1) ∧ Hp w0 [Ent.snap w0 w0.heap.size] w) (fun o => outc o (fun x => some x) (fun s => M.slices_Index___int64_int64__a1 s) = some r) ho24 hm ⟨rfl, rfl, rfl, rfl, hL⟩ ?_ ?_
 · intro s_l1 F25 wd26 hJ hm
   have hm := outcE hm
   have hm : M.slices_Index___int64_int64__a1 s_l1 = some r := hm
   unfold M.slices_Index___int64_int64__a1 at hm
   obtain ⟨f27, f28, f29, f30, hL⟩ := hJ
   refine CSR ?_
   refine OV (.int .i64 (-1)) rfl (x_assign) ?_
   refine OW.nil ?_
   refine CW.ret ?_
   obtain rfl := Option.some.inj hm
   exact RR1 rfl rfl ⟨rfl, hL.fresh 0 rfl [] (by decide) (by decide) rfl⟩
 intro s_l1 F31 wd32 t21 hJ hm hr22
 unfold M.slices_Index___int64_int64__l1 at hm
 obtain ⟨f33, f34, f35, f36, hL⟩ := hJ
 refine CSR ?_
 refine OV (.bool (decide (s_l1 < (a0.length : Int)))) rfl (x_lss f36 f35) ?_
 refine ONS ?_
 refine CW.condM (t := decide (s_l1 < (a0.length : Int))) rfl hm (fun hb37 hm => ?_) (fun hb37 hm => ?_)
 · refine CW.skip ?_
   refine CW.seq ?_
   refine CW.block ?_
   refine CSR ?_
   refine OV (.int .i64 s_l1) rfl (x_mv f36) ?_
   refine OV (.int .i64 s_l1) rfl (x_assign) ?_
   refine ONR ?_
   refine OV (.int .i64 a1) rfl (x_mv f34) ?_
   refine OV v1 rfl (x_mv f33) ?_
   refine OV (.int .i64 s_l1) rfl (x_move) ?_
   obtain ⟨x38, ha39, hm⟩ := bndE hm
   obtain ⟨hz40, ha44⟩ := idxE ha39
   obtain ⟨b41, q42, hix43⟩ := rdL_ix (hL.rdS 0 rfl h2) hz40 ha44
   refine OV (.pointer (some ⟨b41, q42, none⟩)) rfl (x_ix U27 Tryz_T2 rfl rfl hix43) ?_
   refine OV (.int .i64 x38) rfl (x_load1 U2 rfl rfl (rdF_cells (hL.rdS 0 rfl h2) hix43 ha44 0 _ rfl)) ?_
   refine OV (.bool (a1 == x38)) rfl (x_eql rfl rfl) ?_
   refine OW.nil ?_
   refine CW.condM (t := a1 == x38) rfl hm (fun hb45 hm => ?_) (fun hb45 hm => ?_)
   · refine CSR ?_
     refine OV (.int .i64 s_l1) rfl (x_move) ?_
     refine OV (.int .i64 s_l1) rfl (x_assign) ?_
     refine OW.nil ?_
     refine CW.ret ?_
     obtain rfl := Option.some.inj hm
     have hm := hr22 _ rfl
     obtain rfl := Option.some.inj hm
     exact RR1 rfl rfl ⟨rfl, hL.fresh 0 rfl [] (by decide) (by decide) rfl⟩
   refine CW.skip ?_
   refine CW.regionL ?_
   refine OV (.int .i64 (w64 (s_l1 + 1))) rfl (x_add f36 rfl) ?_
   refine OV (.int .i64 (w64 (s_l1 + 1))) rfl (x_move) ?_
   refine OW.nil ?_
   obtain rfl := Option.some.inj hm
   exact ⟨_, rfl, ⟨f33, f34, f35, rfl, hL⟩⟩
 refine CW.exit ?_
 refine XJ.hit ?_
 obtain rfl := Option.some.inj hm
 exact ⟨_, rfl, ⟨f33, f34, f35, f36, hL⟩⟩

theorem M.slices_Contains___int64_int64__ok (w0 : World) (a0 : List Int) {v1 : Value} (h2 : rdL (· < w0.heap.size) w0 v1 a0) (a1 : Int) {r : Bool} (hm : M.slices_Contains___int64_int64_ a0 a1 = some r) :
    Calls Tryz.prog 99 #[v1, (.int .i64 a1)] w0 fun e w' => e = .returned (.bool r) ∧ Fresh w0 w' [] := by
 unfold M.slices_Contains___int64_int64_ at hm
 refine calls_CW (args := [v1, (.int .i64 a1)]) Tryz.func99 rfl rfl rfl ?_
 have hL := Hp.start w0
 refine CSR ?_
 refine OV (.bool false) rfl (x_assign) ?_
 refine ONR ?_
 refine OV v1 rfl (x_move) ?_
 refine OV (.int .i64 a1) rfl (x_move) ?_
 obtain ⟨x3, hx4, hm⟩ := bndE hm
 refine OW.cons (OP.call rfl (x_call (vs := [v1, (.int .i64 a1)]) Tryz_C120 ⟨rfl, rfl, trivial⟩) (M.slices_Index___int64_int64__ok _ a0 (hL.rdS 0 rfl h2) a1 hx4) ?_)
 rintro e5 wd6 ⟨rfl, hF7⟩
 refine ⟨_, rfl, ?_⟩
 have hL := hL.pushAll hF7
 simp only [lA, lB, lC, lD] at hL
 refine OV (.bool (decide (0 ≤ x3))) rfl (x_geq rfl rfl) ?_
 refine OV (.bool (decide (0 ≤ x3))) rfl (x_assign) ?_
 refine OW.nil ?_
 refine CW.ret ?_
 obtain rfl := Option.some.inj hm
 exact RR1 rfl rfl ⟨rfl, hL.fresh 0 rfl [] (by decide) (by decide) rfl⟩

theorem M.impl_countedPoints_ok (w0 : World) (a0 : Table) {v1 : Value} {v3 : Value} (h2 : rdL (· < w0.heap.size) w0 v1 a0.Points) (h4 : rdL (· < w0.heap.size) w0 v3 a0.Codes) (a1 : List Int) {v5 : Value} (h6 : rdL (· < w0.heap.size) w0 v5 a1) (a2 : Int) {r : (List Int)} (hm : M.impl_countedPoints a0 a1 a2 = some r) :
    Calls Tryz.prog 66 #[(.agg #[(.int .i64 a0.Boats), v1, v3]), v5, (.int .i64 a2)] w0 fun e w' => ∃ (rv0 : Value) (rS0 : Nat → Prop), e = .returned rv0 ∧ Fresh w0 w' [Ent.own 2 rS0 rv0 r] := by
 unfold M.impl_countedPoints at hm
 refine calls_CW (args := [(.agg #[(.int .i64 a0.Boats), v1, v3]), v5, (.int .i64 a2)]) Tryz.func66 rfl rfl rfl ?_
 have hL := Hp.start w0
 refine CSR ?_
 refine OW.cons (S_box (cs := #[(.int .i64 a0.Boats), v1, v3]) hL rfl rfl rfl ?_)
 intro wd7 b8 hL
 refine OV (.slice none 0 0) rfl (x_assign) ?_
 refine ONR ?_
 refine OW.cons (S_lit ([] : List Int) hL U27 Tryz_T2 rfl (by decide) (by first | (simp [Instr.fill, madeCells, Value.cells, ev, upd, Flat.enc, Flat.sz]; done) | rfl | kernel_rfl) rfl rfl ?_)
 intro wd9 v10 S11 hL
 refine OV (.agg #[(.int .i64 a0.Boats), v1, v3]) rfl (x_loadN (cs := [(.int .i64 a0.Boats), v1, v3]) U26 Tryz_T26 rfl rfl (hL.cellsB 1 rfl (o := 0) (l := [(.int .i64 a0.Boats), v1, v3]) (by intro j u hj; exact (by simpa using hj)))) ?_
 refine OV v5 rfl (x_move) ?_
 refine OV (.int .i64 a2) rfl (x_move) ?_
 obtain ⟨x12, hx13, hm⟩ := bndE hm
 refine OW.cons (OP.call rfl (x_call (vs := [(.agg #[(.int .i64 a0.Boats), v1, v3]), v5, (.int .i64 a2)]) Tryz_C98 ⟨rfl, rfl, rfl, trivial⟩) (M.impl_discardsOf_ok _ a0 (hL.rdS 2 rfl h2) (hL.rdS 2 rfl h4) a1 (hL.rdS 2 rfl h6) a2 hx13) ?_)
 rintro e16 wd17 ⟨v15, S14, rfl, hF18⟩
 refine ⟨_, rfl, ?_⟩
 have hL := hL.pushAll hF18
 simp only [lA, lB, lC, lD] at hL
 refine OV v10 rfl (x_assign) ?_
 refine OV v15 rfl (x_assign) ?_
 refine ONS ?_
 refine CSR ?_
 refine OV (.pointer (some ⟨b8, 1, none⟩)) rfl (x_fieldAddr (fsz := 1) 0 1 1 U26 rfl Tryz_T24 rfl rfl rfl) ?_
 refine OV v1 rfl (x_load1 U24 rfl rfl (hL.cellB 2 rfl rfl)) ?_
 refine OV (.int .i64 (a0.Points.length : Int)) rfl (x_lenR U24 rfl (hL.rdS 3 rfl h2)) ?_
 refine OV (.int .i64 0) rfl (x_move) ?_
 refine OW.nil ?_
 obtain ⟨o335, ho336, hm⟩ := bndE hm
 have hL := hL.sel [1, 0, 2, 3] (by decide) rfl
 refine CW.loopB (fun (s_l1 : (List Int) × Int) (F : Fr) (w : World) => ∃ (v331 : Value) (S332 : Nat → Prop), F 2 = (.int .i64 a2) ∧ F 3 = (.pointer (some ⟨b8, 0, none⟩)) ∧ F 7 = v331 ∧ F 8 = v15 ∧ F 17 = (.int .i64 (a0.Points.length : Int)) ∧ F 18 = (.int .i64 s_l1.2) ∧ Hp w0 [Ent.own 2 S332 v331 s_l1.1, Ent.own 2 S14 v15 x12, Ent.blk b8 26 #[(.int .i64 a0.Boats), v1, v3], Ent.snap w0 w0.heap.size] w) (fun o => outc o (fun x => some x) (fun s => M.impl_countedPoints_a1 s) = some r) ho336 hm ⟨v10, S11, rfl, rfl, rfl, rfl, rfl, rfl, hL⟩ ?_ ?_
 · intro s_l1 F337 wd338 hJ hm
   have hm := outcE hm
   have hm : M.impl_countedPoints_a1 s_l1 = some r := hm
   unfold M.impl_countedPoints_a1 at hm
   obtain ⟨v331, S332, f339, f340, f341, f342, f343, f344, hL⟩ := hJ
   refine CSR ?_
   refine OV v331 rfl (x_mv f341) ?_
   refine OV v331 rfl (x_assign) ?_
   refine OW.nil ?_
   refine CW.ret ?_
   obtain rfl := Option.some.inj hm
   exact RR1 rfl rfl ⟨v331, S332, rfl, hL.fresh 3 rfl [0] (by decide) (by decide) rfl⟩
 intro s_l1 F345 wd346 t333 hJ hm hr334
 unfold M.impl_countedPoints_l1 at hm
 obtain ⟨v331, S332, f347, f348, f349, f350, f351, f352, hL⟩ := hJ
 refine CSR ?_
 refine OV (.bool (decide (s_l1.2 < (a0.Points.length : Int)))) rfl (x_lss f352 f351) ?_
 refine ONS ?_
 refine CW.condM (t := decide (s_l1.2 < (a0.Points.length : Int))) rfl hm (fun hb353 hm => ?_) (fun hb353 hm => ?_)
 · refine CW.skip ?_
   refine CW.seqJ (fun (s_j1 : (List Int)) (F : Fr) (w : World) => ∃ (v426 : Value) (S427 : Nat → Prop), F 2 = (.int .i64 a2) ∧ F 3 = (.pointer (some ⟨b8, 0, none⟩)) ∧ F 7 = v426 ∧ F 8 = v15 ∧ F 17 = (.int .i64 (a0.Points.length : Int)) ∧ F 18 = (.int .i64 s_l1.2) ∧ Hp w0 [Ent.own 2 S427 v426 s_j1, Ent.own 2 S14 v15 x12, Ent.blk b8 26 #[(.int .i64 a0.Boats), v1, v3], Ent.snap w0 w0.heap.size] w) (fun s_j1 => M.impl_countedPoints_j1 s_l1 s_j1 = some t333) ?_ ?_
   · refine CW.blockJ (fun (s_j2 : (List Int)) (F : Fr) (w : World) => ∃ (v467 : Value) (S468 : Nat → Prop), F 2 = (.int .i64 a2) ∧ F 3 = (.pointer (some ⟨b8, 0, none⟩)) ∧ F 7 = v467 ∧ F 8 = v15 ∧ F 17 = (.int .i64 (a0.Points.length : Int)) ∧ F 18 = (.int .i64 s_l1.2) ∧ Hp w0 [Ent.own 2 S468 v467 s_j2, Ent.own 2 S14 v15 x12, Ent.blk b8 26 #[(.int .i64 a0.Boats), v1, v3], Ent.snap w0 w0.heap.size] w) (fun s_j2 => M.impl_countedPoints_j2 s_l1 s_j2 = some t333) ?_ ?_
     · refine CSR ?_
       refine OV (.int .i64 s_l1.2) rfl (x_mv f352) ?_
       refine OV (.int .i64 s_l1.2) rfl (x_assign) ?_
       refine ONR ?_
       refine OV v15 rfl (x_mv f350) ?_
       refine OV (.int .i64 s_l1.2) rfl (x_move) ?_
       obtain ⟨x477, hx478, hm⟩ := bndE hm
       refine OW.cons (OP.call rfl (x_call (vs := [v15, (.int .i64 s_l1.2)]) Tryz_C99 ⟨rfl, rfl, trivial⟩) (M.slices_Contains___int64_int64__ok _ x12 (hL.rdO 1 rfl) s_l1.2 hx478) ?_)
       rintro e479 wd480 ⟨rfl, hF481⟩
       refine ⟨_, rfl, ?_⟩
       have hL := hL.pushAll hF481
       simp only [lA, lB, lC, lD] at hL
       refine OV (.bool (!x477)) rfl (x_not rfl) ?_
       refine OW.nil ?_
       refine CW.condM (t := !x477) rfl hm (fun hb482 hm => ?_) (fun hb482 hm => ?_)
       · refine CW.regionL ?_
         refine OV v331 rfl (x_mv f349) ?_
         refine OV (.pointer (some ⟨b8, 1, none⟩)) rfl (x_fieldAddr (fsz := 1) 0 1 1 U26 rfl Tryz_T24 rfl f348 rfl) ?_
         refine OV v1 rfl (x_load1 U24 rfl rfl (hL.cellB 2 rfl rfl)) ?_
         refine OV (.int .i64 s_l1.2) rfl (x_move) ?_
         obtain ⟨x483, ha484, hm⟩ := bndE hm
         obtain ⟨hz485, ha493⟩ := idxE ha484
         obtain ⟨b486, q487, v488, hix489, hs490, hc491, hr492⟩ := rdN_at h2 hz485 ha493
         refine OV (.pointer (some ⟨b486, q487, none⟩)) rfl (x_ix U24 Tryz_T27 rfl rfl hix489) ?_
         refine OV v488 rfl (x_load1 U27 rfl rfl (hL.cellS 3 rfl hs490 hc491)) ?_
         refine OV (.int .i64 a2) rfl (x_mv f347) ?_
         obtain ⟨x494, ha495, hm⟩ := bndE hm
         obtain ⟨hz496, ha500⟩ := idxE ha495
         obtain ⟨b497, q498, hix499⟩ := rdL_ix (hL.rdS 3 rfl hr492) hz496 ha500
         refine OV (.pointer (some ⟨b497, q498, none⟩)) rfl (x_ix U27 Tryz_T2 rfl rfl hix499) ?_
         refine OV (.int .i64 x494) rfl (x_load1 U2 rfl rfl (rdF_cells (hL.rdS 3 rfl hr492) hix499 ha500 0 _ rfl)) ?_
         refine OW.cons (S_lit ([x494] : List Int) hL U27 Tryz_T2 rfl (by decide) (by first | (simp [Instr.fill, madeCells, Value.cells, ev, upd, Flat.enc, Flat.sz]; done) | rfl | kernel_rfl) rfl rfl ?_)
         intro wd501 v502 S503 hL
         obtain ⟨hc507, hm⟩ := chkE hm
         refine OW.cons (S_append (ys := ([x494] : List Int)) hL 1 rfl U27 Tryz_T2 rfl rfl rfl (hL.rdO 0 rfl) hc507 (by decide) rfl ?_)
         intro wd504 v505 S506 hL
         refine OV v505 rfl (x_assign) ?_
         refine OW.nil ?_
         have hL := hL.sel [1, 2, 3, 4] (by decide) rfl
         exact ⟨s_l1.1 ++ ([x494] : List Int), hm, ⟨v505, S506, f347, f348, rfl, f350, f351, f352, hL⟩⟩
       refine CW.skip ?_
       exact ⟨s_l1.1, hm, ⟨v331, S332, f347, f348, f349, f350, f351, f352, hL⟩⟩
     intro s_j2 F469 wd470 hJ hm
     unfold M.impl_countedPoints_j2 at hm
     obtain ⟨v467, S468, f471, f472, f473, f474, f475, f476, hL⟩ := hJ
     exact ⟨s_j2, hm, ⟨v467, S468, f471, f472, f473, f474, f475, f476, hL⟩⟩
   intro s_j1 F428 wd429 hJ hm
   unfold M.impl_countedPoints_j1 at hm
   obtain ⟨v426, S427, f430, f431, f432, f433, f434, f435, hL⟩ := hJ
   refine CW.regionL ?_
   refine OV (.int .i64 (w64 (s_l1.2 + 1))) rfl (x_add f435 rfl) ?_
   refine OV (.int .i64 (w64 (s_l1.2 + 1))) rfl (x_move) ?_
   refine OW.nil ?_
   obtain rfl := Option.some.inj hm
   exact ⟨_, rfl, ⟨v426, S427, f430, f431, f432, f433, f434, rfl, hL⟩⟩
 refine CW.exit ?_
 refine XJ.hit ?_
 obtain rfl := Option.some.inj hm
 exact ⟨_, rfl, ⟨v331, S332, f347, f348, f349, f350, f351, f352, hL⟩⟩

theorem M.impl_netPoints_ok (w0 : World) (a0 : Table) {v1 : Value} {v3 : Value} (h2 : rdL (· < w0.heap.size) w0 v1 a0.Points) (h4 : rdL (· < w0.heap.size) w0 v3 a0.Codes) (a1 : List Int) {v5 : Value} (h6 : rdL (· < w0.heap.size) w0 v5 a1) (a2 : Int) {r : Int} (hm : M.impl_netPoints a0 a1 a2 = some r) :
    Calls Tryz.prog 30 #[(.agg #[(.int .i64 a0.Boats), v1, v3]), v5, (.int .i64 a2)] w0 fun e w' => e = .returned (.int .i64 r) ∧ Fresh w0 w' [] := by
 unfold M.impl_netPoints at hm
 refine calls_CW (args := [(.agg #[(.int .i64 a0.Boats), v1, v3]), v5, (.int .i64 a2)]) Tryz.func30 rfl rfl rfl ?_
 have hL := Hp.start w0
 refine CSR ?_
 refine OW.cons (S_box (cs := #[(.int .i64 a0.Boats), v1, v3]) hL rfl rfl rfl ?_)
 intro wd7 b8 hL
 refine OV (.int .i64 0) rfl (x_assign) ?_
 refine ONR ?_
 refine OV (.int .i64 0) rfl (x_assign) ?_
 refine ONS ?_
 refine CSR ?_
 refine OV (.agg #[(.int .i64 a0.Boats), v1, v3]) rfl (x_loadN (cs := [(.int .i64 a0.Boats), v1, v3]) U26 Tryz_T26 rfl rfl (hL.cellsB 0 rfl (o := 0) (l := [(.int .i64 a0.Boats), v1, v3]) (by intro j u hj; exact (by simpa using hj)))) ?_
 refine OV v5 rfl (x_move) ?_
 refine OV (.int .i64 a2) rfl (x_move) ?_
 obtain ⟨x9, hx10, hm⟩ := bndE hm
 refine OW.cons (OP.call rfl (x_call (vs := [(.agg #[(.int .i64 a0.Boats), v1, v3]), v5, (.int .i64 a2)]) Tryz_C66 ⟨rfl, rfl, rfl, trivial⟩) (M.impl_countedPoints_ok _ a0 (hL.rdS 1 rfl h2) (hL.rdS 1 rfl h4) a1 (hL.rdS 1 rfl h6) a2 hx10) ?_)
 rintro e13 wd14 ⟨v12, S11, rfl, hF15⟩
 refine ⟨_, rfl, ?_⟩
 have hL := hL.pushAll hF15
 simp only [lA, lB, lC, lD] at hL
 refine OV (.int .i64 (x9.length : Int)) rfl (x_lenR U27 rfl (hL.rdO 0 rfl)) ?_
 refine OV (.int .i64 0) rfl (x_move) ?_
 refine OW.nil ?_
 obtain ⟨o34, ho35, hm⟩ := bndE hm
 refine CW.loopB (fun (s_l1 : Int × Int) (F : Fr) (w : World) => F 7 = (.int .i64 s_l1.1) ∧ F 13 = v12 ∧ F 14 = (.int .i64 (x9.length : Int)) ∧ F 15 = (.int .i64 s_l1.2) ∧ Hp w0 [Ent.own 2 S11 v12 x9, Ent.blk b8 26 #[(.int .i64 a0.Boats), v1, v3], Ent.snap w0 w0.heap.size] w) (fun o => outc o (fun x => some x) (fun s => M.impl_netPoints_a1 s) = some r) ho35 hm ⟨rfl, rfl, rfl, rfl, hL⟩ ?_ ?_
 · intro s_l1 F36 wd37 hJ hm
   have hm := outcE hm
   have hm : M.impl_netPoints_a1 s_l1 = some r := hm
   unfold M.impl_netPoints_a1 at hm
   obtain ⟨f38, f39, f40, f41, hL⟩ := hJ
   refine CSR ?_
   refine OV (.int .i64 s_l1.1) rfl (x_mv f38) ?_
   refine OV (.int .i64 s_l1.1) rfl (x_assign) ?_
   refine OW.nil ?_
   refine CW.ret ?_
   obtain rfl := Option.some.inj hm
   exact RR1 rfl rfl ⟨rfl, hL.fresh 2 rfl [] (by decide) (by decide) rfl⟩
 intro s_l1 F42 wd43 t32 hJ hm hr33
 unfold M.impl_netPoints_l1 at hm
 obtain ⟨f44, f45, f46, f47, hL⟩ := hJ
 refine CSR ?_
 refine OV (.bool (decide (s_l1.2 < (x9.length : Int)))) rfl (x_lss f47 f46) ?_
 refine ONS ?_
 refine CW.condM (t := decide (s_l1.2 < (x9.length : Int))) rfl hm (fun hb48 hm => ?_) (fun hb48 hm => ?_)
 · refine CW.skip ?_
   refine CW.seq ?_
   refine CW.block ?_
   refine CSR ?_
   obtain ⟨x49, ha50, hm⟩ := bndE hm
   obtain ⟨hz51, ha55⟩ := idxE ha50
   obtain ⟨b52, q53, hix54⟩ := rdL_ix (hL.rdO 0 rfl) hz51 ha55
   refine OV (.pointer (some ⟨b52, q53, none⟩)) rfl (x_ix U27 Tryz_T2 f45 f47 hix54) ?_
   refine OV (.int .i64 x49) rfl (x_load1 U2 rfl rfl (rdF_cells (hL.rdO 0 rfl) hix54 ha55 0 _ rfl)) ?_
   refine OV (.int .i64 x49) rfl (x_assign) ?_
   refine OW.nil ?_
   refine CW.regionL ?_
   refine OV (.int .i64 s_l1.1) rfl (x_mv f44) ?_
   refine OV (.int .i64 x49) rfl (x_move) ?_
   refine OV (.int .i64 (w64 (s_l1.1 + x49))) rfl (x_add rfl rfl) ?_
   refine OV (.int .i64 (w64 (s_l1.1 + x49))) rfl (x_assign) ?_
   refine OW.nil ?_
   refine CW.regionL ?_
   refine OV (.int .i64 (w64 (s_l1.2 + 1))) rfl (x_add f47 rfl) ?_
   refine OV (.int .i64 (w64 (s_l1.2 + 1))) rfl (x_move) ?_
   refine OW.nil ?_
   obtain rfl := Option.some.inj hm
   exact ⟨_, rfl, ⟨rfl, f45, f46, rfl, hL⟩⟩
 refine CW.exit ?_
 refine XJ.hit ?_
 obtain rfl := Option.some.inj hm
 exact ⟨_, rfl, ⟨f44, f45, f46, f47, hL⟩⟩

theorem M.impl_sortedPoints_ok (w0 : World) (a0 : Table) {v1 : Value} {v3 : Value} (h2 : rdL (· < w0.heap.size) w0 v1 a0.Points) (h4 : rdL (· < w0.heap.size) w0 v3 a0.Codes) (a1 : List Int) {v5 : Value} (h6 : rdL (· < w0.heap.size) w0 v5 a1) (a2 : Int) {r : (List Int)} (hm : M.impl_sortedPoints a0 a1 a2 = some r) :
    Calls Tryz.prog 70 #[(.agg #[(.int .i64 a0.Boats), v1, v3]), v5, (.int .i64 a2)] w0 fun e w' => ∃ (rv0 : Value) (rS0 : Nat → Prop), e = .returned rv0 ∧ Fresh w0 w' [Ent.own 2 rS0 rv0 r] := by
 unfold M.impl_sortedPoints at hm
 refine calls_CW (args := [(.agg #[(.int .i64 a0.Boats), v1, v3]), v5, (.int .i64 a2)]) Tryz.func70 rfl rfl rfl ?_
 have hL := Hp.start w0
 refine CSR ?_
 refine OW.cons (S_box (cs := #[(.int .i64 a0.Boats), v1, v3]) hL rfl rfl rfl ?_)
 intro wd7 b8 hL
 refine OV (.slice none 0 0) rfl (x_assign) ?_
 refine ONR ?_
 refine OV (.agg #[(.int .i64 a0.Boats), v1, v3]) rfl (x_loadN (cs := [(.int .i64 a0.Boats), v1, v3]) U26 Tryz_T26 rfl rfl (hL.cellsB 0 rfl (o := 0) (l := [(.int .i64 a0.Boats), v1, v3]) (by intro j u hj; exact (by simpa using hj)))) ?_
 refine OV v5 rfl (x_move) ?_
 refine OV (.int .i64 a2) rfl (x_move) ?_
 obtain ⟨x9, hx10, hm⟩ := bndE hm
 refine OW.cons (OP.call rfl (x_call (vs := [(.agg #[(.int .i64 a0.Boats), v1, v3]), v5, (.int .i64 a2)]) Tryz_C66 ⟨rfl, rfl, rfl, trivial⟩) (M.impl_countedPoints_ok _ a0 (hL.rdS 1 rfl h2) (hL.rdS 1 rfl h4) a1 (hL.rdS 1 rfl h6) a2 hx10) ?_)
 rintro e13 wd14 ⟨v12, S11, rfl, hF15⟩
 refine ⟨_, rfl, ?_⟩
 have hL := hL.pushAll hF15
 simp only [lA, lB, lC, lD] at hL
 refine OV v12 rfl (x_assign) ?_
 refine ONR ?_
 refine OV v12 rfl (x_move) ?_
 obtain ⟨x16, hx17, hm⟩ := bndE hm
 refine OW.cons (OP.call rfl (x_call (vs := [v12]) Tryz_C103 ⟨rfl, trivial⟩) (M.slices_Sort___int64_int64__ok _ x9 (hL.get 0 rfl) hx17) ?_)
 rintro e18 wd19 ⟨S21, rfl, hF20⟩
 refine ⟨_, rfl, ?_⟩
 have hL := hL.mut 0 rfl hF20
 simp only [lA, lB, lC, lD] at hL
 refine ONR ?_
 refine OV v12 rfl (x_move) ?_
 refine OV v12 rfl (x_assign) ?_
 refine OW.nil ?_
 refine CW.ret ?_
 obtain rfl := Option.some.inj hm
 exact RR1 rfl rfl ⟨v12, S21, rfl, hL.fresh 2 rfl [0] (by decide) (by decide) rfl⟩

theorem M.back104_ok (w0 : World) {v : Value} {α : Type} [GoT α] {S : Nat → Prop} {xs : List α} (h : rdL S w0 v xs) :
    Calls Tryz.prog 71 #[v] w0 fun e w' => ∃ b : Nat, e = .returned (.func (.func 104) #[] #[.pointer (some ⟨b, 0, none⟩)]) ∧ Fresh w0 w' [Ent.blk b 24 #[v]] := by
 refine calls_CW (args := [v]) Tryz.func71 rfl rfl rfl ?_
 have hL := Hp.start w0
 refine CSR ?_
 refine OW.cons (S_box (cs := #[v]) hL rfl (rdL_cells h) rfl ?_)
 intro wd b hL
 refine OW.cons (OP.val rfl x_assign ?_)
 refine ONR ?_
 refine OV (.func (.func 104) #[] #[.pointer (some ⟨b, 0, none⟩)]) rfl (x_makeFunc (vs := [(.pointer (some ⟨b, 0, none⟩))]) ⟨rfl, trivial⟩) ?_
 refine OW.cons (OP.val rfl x_assign ?_)
 refine OW.nil ?_
 refine CW.ret ?_
 exact RR1 rfl rfl ⟨b, rfl, hL.fresh 1 rfl [0] (by decide) (by decide) rfl⟩
theorem M.back104_it {v : Value} {b : Nat} {xs : List (List Int)} : IterB Tryz.prog 104 24 b v xs := by
 intro l Y Z W hY hr h0
 have hlen : (xs.length : Int) < 9223372036854775808 := by
   obtain ⟨Av, cap, _, h1, h2, _⟩ := (hY _ _ h0).2
   unfold maxLen at h2
   omega
 refine calls_CF (args := [(.func (.yield l) #[] #[]), (.pointer (some ⟨b, 0, none⟩))]) Tryz.func104 rfl rfl rfl ?_
 refine CF.seq ?_
 refine CF.regionL ?_
 refine OW.cons (OP.val rfl (x_load1 U24 rfl rfl (cell_box (hY _ _ h0).1)) ?_)
 refine OW.cons (OP.val rfl (x_lenR U24 rfl (hY _ _ h0).2) ?_)
 refine OW.cons (OP.val rfl (x_sub rfl rfl) ?_)
 refine OW.cons (OP.val rfl x_assign ?_)
 refine OW.nil ?_
 refine CF.block ?_
 refine CF.loop (fun F w => ∃ k : Nat, k ≤ xs.length ∧ F 0 = (.func (.yield l) #[] #[]) ∧ F 1 = (.pointer (some ⟨b, 0, none⟩)) ∧ F 3 = .int .i64 ((k : Int) - 1) ∧ Y k w) (fun F _ => match F 3 with | .int _ i => (i + 1).toNat | _ => 0) ⟨xs.length, Nat.le_refl _, rfl, rfl, congrArg (Value.int .i64) (w64_id (by omega)), h0⟩ ?_
 rintro F w ⟨k, hk, f0, f1, f3, hYk⟩
 refine CF.seq ?_
 refine CF.seq ?_
 refine CF.regionL ?_
 refine OW.cons (OP.val rfl (x_mv f3) ?_)
 refine OW.cons (OP.val rfl (x_geq rfl rfl) ?_)
 refine OW.nil ?_
 cases k with
 | zero =>
   refine CF.condF (t := decide ((0 : Int) ≤ ((0 : Nat) : Int) - 1)) rfl (decide_eq_false (by omega)) ?_
   refine CF.exit ?_
   refine XX.hit ?_
   exact RR0 rfl ⟨⟨_, rfl⟩, .inl hYk⟩
 | succ k =>
   refine CF.condT (t := decide ((0 : Int) ≤ ((k + 1 : Nat) : Int) - 1)) rfl (decide_eq_true (by omega)) ?_
   refine CF.skip ?_
   refine CF.seq ?_
   refine CF.block ?_
   refine CF.seq ?_
   have hlt : k < xs.length := by omega
   have e1 : (((k + 1 : Nat) : Int) - 1) = (k : Int) := by omega
   rw [e1] at f3
   obtain ⟨b1, q1, u1, hix, _, hc, _⟩ := rdN_at (hY _ _ hYk).2 (Int.natCast_nonneg k) (by rw [Int.toNat_natCast]; exact List.getElem?_eq_getElem hlt)
   obtain ⟨fn, tmps, assign, body, hy, hR⟩ := hr k w u1 hlt hYk (fun b' q' hix' => by obtain ⟨rfl, rfl⟩ := hix.inj hix'; exact hc)
   refine CF.regionY ?_
   refine OF.cons rfl (OP.val rfl (x_mv f0) ?_)
   refine OF.cons rfl (OP.val rfl (x_mv f3) ?_)
   refine OF.cons rfl (OP.val rfl (x_load1 U24 rfl f1 (cell_box (hY _ _ hYk).1)) ?_)
   refine OF.cons rfl (OP.val rfl (x_mv f3) ?_)
   refine OF.cons rfl (OP.val rfl (x_ix U24 Tryz_T27 rfl rfl hix) ?_)
   refine OF.cons rfl (OP.val rfl (x_load1 U27 rfl rfl hc) ?_)
   refine OF.yield rfl rfl rfl rfl hy (hR.mono ?_)
   rintro e W' (⟨rfl, hY'⟩ | ⟨rfl, hZ⟩)
   · refine ⟨_, rfl, ?_⟩
     refine OF.cons rfl (OP.val rfl (x_not (b := true) rfl) ?_)
     refine OF.nil ?_
     refine CF.condF (t := !true) rfl rfl ?_
     refine CF.skip ?_
     refine CF.regionL ?_
     refine OW.cons (OP.val rfl (x_mv f3) ?_)
     refine OW.cons (OP.val rfl (x_sub rfl rfl) ?_)
     refine OW.cons (OP.val rfl x_assign ?_)
     refine OW.nil ?_
     have e2 : w64 ((k : Int) - 1) = (k : Int) - 1 := w64_id (by omega)
     refine ⟨⟨k, by omega, f0, f1, congrArg (Value.int .i64) e2, hY'⟩, ?_⟩
     show (w64 ((k : Int) - 1) + 1).toNat < (match F 3 with | .int _ i => (i + 1).toNat | _ => 0)
     rw [e2, f3]
     simp
   · refine ⟨_, rfl, ?_⟩
     refine OF.cons rfl (OP.val rfl (x_not (b := false) rfl) ?_)
     refine OF.nil ?_
     refine CF.condT (t := !false) rfl rfl ?_
     refine CF.ret ?_
     exact RR0 rfl ⟨⟨_, rfl⟩, .inr hZ⟩

theorem M.impl_compareBoats_ok (w0 : World) (a0 : Table) {v1 : Value} {v3 : Value} (h2 : rdL (· < w0.heap.size) w0 v1 a0.Points) (h4 : rdL (· < w0.heap.size) w0 v3 a0.Codes) (a1 : List Int) {v5 : Value} (h6 : rdL (· < w0.heap.size) w0 v5 a1) (a2 : Int) (a3 : Int) {r : Int × Int × Int} (hm : M.impl_compareBoats a0 a1 a2 a3 = some r) :
    Calls Tryz.prog 36 #[(.agg #[(.int .i64 a0.Boats), v1, v3]), v5, (.int .i64 a2), (.int .i64 a3)] w0 fun e w' => e = .returned (.tuple #[(.int .i64 r.1), (.int .i64 r.2.1), (.int .i64 r.2.2)]) ∧ Fresh w0 w' [] := by
 unfold M.impl_compareBoats at hm
 refine calls_SW (args := [(.agg #[(.int .i64 a0.Boats), v1, v3]), v5, (.int .i64 a2), (.int .i64 a3)]) Tryz.func36 rfl rfl rfl ?_
 have hL := Hp.start w0
 refine SW.seqC ?_
 refine CW.regionL ?_
 refine OW.cons (S_box (cs := #[(.int .i64 a0.Boats), v1, v3]) hL rfl rfl rfl ?_)
 intro wd7 b8 hL
 refine OW.cons (S_box (cs := #[(.int .i64 a2)]) hL rfl rfl rfl ?_)
 intro wd9 b10 hL
 refine OW.cons (S_box (cs := #[(.int .i64 a3)]) hL rfl rfl rfl ?_)
 intro wd11 b12 hL
 refine OW.cons (S_alloc (cs := #[(.int .i64 0)]) hL Tryz_T2 rfl rfl ?_)
 intro wd13 b14 hL
 refine OW.cons (S_alloc (cs := #[(.int .i64 0)]) hL Tryz_T2 rfl rfl ?_)
 intro wd15 b16 hL
 refine OW.cons (S_alloc (cs := #[(.int .i64 0)]) hL Tryz_T2 rfl rfl ?_)
 intro wd17 b18 hL
 refine OW.nil ?_
 refine SW.seqC ?_
 refine CW.seq ?_
 refine CW.draw Tryz_mixed ?_
 have hL := hL.call (Mod.drew _)
 refine DW.pre (fuel := 0) (fin := bma 10 1023) (C := fun w' => Mod None_ _ w') [0, 1, 2, 3, 4, 5, 6, 7, 8, 9] (Mod.refl _ _) (by kernel_rfl) (by kernel_rfl) ?_
 refine QW.cons rfl (QP.val (v := (.agg #[(.int .i64 a0.Boats), v1, v3])) rfl (fun w' hm' => x_loadN (cs := [(.int .i64 a0.Boats), v1, v3]) U26 Tryz_T26 rfl rfl ((hL.call hm').cellsB 5 rfl (o := 0) (l := [(.int .i64 a0.Boats), v1, v3]) (by intro j u hj; exact (by simpa using hj)))) ?_)
 refine QW.cons rfl (QP.val (v := v5) rfl (fun w' hm' => x_move) ?_)
 refine QW.cons rfl (QP.val (v := (.int .i64 a2)) rfl (fun w' hm' => x_load1 U2 rfl rfl ((hL.call hm').cellB 4 rfl rfl)) ?_)
 obtain ⟨x19, hx20, hm⟩ := bndE hm
 refine QW.cons rfl (QP.call (v := (.int .i64 x19)) rfl (fun w' hm' => x_call (vs := [(.agg #[(.int .i64 a0.Boats), v1, v3]), v5, (.int .i64 a2)]) Tryz_C30 ⟨rfl, rfl, rfl, trivial⟩) (fun w' hm' => (M.impl_netPoints_ok w' a0 ((hL.call hm').rdS 6 rfl h2) ((hL.call hm').rdS 6 rfl h4) a1 ((hL.call hm').rdS 6 rfl h6) a2 hx20).mono (fun e w'' h => ⟨h.1, hm'.trans h.2.mod⟩)) ?_)
 refine QW.cons rfl (QP.val (v := (.agg #[(.int .i64 a0.Boats), v1, v3])) rfl (fun w' hm' => x_loadN (cs := [(.int .i64 a0.Boats), v1, v3]) U26 Tryz_T26 rfl rfl ((hL.call hm').cellsB 5 rfl (o := 0) (l := [(.int .i64 a0.Boats), v1, v3]) (by intro j u hj; exact (by simpa using hj)))) ?_)
 refine QW.cons rfl (QP.val (v := v5) rfl (fun w' hm' => x_move) ?_)
 refine QW.cons rfl (QP.val (v := (.int .i64 a3)) rfl (fun w' hm' => x_load1 U2 rfl rfl ((hL.call hm').cellB 3 rfl rfl)) ?_)
 obtain ⟨x21, hx22, hm⟩ := bndE hm
 refine QW.cons rfl (QP.call (v := (.int .i64 x21)) rfl (fun w' hm' => x_call (vs := [(.agg #[(.int .i64 a0.Boats), v1, v3]), v5, (.int .i64 a3)]) Tryz_C30 ⟨rfl, rfl, rfl, trivial⟩) (fun w' hm' => (M.impl_netPoints_ok w' a0 ((hL.call hm').rdS 6 rfl h2) ((hL.call hm').rdS 6 rfl h4) a1 ((hL.call hm').rdS 6 rfl h6) a3 hx22).mono (fun e w'' h => ⟨h.1, hm'.trans h.2.mod⟩)) ?_)
 refine QW.cons rfl (QP.val (v := (.int .i64 (w64 (x19 - x21)))) rfl (fun w' hm' => x_sub rfl rfl) ?_)
 refine QW.cons rfl (QP.val (v := (.int .i64 (w64 (x19 - x21)))) rfl (fun w' hm' => x_assign) ?_)
 refine QW.nil ?_
 intro wd23 hmod
 have hL := hL.call hmod
 refine DW.done (by kernel_rfl) ?_
 refine CSR ?_
 refine OV (.int .i64 (w64 (x19 - x21))) rfl (x_move) ?_
 refine OV (.bool ((w64 (x19 - x21)) != 0)) rfl (x_neq rfl rfl) ?_
 refine OW.nil ?_
 refine CW.condM (t := (w64 (x19 - x21)) != 0) rfl hm (fun hb24 hm => ?_) (fun hb24 hm => ?_)
 · refine CSR ?_
   refine OV (.int .i64 (w64 (x19 - x21))) rfl (x_move) ?_
   obtain ⟨x25, hx26, hm⟩ := bndE hm
   refine OW.cons (OP.call rfl (x_call (vs := [(.int .i64 (w64 (x19 - x21)))]) Tryz_C69 ⟨rfl, trivial⟩) (M.impl_sign_ok _ (w64 (x19 - x21)) hx26) ?_)
   rintro e27 wd28 ⟨rfl, hF29⟩
   refine ⟨_, rfl, ?_⟩
   have hL := hL.pushAll hF29
   simp only [lA, lB, lC, lD] at hL
   refine OW.cons (S_store (cs' := #[(.int .i64 x25)]) hL 2 rfl Tryz_T2 rfl rfl rfl rfl rfl ?_)
   intro wd30 hL
   refine OW.cons (S_store (cs' := #[(.int .i64 1)]) hL 1 rfl Tryz_T2 rfl rfl rfl rfl rfl ?_)
   intro wd31 hL
   refine OW.cons (S_store (cs' := #[(.int .i64 0)]) hL 0 rfl Tryz_T2 rfl rfl rfl rfl rfl ?_)
   intro wd32 hL
   refine OW.nil ?_
   refine CW.ret ?_
   refine RM.nil ?_
   obtain rfl := Option.some.inj hm
   exact RRs (v := (.int .i64 x25)) (v2 := (.int .i64 1)) (vs := [(.int .i64 0)]) (rs := [.cell 8 2, .cell 9 2, .cell 10 2]) rfl ⟨resCell rfl (run_load1 U2 rfl (cell_box (hL.get 2 rfl))), resCell rfl (run_load1 U2 rfl (cell_box (hL.get 1 rfl))), resCell rfl (run_load1 U2 rfl (cell_box (hL.get 0 rfl))), trivial⟩ ⟨rfl, hL.fresh 6 rfl [] (by decide) (by decide) rfl⟩
 refine CW.skip ?_
 refine SW.seqC ?_
 refine CW.drawH (fun w' => Hp w0 [Ent.blk b18 2 #[(.int .i64 0)], Ent.blk b16 2 #[(.int .i64 0)], Ent.blk b14 2 #[(.int .i64 0)], Ent.blk b12 2 #[(.int .i64 a3)], Ent.blk b10 2 #[(.int .i64 a2)], Ent.blk b8 26 #[(.int .i64 a0.Boats), v1, v3], Ent.snap w0 w0.heap.size] w') Tryz_mixed ?_
 have hL := hL.call (Mod.drew _)
 have hS := (hL.sel [0, 1, 2, 3, 4, 5, 6] (by decide) rfl)
 refine DH.take 0 rfl (by kernel_rfl) (by kernel_rfl) (by kernel_rfl) rfl rfl hS (YH.val (v := (.agg #[(.int .i64 a0.Boats), v1, v3])) (fun w' hS' => x_loadN (cs := [(.int .i64 a0.Boats), v1, v3]) U26 Tryz_T26 rfl rfl (hS'.cellsB 5 rfl (o := 0) (l := [(.int .i64 a0.Boats), v1, v3]) (by intro j u hj; exact (by simpa using hj))))) ?_
 have hS := (hL.sel [0, 1, 2, 3, 4, 5, 6] (by decide) rfl)
 refine DH.take 1 rfl (by kernel_rfl) (by kernel_rfl) (by kernel_rfl) rfl rfl hS (YH.val (v := v5) (fun w' hS' => x_move)) ?_
 have hS := (hL.sel [0, 1, 2, 3, 4, 5, 6] (by decide) rfl)
 refine DH.take 2 rfl (by kernel_rfl) (by kernel_rfl) (by kernel_rfl) rfl rfl hS (YH.val (v := (.int .i64 a2)) (fun w' hS' => x_load1 U2 rfl rfl (hS'.cellB 4 rfl rfl))) ?_
 have hS := (hL.sel [0, 1, 2, 3, 4, 5, 6] (by decide) rfl)
 refine DH.take 4 rfl (by kernel_rfl) (by kernel_rfl) (by kernel_rfl) rfl rfl hS (YH.val (v := (.agg #[(.int .i64 a0.Boats), v1, v3])) (fun w' hS' => x_loadN (cs := [(.int .i64 a0.Boats), v1, v3]) U26 Tryz_T26 rfl rfl (hS'.cellsB 5 rfl (o := 0) (l := [(.int .i64 a0.Boats), v1, v3]) (by intro j u hj; exact (by simpa using hj))))) ?_
 have hS := (hL.sel [0, 1, 2, 3, 4, 5, 6] (by decide) rfl)
 refine DH.take 5 rfl (by kernel_rfl) (by kernel_rfl) (by kernel_rfl) rfl rfl hS (YH.val (v := v5) (fun w' hS' => x_move)) ?_
 have hS := (hL.sel [0, 1, 2, 3, 4, 5, 6] (by decide) rfl)
 refine DH.take 6 rfl (by kernel_rfl) (by kernel_rfl) (by kernel_rfl) rfl rfl hS (YH.val (v := (.int .i64 a3)) (fun w' hS' => x_load1 U2 rfl rfl (hS'.cellB 3 rfl rfl))) ?_
 obtain ⟨x47, hx48, hm⟩ := bndE hm
 refine DH.only 3 rfl (by kernel_rfl) (OP.call rfl (x_call (vs := [(.agg #[(.int .i64 a0.Boats), v1, v3]), v5, (.int .i64 a2)]) Tryz_C70 ⟨rfl, rfl, rfl, trivial⟩) (M.impl_sortedPoints_ok _ a0 (hL.rdS 6 rfl h2) (hL.rdS 6 rfl h4) a1 (hL.rdS 6 rfl h6) a2 hx48) ?_)
 rintro e51 wd52 ⟨v50, S49, rfl, hF53⟩
 refine ⟨_, rfl, ?_⟩
 have hL := hL.pushAll hF53
 simp only [lA, lB, lC, lD] at hL
 refine ⟨(hL.sel [1, 2, 3, 4, 5, 6, 7] (by decide) rfl), ?_⟩
 obtain ⟨x54, hx55, hm⟩ := bndE hm
 refine DH.only 7 rfl (by kernel_rfl) (OP.call rfl (x_call (vs := [(.agg #[(.int .i64 a0.Boats), v1, v3]), v5, (.int .i64 a3)]) Tryz_C70 ⟨rfl, rfl, rfl, trivial⟩) (M.impl_sortedPoints_ok _ a0 (hL.rdS 7 rfl h2) (hL.rdS 7 rfl h4) a1 (hL.rdS 7 rfl h6) a3 hx55) ?_)
 rintro e58 wd59 ⟨v57, S56, rfl, hF60⟩
 refine ⟨_, rfl, ?_⟩
 have hL := hL.pushAll hF60
 simp only [lA, lB, lC, lD] at hL
 refine ⟨(hL.sel [2, 3, 4, 5, 6, 7, 8] (by decide) rfl), ?_⟩
 have hS := (hL.sel [2, 3, 4, 5, 6, 7, 8] (by decide) rfl)
 refine DH.take 8 rfl (by kernel_rfl) (by kernel_rfl) (by kernel_rfl) rfl rfl hS (YH.val (v := v50) (fun w' hS' => x_assign)) ?_
 have hS := (hL.sel [2, 3, 4, 5, 6, 7, 8] (by decide) rfl)
 refine DH.take 9 rfl (by kernel_rfl) (by kernel_rfl) (by kernel_rfl) rfl rfl hS (YH.val (v := v57) (fun w' hS' => x_assign)) ?_
 refine DH.done (by kernel_rfl) ?_
 refine SW.seqC ?_
 refine CSR ?_
 refine OV v50 rfl (x_move) ?_
 refine OV (.int .i64 (x47.length : Int)) rfl (x_lenR U27 rfl (hL.rdO 1 rfl)) ?_
 refine OV v57 rfl (x_move) ?_
 refine OV (.int .i64 (x54.length : Int)) rfl (x_lenR U27 rfl (hL.rdO 0 rfl)) ?_
 refine OV (.int .i64 (min (x47.length : Int) (x54.length : Int))) rfl (x_min2 rfl rfl) ?_
 refine OV (.int .i64 0) rfl (x_move) ?_
 refine OW.nil ?_
 obtain ⟨o137, ho138, hm⟩ := bndE hm
 refine CW.loopB (fun (s_l1 : Int) (F : Fr) (w : World) => F 4 = (.pointer (some ⟨b8, 0, none⟩)) ∧ F 6 = (.pointer (some ⟨b10, 0, none⟩)) ∧ F 7 = (.pointer (some ⟨b12, 0, none⟩)) ∧ F 8 = (.pointer (some ⟨b14, 0, none⟩)) ∧ F 9 = (.pointer (some ⟨b16, 0, none⟩)) ∧ F 10 = (.pointer (some ⟨b18, 0, none⟩)) ∧ F 12 = v50 ∧ F 13 = v57 ∧ F 42 = (.int .i64 (min (x47.length : Int) (x54.length : Int))) ∧ F 43 = (.int .i64 s_l1) ∧ Hp w0 [Ent.own 2 S56 v57 x54, Ent.own 2 S49 v50 x47, Ent.blk b18 2 #[(.int .i64 0)], Ent.blk b16 2 #[(.int .i64 0)], Ent.blk b14 2 #[(.int .i64 0)], Ent.blk b12 2 #[(.int .i64 a3)], Ent.blk b10 2 #[(.int .i64 a2)], Ent.blk b8 26 #[(.int .i64 a0.Boats), v1, v3], Ent.snap w0 w0.heap.size] w) (fun o => outc o (fun x => some x) (fun s => M.impl_compareBoats_a1 a0 a2 a3 s) = some r) ho138 hm ⟨rfl, rfl, rfl, rfl, rfl, rfl, rfl, rfl, rfl, rfl, hL⟩ ?_ ?_
 · intro s_l1 F139 wd140 hJ hm
   have hm := outcE hm
   have hm : M.impl_compareBoats_a1 a0 a2 a3 s_l1 = some r := hm
   unfold M.impl_compareBoats_a1 at hm
   obtain ⟨f141, f142, f143, f144, f145, f146, f147, f148, f149, f150, hL⟩ := hJ
   refine SW.seq ?_
   refine SW.seqC ?_
   refine CW.regionL ?_
   refine OV (.pointer (some ⟨b8, 1, none⟩)) rfl (x_fieldAddr (fsz := 1) 0 1 1 U26 rfl Tryz_T24 rfl f141 rfl) ?_
   refine OV v1 rfl (x_load1 U24 rfl rfl (hL.cellB 7 rfl rfl)) ?_
   refine OW.cons (OP.call rfl (x_call (vs := [v1]) Tryz_C71 ⟨rfl, trivial⟩) (M.back104_ok _ (hL.rdS 8 rfl h2)) ?_)
   rintro e153 wd152 ⟨b151, rfl, hF154⟩
   refine ⟨_, rfl, ?_⟩
   have hL := hL.pushAll hF154
   simp only [lA, lB, lC, lD] at hL
   refine OW.nil ?_
   refine SW.block ?_
   obtain ⟨o155, ho156, hm⟩ := bndE hm
   refine SW.rangeB (bodyM := M.impl_compareBoats_l2 a0 a2 a3) (fun o => outc o (fun x => some x) (fun s => M.impl_compareBoats_a2 s) = some r) (fun F x y => upd (upd (upd (upd F 69 x) 70 y) 15 x) 16 y) Tryz_C104 rfl rfl rfl M.back104_it hL (fun Γ0 W h => ⟨h.drops.get 0 rfl, h.drops.rdS 9 rfl h2⟩) ho156 hm ?_ ?_ ?_ ?_
   · intro t ht
     exact (Option.some.inj (show some (Stp.brk (-1)) = some t from ht)).symm
   · intro l x y W K hK
     refine CF.seq ?_
     refine CF.regionL ?_
     refine OW.cons (OP.val rfl x_assign ?_)
     refine OW.nil ?_
     refine CF.regionL ?_
     refine OW.cons (OP.val rfl x_assign ?_)
     refine OW.nil ?_
     exact hK
   · intro l162 D163 lo164 i165 u166 wd167 t168 hi169 hL hu170 hm hr171
     unfold M.impl_compareBoats_l2 at hm
     have hm := ifB_pos (by simp) hm
     obtain ⟨x172, ha173, hm⟩ := bndE hm
     obtain ⟨hz174, ha175⟩ := idxE ha173
     obtain ⟨b176, q177, v178, hix179, hs180, hc181, hr182⟩ := rdN_at h2 hz174 ha175
     have hc183 := Option.some.inj ((hL.cellS 11 rfl hs180 hc181).symm.trans (hu170 b176 q177 hix179))
     subst hc183
     refine CF.block ?_
     refine CF.seq ?_
     refine CF.draw Tryz_mixed ?_
     have hL := hL.call (Mod.drew _)
     refine DW.pre (fuel := 0) (fin := bma 9 511) (C := fun w' => Mod None_ _ w') [0, 1, 2, 3, 4, 5, 6, 7, 8] (Mod.refl _ _) (by kernel_rfl) (by kernel_rfl) ?_
     refine QW.cons rfl (QP.val (v := v178) rfl (fun w' hm' => x_move) ?_)
     refine QW.cons rfl (QP.val (v := (.int .i64 a2)) rfl (fun w' hm' => x_load1 U2 rfl f142 ((hL.call hm').cellB 9 rfl rfl)) ?_)
     obtain ⟨x184, ha185, hm⟩ := bndE hm
     obtain ⟨hz186, ha190⟩ := idxE ha185
     obtain ⟨b187, q188, hix189⟩ := rdL_ix (hL.rdS 11 rfl hr182) hz186 ha190
     refine QW.cons rfl (QP.val (v := (.pointer (some ⟨b187, q188, none⟩))) rfl (fun w' hm' => x_ix U27 Tryz_T2 rfl rfl hix189) ?_)
     refine QW.cons rfl (QP.val (v := (.int .i64 x184)) rfl (fun w' hm' => x_load1 U2 rfl rfl (rdF_cells ((hL.call hm').rdS 11 rfl hr182) hix189 ha190 0 _ rfl)) ?_)
     refine QW.cons rfl (QP.val (v := v178) rfl (fun w' hm' => x_move) ?_)
     refine QW.cons rfl (QP.val (v := (.int .i64 a3)) rfl (fun w' hm' => x_load1 U2 rfl f143 ((hL.call hm').cellB 8 rfl rfl)) ?_)
     obtain ⟨x191, ha192, hm⟩ := bndE hm
     obtain ⟨hz193, ha197⟩ := idxE ha192
     obtain ⟨b194, q195, hix196⟩ := rdL_ix (hL.rdS 11 rfl hr182) hz193 ha197
     refine QW.cons rfl (QP.val (v := (.pointer (some ⟨b194, q195, none⟩))) rfl (fun w' hm' => x_ix U27 Tryz_T2 rfl rfl hix196) ?_)
     refine QW.cons rfl (QP.val (v := (.int .i64 x191)) rfl (fun w' hm' => x_load1 U2 rfl rfl (rdF_cells ((hL.call hm').rdS 11 rfl hr182) hix196 ha197 0 _ rfl)) ?_)
     refine QW.cons rfl (QP.val (v := (.bool (x184 != x191))) rfl (fun w' hm' => x_neq rfl rfl) ?_)
     refine QW.nil ?_
     intro wd198 hmod
     have hL := hL.call hmod
     refine DW.done (by kernel_rfl) ?_
     refine CF.condM (t := x184 != x191) rfl hm (fun hb199 hm => ?_) (fun hb199 hm => ?_)
     · refine CF.seq ?_
       refine CF.drawH (fun w' => Hp w0 [Ent.raw l162 lo164, Ent.raw D163 (.deferred (some [])), Ent.blk b151 24 #[v1], Ent.own 2 S56 v57 x54, Ent.own 2 S49 v50 x47, Ent.blk b12 2 #[(.int .i64 a3)], Ent.blk b10 2 #[(.int .i64 a2)], Ent.blk b8 26 #[(.int .i64 a0.Boats), v1, v3], Ent.snap w0 w0.heap.size] w') Tryz_mixed ?_
       have hL := hL.call (Mod.drew _)
       have hS := (hL.sel [0, 1, 2, 3, 4, 8, 9, 10, 11] (by decide) rfl)
       refine DH.take 0 rfl (by kernel_rfl) (by kernel_rfl) (by kernel_rfl) rfl rfl hS (YH.val (v := v178) (fun w' hS' => x_move)) ?_
       have hS := (hL.sel [0, 1, 2, 3, 4, 8, 9, 10, 11] (by decide) rfl)
       refine DH.take 1 rfl (by kernel_rfl) (by kernel_rfl) (by kernel_rfl) rfl rfl hS (YH.val (v := (.int .i64 a2)) (fun w' hS' => x_load1 U2 rfl f142 (hS'.cellB 6 rfl rfl))) ?_
       have hS := (hL.sel [0, 1, 2, 3, 4, 8, 9, 10, 11] (by decide) rfl)
       obtain ⟨x222, ha223, hm⟩ := bndE hm
       obtain ⟨hz224, ha228⟩ := idxE ha223
       obtain ⟨b225, q226, hix227⟩ := rdL_ix (hL.rdS 11 rfl hr182) hz224 ha228
       refine DH.take 2 rfl (by kernel_rfl) (by kernel_rfl) (by kernel_rfl) rfl rfl hS (YH.val (v := (.pointer (some ⟨b225, q226, none⟩))) (fun w' hS' => x_ix U27 Tryz_T2 rfl rfl hix227)) ?_
       have hS := (hL.sel [0, 1, 2, 3, 4, 8, 9, 10, 11] (by decide) rfl)
       refine DH.take 3 rfl (by kernel_rfl) (by kernel_rfl) (by kernel_rfl) rfl rfl hS (YH.val (v := (.int .i64 x222)) (fun w' hS' => x_load1 U2 rfl rfl (rdF_cells (hS'.rdS 8 rfl hr182) hix227 ha228 0 _ rfl))) ?_
       have hS := (hL.sel [0, 1, 2, 3, 4, 8, 9, 10, 11] (by decide) rfl)
       refine DH.take 4 rfl (by kernel_rfl) (by kernel_rfl) (by kernel_rfl) rfl rfl hS (YH.val (v := v178) (fun w' hS' => x_move)) ?_
       have hS := (hL.sel [0, 1, 2, 3, 4, 8, 9, 10, 11] (by decide) rfl)
       refine DH.take 5 rfl (by kernel_rfl) (by kernel_rfl) (by kernel_rfl) rfl rfl hS (YH.val (v := (.int .i64 a3)) (fun w' hS' => x_load1 U2 rfl f143 (hS'.cellB 5 rfl rfl))) ?_
       have hS := (hL.sel [0, 1, 2, 3, 4, 8, 9, 10, 11] (by decide) rfl)
       obtain ⟨x229, ha230, hm⟩ := bndE hm
       obtain ⟨hz231, ha235⟩ := idxE ha230
       obtain ⟨b232, q233, hix234⟩ := rdL_ix (hL.rdS 11 rfl hr182) hz231 ha235
       refine DH.take 6 rfl (by kernel_rfl) (by kernel_rfl) (by kernel_rfl) rfl rfl hS (YH.val (v := (.pointer (some ⟨b232, q233, none⟩))) (fun w' hS' => x_ix U27 Tryz_T2 rfl rfl hix234)) ?_
       have hS := (hL.sel [0, 1, 2, 3, 4, 8, 9, 10, 11] (by decide) rfl)
       refine DH.take 7 rfl (by kernel_rfl) (by kernel_rfl) (by kernel_rfl) rfl rfl hS (YH.val (v := (.int .i64 x229)) (fun w' hS' => x_load1 U2 rfl rfl (rdF_cells (hS'.rdS 8 rfl hr182) hix234 ha235 0 _ rfl))) ?_
       have hS := (hL.sel [0, 1, 2, 3, 4, 8, 9, 10, 11] (by decide) rfl)
       refine DH.take 8 rfl (by kernel_rfl) (by kernel_rfl) (by kernel_rfl) rfl rfl hS (YH.val (v := (.int .i64 (w64 (x222 - x229)))) (fun w' hS' => x_sub rfl rfl)) ?_
       have hS := (hL.sel [0, 1, 2, 3, 4, 8, 9, 10, 11] (by decide) rfl)
       refine DH.take 10 rfl (by kernel_rfl) (by kernel_rfl) (by kernel_rfl) rfl rfl hS (YH.val (v := (.int .i64 (i165 : Int))) (fun w' hS' => x_move)) ?_
       obtain ⟨x236, hx237, hm⟩ := bndE hm
       refine DH.only 9 rfl (by kernel_rfl) (OP.call rfl (x_call (vs := [(.int .i64 (w64 (x222 - x229)))]) Tryz_C69 ⟨rfl, trivial⟩) (M.impl_sign_ok _ (w64 (x222 - x229)) hx237) ?_)
       rintro e238 wd239 ⟨rfl, hF240⟩
       refine ⟨_, rfl, ?_⟩
       have hL := hL.pushAll hF240
       simp only [lA, lB, lC, lD] at hL
       refine ⟨(hL.sel [0, 1, 2, 3, 4, 8, 9, 10, 11] (by decide) rfl), ?_⟩
       refine DH.only 11 rfl (by kernel_rfl) (S_store (cs' := #[(.int .i64 x236)]) hL 7 rfl Tryz_T2 f144 rfl rfl rfl rfl ?_)
       intro wd241 hL
       refine ⟨(hL.sel [0, 1, 2, 3, 4, 8, 9, 10, 11] (by decide) rfl), ?_⟩
       refine DH.only 12 rfl (by kernel_rfl) (S_store (cs' := #[(.int .i64 3)]) hL 6 rfl Tryz_T2 f145 rfl rfl rfl rfl ?_)
       intro wd242 hL
       refine ⟨(hL.sel [0, 1, 2, 3, 4, 8, 9, 10, 11] (by decide) rfl), ?_⟩
       refine DH.only 13 rfl (by kernel_rfl) (S_store (cs' := #[(.int .i64 (i165 : Int))]) hL 5 rfl Tryz_T2 f146 rfl rfl rfl rfl ?_)
       intro wd243 hL
       refine ⟨(hL.sel [0, 1, 2, 3, 4, 8, 9, 10, 11] (by decide) rfl), ?_⟩
       refine DH.done (by kernel_rfl) ?_
       refine CF.ret ?_
       obtain rfl := Option.some.inj hm
       have hm := hr171 _ rfl
       obtain rfl := Option.some.inj hm
       refine ⟨_, hL, fun wq hL => ?_⟩
       refine RM.mark hL 0 rfl (fun wq hL => ?_)
       simp only [List.set_cons_zero, List.set_cons_succ, List.eraseIdx_cons_zero] at hL
       exact RRs (v := (.int .i64 x236)) (v2 := (.int .i64 3)) (vs := [(.int .i64 (i165 : Int))]) (rs := [.cell 8 2, .cell 9 2, .cell 10 2]) rfl ⟨resCell f144 (run_load1 U2 rfl (cell_box (hL.get 5 rfl))), resCell f145 (run_load1 U2 rfl (cell_box (hL.get 4 rfl))), resCell f146 (run_load1 U2 rfl (cell_box (hL.get 3 rfl))), trivial⟩ ⟨rfl, hL.fresh 9 rfl [] (by decide) (by decide) rfl⟩
     refine CF.skip ?_
     obtain rfl := Option.some.inj hm
     exact ⟨rfl, hL⟩
   intro D157 wd158 hL hm
   have hm := outcE hm
   have hm : M.impl_compareBoats_a2 (-1) = some r := hm
   unfold M.impl_compareBoats_a2 at hm
   refine SW.ofCF ?_
   refine CF.seq ?_
   refine CF.regionL ?_
   refine OW.cons (S_store (cs' := #[(.int .i64 0)]) hL 6 rfl Tryz_T2 f144 rfl rfl rfl rfl ?_)
   intro wd159 hL
   refine OW.cons (S_store (cs' := #[(.int .i64 0)]) hL 5 rfl Tryz_T2 f145 rfl rfl rfl rfl ?_)
   intro wd160 hL
   refine OW.cons (S_store (cs' := #[(.int .i64 0)]) hL 4 rfl Tryz_T2 f146 rfl rfl rfl rfl ?_)
   intro wd161 hL
   refine OW.nil ?_
   refine CF.ret ?_
   obtain rfl := Option.some.inj hm
   refine RM.mark hL 0 rfl (fun wq hL => ?_)
   simp only [List.set_cons_zero, List.set_cons_succ, List.eraseIdx_cons_zero] at hL
   exact RRs (v := (.int .i64 0)) (v2 := (.int .i64 0)) (vs := [(.int .i64 0)]) (rs := [.cell 8 2, .cell 9 2, .cell 10 2]) rfl ⟨resCell f144 (run_load1 U2 rfl (cell_box (hL.get 5 rfl))), resCell f145 (run_load1 U2 rfl (cell_box (hL.get 4 rfl))), resCell f146 (run_load1 U2 rfl (cell_box (hL.get 3 rfl))), trivial⟩ ⟨rfl, hL.fresh 9 rfl [] (by decide) (by decide) rfl⟩
 intro s_l1 F244 wd245 t135 hJ hm hr136
 unfold M.impl_compareBoats_l1 at hm
 obtain ⟨f246, f247, f248, f249, f250, f251, f252, f253, f254, f255, hL⟩ := hJ
 refine CSR ?_
 refine OV (.bool (decide (s_l1 < (min (x47.length : Int) (x54.length : Int))))) rfl (x_lss f255 f254) ?_
 refine ONS ?_
 refine CW.condM (t := decide (s_l1 < (min (x47.length : Int) (x54.length : Int)))) rfl hm (fun hb256 hm => ?_) (fun hb256 hm => ?_)
 · refine CW.skip ?_
   refine CW.seq ?_
   refine CW.block ?_
   refine CSR ?_
   refine OV (.int .i64 s_l1) rfl (x_mv f255) ?_
   refine OV (.int .i64 s_l1) rfl (x_assign) ?_
   refine ONS ?_
   refine CW.draw Tryz_mixed ?_
   have hL := hL.call (Mod.drew _)
   refine DW.pre (fuel := 0) (fin := bma 9 511) (C := fun w' => Mod None_ _ w') [0, 1, 2, 3, 4, 5, 6, 7, 8] (Mod.refl _ _) (by kernel_rfl) (by kernel_rfl) ?_
   refine QW.cons rfl (QP.val (v := v50) rfl (fun w' hm' => x_mv f252) ?_)
   refine QW.cons rfl (QP.val (v := (.int .i64 s_l1)) rfl (fun w' hm' => x_move) ?_)
   obtain ⟨x257, ha258, hm⟩ := bndE hm
   obtain ⟨hz259, ha263⟩ := idxE ha258
   obtain ⟨b260, q261, hix262⟩ := rdL_ix (hL.rdO 1 rfl) hz259 ha263
   refine QW.cons rfl (QP.val (v := (.pointer (some ⟨b260, q261, none⟩))) rfl (fun w' hm' => x_ix U27 Tryz_T2 rfl rfl hix262) ?_)
   refine QW.cons rfl (QP.val (v := (.int .i64 x257)) rfl (fun w' hm' => x_load1 U2 rfl rfl (rdF_cells ((hL.call hm').rdO 1 rfl) hix262 ha263 0 _ rfl)) ?_)
   refine QW.cons rfl (QP.val (v := v57) rfl (fun w' hm' => x_mv f253) ?_)
   refine QW.cons rfl (QP.val (v := (.int .i64 s_l1)) rfl (fun w' hm' => x_move) ?_)
   obtain ⟨x264, ha265, hm⟩ := bndE hm
   obtain ⟨hz266, ha270⟩ := idxE ha265
   obtain ⟨b267, q268, hix269⟩ := rdL_ix (hL.rdO 0 rfl) hz266 ha270
   refine QW.cons rfl (QP.val (v := (.pointer (some ⟨b267, q268, none⟩))) rfl (fun w' hm' => x_ix U27 Tryz_T2 rfl rfl hix269) ?_)
   refine QW.cons rfl (QP.val (v := (.int .i64 x264)) rfl (fun w' hm' => x_load1 U2 rfl rfl (rdF_cells ((hL.call hm').rdO 0 rfl) hix269 ha270 0 _ rfl)) ?_)
   refine QW.cons rfl (QP.val (v := (.bool (x257 != x264))) rfl (fun w' hm' => x_neq rfl rfl) ?_)
   refine QW.nil ?_
   intro wd271 hmod
   have hL := hL.call hmod
   refine DW.done (by kernel_rfl) ?_
   refine CW.condM (t := x257 != x264) rfl hm (fun hb272 hm => ?_) (fun hb272 hm => ?_)
   · refine CW.seq ?_
     refine CW.draw Tryz_mixed ?_
     have hL := hL.call (Mod.drew _)
     refine DW.pre (fuel := 3) (fin := bma 13 1023) (C := fun w' => Mod None_ _ w') [0, 1, 2, 3, 4, 5, 6, 7, 8, 9] (Mod.refl _ _) (by kernel_rfl) (by kernel_rfl) ?_
     refine QW.cons rfl (QP.val (v := v50) rfl (fun w' hm' => x_mv f252) ?_)
     refine QW.cons rfl (QP.val (v := (.int .i64 s_l1)) rfl (fun w' hm' => x_move) ?_)
     obtain ⟨x273, ha274, hm⟩ := bndE hm
     obtain ⟨hz275, ha279⟩ := idxE ha274
     obtain ⟨b276, q277, hix278⟩ := rdL_ix (hL.rdO 1 rfl) hz275 ha279
     refine QW.cons rfl (QP.val (v := (.pointer (some ⟨b276, q277, none⟩))) rfl (fun w' hm' => x_ix U27 Tryz_T2 rfl rfl hix278) ?_)
     refine QW.cons rfl (QP.val (v := (.int .i64 x273)) rfl (fun w' hm' => x_load1 U2 rfl rfl (rdF_cells ((hL.call hm').rdO 1 rfl) hix278 ha279 0 _ rfl)) ?_)
     refine QW.cons rfl (QP.val (v := v57) rfl (fun w' hm' => x_mv f253) ?_)
     refine QW.cons rfl (QP.val (v := (.int .i64 s_l1)) rfl (fun w' hm' => x_move) ?_)
     obtain ⟨x280, ha281, hm⟩ := bndE hm
     obtain ⟨hz282, ha286⟩ := idxE ha281
     obtain ⟨b283, q284, hix285⟩ := rdL_ix (hL.rdO 0 rfl) hz282 ha286
     refine QW.cons rfl (QP.val (v := (.pointer (some ⟨b283, q284, none⟩))) rfl (fun w' hm' => x_ix U27 Tryz_T2 rfl rfl hix285) ?_)
     refine QW.cons rfl (QP.val (v := (.int .i64 x280)) rfl (fun w' hm' => x_load1 U2 rfl rfl (rdF_cells ((hL.call hm').rdO 0 rfl) hix285 ha286 0 _ rfl)) ?_)
     refine QW.cons rfl (QP.val (v := (.int .i64 (w64 (x273 - x280)))) rfl (fun w' hm' => x_sub rfl rfl) ?_)
     obtain ⟨x287, hx288, hm⟩ := bndE hm
     refine QW.cons rfl (QP.call (v := (.int .i64 x287)) rfl (fun w' hm' => x_call (vs := [(.int .i64 (w64 (x273 - x280)))]) Tryz_C69 ⟨rfl, trivial⟩) (fun w' hm' => (M.impl_sign_ok w' (w64 (x273 - x280)) hx288).mono (fun e w'' h => ⟨h.1, hm'.trans h.2.mod⟩)) ?_)
     refine QW.nil ?_
     intro wd289 hmod
     have hL := hL.call hmod
     refine DW.only 10 rfl (by kernel_rfl) (S_store (cs' := #[(.int .i64 x287)]) hL 4 rfl Tryz_T2 f249 rfl rfl rfl rfl ?_)
     intro wd290 hL
     refine DW.only 11 rfl (by kernel_rfl) (S_store (cs' := #[(.int .i64 2)]) hL 3 rfl Tryz_T2 f250 rfl rfl rfl rfl ?_)
     intro wd291 hL
     refine DW.only 12 rfl (by kernel_rfl) (S_store (cs' := #[(.int .i64 0)]) hL 2 rfl Tryz_T2 f251 rfl rfl rfl rfl ?_)
     intro wd292 hL
     refine DW.done (by kernel_rfl) ?_
     refine CW.ret ?_
     refine RM.nil ?_
     obtain rfl := Option.some.inj hm
     have hm := hr136 _ rfl
     obtain rfl := Option.some.inj hm
     exact RRs (v := (.int .i64 x287)) (v2 := (.int .i64 2)) (vs := [(.int .i64 0)]) (rs := [.cell 8 2, .cell 9 2, .cell 10 2]) rfl ⟨resCell f249 (run_load1 U2 rfl (cell_box (hL.get 4 rfl))), resCell f250 (run_load1 U2 rfl (cell_box (hL.get 3 rfl))), resCell f251 (run_load1 U2 rfl (cell_box (hL.get 2 rfl))), trivial⟩ ⟨rfl, hL.fresh 8 rfl [] (by decide) (by decide) rfl⟩
   refine CW.skip ?_
   refine CW.regionL ?_
   refine OV (.int .i64 (w64 (s_l1 + 1))) rfl (x_add f255 rfl) ?_
   refine OV (.int .i64 (w64 (s_l1 + 1))) rfl (x_move) ?_
   refine OW.nil ?_
   obtain rfl := Option.some.inj hm
   exact ⟨_, rfl, ⟨f246, f247, f248, f249, f250, f251, f252, f253, f254, rfl, hL⟩⟩
 refine CW.exit ?_
 refine XJ.hit ?_
 obtain rfl := Option.some.inj hm
 exact ⟨_, rfl, ⟨f246, f247, f248, f249, f250, f251, f252, f253, f254, f255, hL⟩⟩

theorem M.impl_standingOf_1_ok (w0 : World) (a0 : Int) (a1 : Int) (a2 : Table) {v3 : Value} {v5 : Value} {b1 : Nat} (h4 : rdL (· < w0.heap.size) w0 v3 a2.Points) (h6 : rdL (· < w0.heap.size) w0 v5 a2.Codes) (hb2 : bxA (· < w0.heap.size) w0 b1 26 #[(.int .i64 a2.Boats), v3, v5]) (a3 : List Int) {v9 : Value} {b7 : Nat} (h10 : rdL (· < w0.heap.size) w0 v9 a3) (hb8 : bxA (· < w0.heap.size) w0 b7 27 #[v9]) {r : Int} (hm : M.impl_standingOf_1 a0 a1 a2 a3 = some r) :
    Calls Tryz.prog 63 #[(.int .i64 a0), (.int .i64 a1), (.pointer (some ⟨b1, 0, none⟩)), (.pointer (some ⟨b7, 0, none⟩))] w0 fun e w' => e = .returned (.int .i64 r) ∧ Fresh w0 w' [] := by
 unfold M.impl_standingOf_1 at hm
 refine calls_CW (args := [(.int .i64 a0), (.int .i64 a1), (.pointer (some ⟨b1, 0, none⟩)), (.pointer (some ⟨b7, 0, none⟩))]) Tryz.func63 rfl rfl rfl ?_
 have hL := Hp.start w0
 refine CSR ?_
 refine OV (.int .i64 0) rfl (x_assign) ?_
 refine ONR ?_
 refine OV (.agg #[(.int .i64 a2.Boats), v3, v5]) rfl (x_loadN (cs := [(.int .i64 a2.Boats), v3, v5]) U26 Tryz_T26 rfl rfl ((hL.bxS 0 rfl hb2).cells (o := 0) (l := [(.int .i64 a2.Boats), v3, v5]) (by intro j u hj; exact (by simpa using hj)))) ?_
 refine OV v9 rfl (x_load1 U27 rfl rfl ((hL.bxS 0 rfl hb8).cell rfl)) ?_
 refine OV (.int .i64 a0) rfl (x_move) ?_
 refine OV (.int .i64 a1) rfl (x_move) ?_
 obtain ⟨x11, hx12, hm⟩ := bndE hm
 refine OW.cons (OP.call rfl (x_call (vs := [(.agg #[(.int .i64 a2.Boats), v3, v5]), v9, (.int .i64 a0), (.int .i64 a1)]) Tryz_C36 ⟨rfl, rfl, rfl, rfl, trivial⟩) (M.impl_compareBoats_ok _ a2 (hL.rdS 0 rfl h4) (hL.rdS 0 rfl h6) a3 (hL.rdS 0 rfl h10) a0 a1 hx12) ?_)
 rintro e13 wd14 ⟨rfl, hF15⟩
 refine ⟨_, rfl, ?_⟩
 have hL := hL.pushAll hF15
 simp only [lA, lB, lC, lD] at hL
 refine OV (.tuple #[(.int .i64 x11.1), (.int .i64 x11.2.1), (.int .i64 x11.2.2)]) rfl (x_move) ?_
 refine OV (.int .i64 x11.1) rfl (x_extract rfl rfl) ?_
 refine OV (.int .i64 x11.2.1) rfl (x_extract rfl rfl) ?_
 refine OV (.int .i64 x11.2.2) rfl (x_extract rfl rfl) ?_
 refine OV (.int .i64 x11.1) rfl (x_assign) ?_
 refine OV (.int .i64 x11.2.1) rfl (x_assign) ?_
 refine OV (.int .i64 x11.2.2) rfl (x_assign) ?_
 refine ONR ?_
 refine OV (.int .i64 x11.1) rfl (x_move) ?_
 refine OV (.int .i64 x11.1) rfl (x_assign) ?_
 refine OW.nil ?_
 refine CW.ret ?_
 obtain rfl := Option.some.inj hm
 exact RR1 rfl rfl ⟨rfl, hL.fresh 0 rfl [] (by decide) (by decide) rfl⟩

theorem M.impl_standingOf_ok (w0 : World) (a0 : Table) {v1 : Value} {v3 : Value} (h2 : rdL (· < w0.heap.size) w0 v1 a0.Points) (h4 : rdL (· < w0.heap.size) w0 v3 a0.Codes) (a1 : List Int) {v5 : Value} (h6 : rdL (· < w0.heap.size) w0 v5 a1) {r : (List Int)} (hm : M.impl_standingOf a0 a1 = some r) :
    Calls Tryz.prog 25 #[(.agg #[(.int .i64 a0.Boats), v1, v3]), v5] w0 fun e w' => ∃ (rv0 : Value) (rS0 : Nat → Prop), e = .returned rv0 ∧ Fresh w0 w' [Ent.own 2 rS0 rv0 r] := by
 unfold M.impl_standingOf at hm
 refine calls_CW (args := [(.agg #[(.int .i64 a0.Boats), v1, v3]), v5]) Tryz.func25 rfl rfl rfl ?_
 have hL := Hp.start w0
 refine CSR ?_
 refine OW.cons (S_box (cs := #[(.int .i64 a0.Boats), v1, v3]) hL rfl rfl rfl ?_)
 intro wd7 b8 hL
 refine OW.cons (S_box (cs := #[v5]) hL rfl (rdL_cells (hL.rdS 1 rfl h6)) rfl ?_)
 intro wd9 b10 hL
 refine OV (.slice none 0 0) rfl (x_assign) ?_
 refine ONR ?_
 refine OV (.pointer (some ⟨b8, 0, none⟩)) rfl (x_fieldAddr (fsz := 1) 0 0 0 U26 rfl Tryz_T2 rfl rfl rfl) ?_
 refine OV (.int .i64 a0.Boats) rfl (x_load1 U2 rfl rfl (hL.cellB 1 rfl rfl)) ?_
 refine OV (.func (.func 63) #[] #[(.pointer (some ⟨b8, 0, none⟩)), (.pointer (some ⟨b10, 0, none⟩))]) rfl (x_makeFunc (vs := [(.pointer (some ⟨b8, 0, none⟩)), (.pointer (some ⟨b10, 0, none⟩))]) ⟨rfl, rfl, trivial⟩) ?_
 obtain ⟨x11, hx12, hm⟩ := bndE hm
 refine OW.cons (OP.call rfl (x_call (vs := [(.int .i64 a0.Boats), (.func (.func 63) #[] #[(.pointer (some ⟨b8, 0, none⟩)), (.pointer (some ⟨b10, 0, none⟩))])]) Tryz_C62 ⟨rfl, rfl, trivial⟩) (M.impl_sortedIndices_ok _ a0.Boats (fun y0 y1 => M.impl_standingOf_1 y0 y1 a0 a1) ⟨Tryz_C63, fun yw hag yvs yv hR => by obtain ⟨y0, y1, yr, rfl, hyf, rfl⟩ := hR; exact M.impl_standingOf_1_ok yw y0 y1 a0 (hag.rdL (hL.rdS 2 rfl h2)) (hag.rdL (hL.rdS 2 rfl h4)) (hag.bx (hL.bxB 1 rfl)) a1 (hag.rdL (hL.rdS 2 rfl h6)) (hag.bx (hL.bxB 0 rfl)) hyf⟩ hx12) ?_)
 rintro e15 wd16 ⟨v14, S13, rfl, hF17⟩
 refine ⟨_, rfl, ?_⟩
 have hL := hL.pushAll hF17
 simp only [lA, lB, lC, lD] at hL
 refine OV v14 rfl (x_assign) ?_
 refine OW.nil ?_
 refine CW.ret ?_
 obtain rfl := Option.some.inj hm
 exact RR1 rfl rfl ⟨v14, S13, rfl, hL.fresh 3 rfl [0] (by decide) (by decide) rfl⟩

theorem M.impl_StandingOf_ok (w0 : World) (a0 : Table) {v1 : Value} {v3 : Value} (h2 : rdL (· < w0.heap.size) w0 v1 a0.Points) (h4 : rdL (· < w0.heap.size) w0 v3 a0.Codes) (a1 : List Int) {v5 : Value} (h6 : rdL (· < w0.heap.size) w0 v5 a1) {r : (List Int) × Int} (hm : M.impl_StandingOf a0 a1 = some r) :
    Calls Tryz.prog 7 #[(.agg #[(.int .i64 a0.Boats), v1, v3]), v5] w0 fun e w' => ∃ (rv0 : Value) (rS0 : Nat → Prop), e = .returned (.tuple #[rv0, (.int .i64 r.2)]) ∧ Fresh w0 w' [Ent.own 2 rS0 rv0 r.1] := by
 unfold M.impl_StandingOf at hm
 refine calls_CW (args := [(.agg #[(.int .i64 a0.Boats), v1, v3]), v5]) Tryz.func7 rfl rfl rfl ?_
 have hL := Hp.start w0
 refine CSR ?_
 refine OW.cons (S_box (cs := #[(.int .i64 a0.Boats), v1, v3]) hL rfl rfl rfl ?_)
 intro wd7 b8 hL
 refine OV (.slice none 0 0) rfl (x_assign) ?_
 refine OV (.int .i64 0) rfl (x_assign) ?_
 refine ONS ?_
 refine CSR ?_
 refine OV (.agg #[(.int .i64 a0.Boats), v1, v3]) rfl (x_loadN (cs := [(.int .i64 a0.Boats), v1, v3]) U26 Tryz_T26 rfl rfl (hL.cellsB 0 rfl (o := 0) (l := [(.int .i64 a0.Boats), v1, v3]) (by intro j u hj; exact (by simpa using hj)))) ?_
 refine OV v5 rfl (x_move) ?_
 obtain ⟨x9, hx10, hm⟩ := bndE hm
 refine OW.cons (OP.call rfl (x_call (vs := [(.agg #[(.int .i64 a0.Boats), v1, v3]), v5, (.int .i64 0)]) Tryz_C24 ⟨rfl, rfl, rfl, trivial⟩) (M.impl_tableCode_ok _ a0 (hL.rdS 1 rfl h2) (hL.rdS 1 rfl h4) a1 (hL.rdS 1 rfl h6) 0 hx10) ?_)
 rintro e11 wd12 ⟨rfl, hF13⟩
 refine ⟨_, rfl, ?_⟩
 have hL := hL.pushAll hF13
 simp only [lA, lB, lC, lD] at hL
 refine OV (.int .i64 x9) rfl (x_assign) ?_
 refine ONR ?_
 refine OV (.int .i64 x9) rfl (x_move) ?_
 refine OV (.bool (x9 != 0)) rfl (x_neq rfl rfl) ?_
 refine OW.nil ?_
 refine CW.condM (t := x9 != 0) rfl hm (fun hb14 hm => ?_) (fun hb14 hm => ?_)
 · refine CSR ?_
   refine OV (.int .i64 x9) rfl (x_move) ?_
   refine OV (.slice none 0 0) rfl (x_assign) ?_
   refine OV (.int .i64 x9) rfl (x_assign) ?_
   refine OW.nil ?_
   refine CW.ret ?_
   have hL := hL.pushNil Int 2
   obtain rfl := Option.some.inj hm
   exact RR2 rfl rfl rfl ⟨(.slice none 0 0), None_, rfl, hL.fresh 2 rfl [0] (by decide) (by decide) rfl⟩
 refine CW.skip ?_
 refine CSR ?_
 refine OV (.agg #[(.int .i64 a0.Boats), v1, v3]) rfl (x_loadN (cs := [(.int .i64 a0.Boats), v1, v3]) U26 Tryz_T26 rfl rfl (hL.cellsB 0 rfl (o := 0) (l := [(.int .i64 a0.Boats), v1, v3]) (by intro j u hj; exact (by simpa using hj)))) ?_
 refine OV v5 rfl (x_move) ?_
 obtain ⟨x15, hx16, hm⟩ := bndE hm
 refine OW.cons (OP.call rfl (x_call (vs := [(.agg #[(.int .i64 a0.Boats), v1, v3]), v5]) Tryz_C25 ⟨rfl, rfl, trivial⟩) (M.impl_standingOf_ok _ a0 (hL.rdS 1 rfl h2) (hL.rdS 1 rfl h4) a1 (hL.rdS 1 rfl h6) hx16) ?_)
 rintro e19 wd20 ⟨v18, S17, rfl, hF21⟩
 refine ⟨_, rfl, ?_⟩
 have hL := hL.pushAll hF21
 simp only [lA, lB, lC, lD] at hL
 refine OV v18 rfl (x_assign) ?_
 refine OV (.int .i64 0) rfl (x_assign) ?_
 refine OW.nil ?_
 refine CW.ret ?_
 obtain rfl := Option.some.inj hm
 exact RR2 rfl rfl rfl ⟨v18, S17, rfl, hL.fresh 2 rfl [0] (by decide) (by decide) rfl⟩

theorem M.spec_IsDiscardRule_ok (w0 : World) (a0 : List Int) {v1 : Value} (h2 : rdL (· < w0.heap.size) w0 v1 a0) {r : Bool} (hm : M.spec_IsDiscardRule a0 = some r) :
    Calls Tryz.prog 47 #[v1] w0 fun e w' => e = .returned (.bool r) ∧ Fresh w0 w' [] := by
 unfold M.spec_IsDiscardRule at hm
 refine calls_CW (args := [v1]) Tryz.func47 rfl rfl rfl ?_
 have hL := Hp.start w0
 refine CSR ?_
 refine OV (.bool false) rfl (x_assign) ?_
 refine ONS ?_
 refine CSR ?_
 refine OV v1 rfl (x_move) ?_
 refine OV (.int .i64 (a0.length : Int)) rfl (x_lenR U27 rfl (hL.rdS 0 rfl h2)) ?_
 refine OV (.bool (decide (3 < (a0.length : Int)))) rfl (x_gtr rfl rfl) ?_
 refine OW.nil ?_
 refine CW.condM (t := decide (3 < (a0.length : Int))) rfl hm (fun hb3 hm => ?_) (fun hb3 hm => ?_)
 · refine CSR ?_
   refine OV (.bool false) rfl (x_assign) ?_
   refine OW.nil ?_
   refine CW.ret ?_
   obtain rfl := Option.some.inj hm
   exact RR1 rfl rfl ⟨rfl, hL.fresh 0 rfl [] (by decide) (by decide) rfl⟩
 refine CW.skip ?_
 refine CW.seq ?_
 refine CSR ?_
 refine OV (.int .i64 0) rfl (x_assign) ?_
 refine OW.nil ?_
 obtain ⟨o132, ho133, hm⟩ := bndE hm
 refine CW.loopB (fun (s_l1 : Int) (F : Fr) (w : World) => F 0 = v1 ∧ F 3 = (.int .i64 s_l1) ∧ Hp w0 [Ent.snap w0 w0.heap.size] w) (fun o => outc o (fun x => some x) (fun s => M.spec_IsDiscardRule_a1 s) = some r) ho133 hm ⟨rfl, rfl, hL⟩ ?_ ?_
 · intro s_l1 F134 wd135 hJ hm
   have hm := outcE hm
   have hm : M.spec_IsDiscardRule_a1 s_l1 = some r := hm
   unfold M.spec_IsDiscardRule_a1 at hm
   obtain ⟨f136, f137, hL⟩ := hJ
   refine CSR ?_
   refine OV (.bool true) rfl (x_assign) ?_
   refine OW.nil ?_
   refine CW.ret ?_
   obtain rfl := Option.some.inj hm
   exact RR1 rfl rfl ⟨rfl, hL.fresh 0 rfl [] (by decide) (by decide) rfl⟩
 intro s_l1 F138 wd139 t130 hJ hm hr131
 unfold M.spec_IsDiscardRule_l1 at hm
 obtain ⟨f140, f141, hL⟩ := hJ
 refine CW.seq ?_
 refine CSR ?_
 refine OV (.int .i64 s_l1) rfl (x_mv f141) ?_
 refine OV v1 rfl (x_mv f140) ?_
 refine OV (.int .i64 (a0.length : Int)) rfl (x_lenR U27 rfl (hL.rdS 0 rfl h2)) ?_
 refine OV (.bool (decide (s_l1 < (a0.length : Int)))) rfl (x_lss rfl rfl) ?_
 refine OW.nil ?_
 refine CW.condM (t := decide (s_l1 < (a0.length : Int))) rfl hm (fun hb142 hm => ?_) (fun hb142 hm => ?_)
 · refine CW.skip ?_
   refine CW.seq ?_
   refine CW.block ?_
   refine CW.seqJ (fun (s_j1 : Bool) (F : Fr) (w : World) => F 0 = v1 ∧ F 3 = (.int .i64 s_l1) ∧ F 34 = (.bool s_j1) ∧ Hp w0 [Ent.snap w0 w0.heap.size] w) (fun s_j1 => M.spec_IsDiscardRule_j1 s_l1 s_j1 = some t130) ?_ ?_
   · refine CW.draw Tryz_mixed ?_
     have hL := hL.call (Mod.drew _)
     refine DW.pre (fuel := 0) (fin := bma 22 4194303) (C := fun w' => Mod None_ _ w') [0, 1, 2, 3, 4, 5, 6, 7, 8, 9, 10, 11, 12, 13, 14, 15, 16, 17, 18, 19, 20, 21] (Mod.refl _ _) (by kernel_rfl) (by kernel_rfl) ?_
     refine QW.cons rfl (QP.val (v := v1) rfl (fun w' hm' => x_mv f140) ?_)
     refine QW.cons rfl (QP.val (v := (.int .i64 s_l1)) rfl (fun w' hm' => x_mv f141) ?_)
     obtain ⟨x177, ha178, hm⟩ := bndE hm
     obtain ⟨hz179, ha183⟩ := idxE ha178
     obtain ⟨b180, q181, hix182⟩ := rdL_ix (hL.rdS 0 rfl h2) hz179 ha183
     refine QW.cons rfl (QP.val (v := (.pointer (some ⟨b180, q181, none⟩))) rfl (fun w' hm' => x_ix U27 Tryz_T2 rfl rfl hix182) ?_)
     refine QW.cons rfl (QP.val (v := (.int .i64 x177)) rfl (fun w' hm' => x_load1 U2 rfl rfl (rdF_cells ((hL.call hm').rdS 0 rfl h2) hix182 ha183 0 _ rfl)) ?_)
     obtain ⟨x184, hx185, hm⟩ := bndE hm
     refine QW.cons rfl (QP.call (v := (.bool x184)) rfl (fun w' hm' => x_call (vs := [(.int .i64 x177), (.int .i64 1), (.int .i64 12)]) Tryz_C48 ⟨rfl, rfl, rfl, trivial⟩) (fun w' hm' => (M.spec_l01In_ok w' x177 1 12 hx185).mono (fun e w'' h => ⟨h.1, hm'.trans h.2.mod⟩)) ?_)
     refine QW.cons rfl (QP.val (v := (.bool (!x184))) rfl (fun w' hm' => x_not rfl) ?_)
     refine QW.cons rfl (QP.val (v := (.bool (!x184))) rfl (fun w' hm' => x_move) ?_)
     refine ifB_elim hm (fun hb186 hm => ?_) (fun hb186 hm => ?_)
     · refine QW.cons rfl (QP.no' rfl rfl hb186 rfl ?_)
       refine QW.cons rfl (QP.no' rfl rfl hb186 rfl ?_)
       refine QW.cons rfl (QP.no' rfl rfl hb186 rfl ?_)
       refine QW.cons rfl (QP.noU rfl rfl rfl ?_)
       refine QW.cons rfl (QP.noU rfl rfl rfl ?_)
       refine QW.cons rfl (QP.noU rfl rfl rfl ?_)
       refine QW.cons rfl (QP.noU rfl rfl rfl ?_)
       refine QW.cons rfl (QP.noU rfl rfl rfl ?_)
       refine QW.cons rfl (QP.noU rfl rfl rfl ?_)
       refine QW.cons rfl (QP.noU rfl rfl rfl ?_)
       refine QW.cons rfl (QP.noU rfl rfl rfl ?_)
       refine QW.cons rfl (QP.noU rfl rfl rfl ?_)
       refine QW.cons rfl (QP.noU rfl rfl rfl ?_)
       refine QW.cons rfl (QP.no' rfl rfl hb186 rfl ?_)
       refine QW.cons rfl (QP.val (v := (.bool true)) rfl (fun w' hm' => x_pickT' rfl hb186 rfl) ?_)
       refine QW.nil ?_
       intro wd187 hmod
       have hL := hL.call hmod
       refine DW.done (by kernel_rfl) ?_
       exact ⟨true, hm, ⟨f140, f141, rfl, hL⟩⟩
     refine QW.cons rfl (QP.yes' rfl rfl hb186 (QP.val (v := (.int .i64 s_l1)) rfl (fun w' hm' => x_mv f141) ?_))
     refine QW.cons rfl (QP.yes' rfl rfl hb186 (QP.val (v := (.bool (decide (0 < s_l1)))) rfl (fun w' hm' => x_gtr rfl rfl) ?_))
     refine QW.cons rfl (QP.yes' rfl rfl hb186 (QP.val (v := (.bool (decide (0 < s_l1)))) rfl (fun w' hm' => x_move) ?_))
     refine ifB_elim hm (fun hb188 hm => ?_) (fun hb188 hm => ?_)
     · refine QW.cons rfl (QP.yes' rfl rfl hb188 (QP.val (v := v1) rfl (fun w' hm' => x_mv f140) ?_))
       refine QW.cons rfl (QP.yes' rfl rfl hb188 (QP.val (v := (.int .i64 s_l1)) rfl (fun w' hm' => x_mv f141) ?_))
       refine QW.cons rfl (QP.yes' rfl rfl hb188 (QP.val (v := (.int .i64 (w64 (s_l1 - 1)))) rfl (fun w' hm' => x_sub rfl rfl) ?_))
       obtain ⟨x189, ha190, hm⟩ := bndE hm
       obtain ⟨hz191, ha195⟩ := idxE ha190
       obtain ⟨b192, q193, hix194⟩ := rdL_ix (hL.rdS 0 rfl h2) hz191 ha195
       refine QW.cons rfl (QP.yes' rfl rfl hb188 (QP.val (v := (.pointer (some ⟨b192, q193, none⟩))) rfl (fun w' hm' => x_ix U27 Tryz_T2 rfl rfl hix194) ?_))
       refine QW.cons rfl (QP.yes' rfl rfl hb188 (QP.val (v := (.int .i64 x189)) rfl (fun w' hm' => x_load1 U2 rfl rfl (rdF_cells ((hL.call hm').rdS 0 rfl h2) hix194 ha195 0 _ rfl)) ?_))
       refine QW.cons rfl (QP.yes' rfl rfl hb188 (QP.val (v := v1) rfl (fun w' hm' => x_mv f140) ?_))
       refine QW.cons rfl (QP.yes' rfl rfl hb188 (QP.val (v := (.int .i64 s_l1)) rfl (fun w' hm' => x_mv f141) ?_))
       obtain ⟨x196, ha197, hm⟩ := bndE hm
       obtain ⟨hz198, ha202⟩ := idxE ha197
       obtain ⟨b199, q200, hix201⟩ := rdL_ix (hL.rdS 0 rfl h2) hz198 ha202
       refine QW.cons rfl (QP.yes' rfl rfl hb188 (QP.val (v := (.pointer (some ⟨b199, q200, none⟩))) rfl (fun w' hm' => x_ix U27 Tryz_T2 rfl rfl hix201) ?_))
       refine QW.cons rfl (QP.yes' rfl rfl hb188 (QP.val (v := (.int .i64 x196)) rfl (fun w' hm' => x_load1 U2 rfl rfl (rdF_cells ((hL.call hm').rdS 0 rfl h2) hix201 ha202 0 _ rfl)) ?_))
       refine QW.cons rfl (QP.yes' rfl rfl hb188 (QP.val (v := (.bool (decide (x196 ≤ x189)))) rfl (fun w' hm' => x_geq rfl rfl) ?_))
       refine QW.cons rfl (QP.yes' rfl rfl hb186 (QP.val (v := (.bool (decide (x196 ≤ x189)))) rfl (fun w' hm' => x_pickT' rfl hb188 rfl) ?_))
       refine QW.cons rfl (QP.val (v := (.bool (decide (x196 ≤ x189)))) rfl (fun w' hm' => x_pickF' rfl hb186 rfl) ?_)
       refine QW.nil ?_
       intro wd203 hmod
       have hL := hL.call hmod
       refine DW.done (by kernel_rfl) ?_
       exact ⟨decide (x196 ≤ x189), hm, ⟨f140, f141, rfl, hL⟩⟩
     refine QW.cons rfl (QP.no' rfl rfl hb188 rfl ?_)
     refine QW.cons rfl (QP.no' rfl rfl hb188 rfl ?_)
     refine QW.cons rfl (QP.no' rfl rfl hb188 rfl ?_)
     refine QW.cons rfl (QP.no' rfl rfl hb188 rfl ?_)
     refine QW.cons rfl (QP.no' rfl rfl hb188 rfl ?_)
     refine QW.cons rfl (QP.no' rfl rfl hb188 rfl ?_)
     refine QW.cons rfl (QP.no' rfl rfl hb188 rfl ?_)
     refine QW.cons rfl (QP.no' rfl rfl hb188 rfl ?_)
     refine QW.cons rfl (QP.no' rfl rfl hb188 rfl ?_)
     refine QW.cons rfl (QP.no' rfl rfl hb188 rfl ?_)
     refine QW.cons rfl (QP.yes' rfl rfl hb186 (QP.val (v := (.bool false)) rfl (fun w' hm' => x_pickF' rfl hb188 rfl) ?_))
     refine QW.cons rfl (QP.val (v := (.bool false)) rfl (fun w' hm' => x_pickF' rfl hb186 rfl) ?_)
     refine QW.nil ?_
     intro wd204 hmod
     have hL := hL.call hmod
     refine DW.done (by kernel_rfl) ?_
     exact ⟨false, hm, ⟨f140, f141, rfl, hL⟩⟩
   intro s_j1 F171 wd172 hJ hm
   unfold M.spec_IsDiscardRule_j1 at hm
   obtain ⟨f173, f174, f175, hL⟩ := hJ
   refine CW.condM (t := s_j1) f175 hm (fun hb176 hm => ?_) (fun hb176 hm => ?_)
   · refine CSR ?_
     refine OV (.bool false) rfl (x_assign) ?_
     refine OW.nil ?_
     refine CW.ret ?_
     obtain rfl := Option.some.inj hm
     have hm := hr131 _ rfl
     obtain rfl := Option.some.inj hm
     exact RR1 rfl rfl ⟨rfl, hL.fresh 0 rfl [] (by decide) (by decide) rfl⟩
   refine CW.skip ?_
   refine CW.regionL ?_
   refine OV (.int .i64 s_l1) rfl (x_mv f174) ?_
   refine OV (.int .i64 (w64 (s_l1 + 1))) rfl (x_add rfl rfl) ?_
   refine OV (.int .i64 (w64 (s_l1 + 1))) rfl (x_assign) ?_
   refine OW.nil ?_
   obtain rfl := Option.some.inj hm
   exact ⟨_, rfl, ⟨f173, rfl, hL⟩⟩
 refine CW.exit ?_
 refine XJ.hit ?_
 obtain rfl := Option.some.inj hm
 exact ⟨_, rfl, ⟨f140, f141, hL⟩⟩

theorem M.spec_l27Code_ok (w0 : World) (a0 : Table) {v1 : Value} {v3 : Value} (h2 : rdL (· < w0.heap.size) w0 v1 a0.Points) (h4 : rdL (· < w0.heap.size) w0 v3 a0.Codes) (a1 : List Int) {v5 : Value} (h6 : rdL (· < w0.heap.size) w0 v5 a1) (a2 : Int) {r : Int} (hm : M.spec_l27Code a0 a1 a2 = some r) :
    Calls Tryz.prog 26 #[(.agg #[(.int .i64 a0.Boats), v1, v3]), v5, (.int .i64 a2)] w0 fun e w' => e = .returned (.int .i64 r) ∧ Fresh w0 w' [] := by
 unfold M.spec_l27Code at hm
 refine calls_CW (args := [(.agg #[(.int .i64 a0.Boats), v1, v3]), v5, (.int .i64 a2)]) Tryz.func26 rfl rfl rfl ?_
 have hL := Hp.start w0
 refine CSR ?_
 refine OW.cons (S_box (cs := #[(.int .i64 a0.Boats), v1, v3]) hL rfl rfl rfl ?_)
 intro wd7 b8 hL
 refine OV (.int .i64 0) rfl (x_assign) ?_
 refine ONS ?_
 refine CSR ?_
 refine OV (.agg #[(.int .i64 a0.Boats), v1, v3]) rfl (x_loadN (cs := [(.int .i64 a0.Boats), v1, v3]) U26 Tryz_T26 rfl rfl (hL.cellsB 0 rfl (o := 0) (l := [(.int .i64 a0.Boats), v1, v3]) (by intro j u hj; exact (by simpa using hj)))) ?_
 obtain ⟨x9, hx10, hm⟩ := bndE hm
 refine OW.cons (OP.call rfl (x_call (vs := [(.agg #[(.int .i64 a0.Boats), v1, v3])]) Tryz_C64 ⟨rfl, trivial⟩) (M.spec_IsTable_ok _ a0 (hL.rdS 1 rfl h2) (hL.rdS 1 rfl h4) hx10) ?_)
 rintro e11 wd12 ⟨rfl, hF13⟩
 refine ⟨_, rfl, ?_⟩
 have hL := hL.pushAll hF13
 simp only [lA, lB, lC, lD] at hL
 refine OV (.bool (!x9)) rfl (x_not rfl) ?_
 refine OW.nil ?_
 refine CW.condM (t := !x9) rfl hm (fun hb14 hm => ?_) (fun hb14 hm => ?_)
 · refine CSR ?_
   refine OV (.int .i64 1) rfl (x_assign) ?_
   refine OW.nil ?_
   refine CW.ret ?_
   obtain rfl := Option.some.inj hm
   exact RR1 rfl rfl ⟨rfl, hL.fresh 1 rfl [] (by decide) (by decide) rfl⟩
 refine CW.skip ?_
 refine CW.seq ?_
 refine CW.seqJ (fun (s_j1 : Bool) (F : Fr) (w : World) => F 20 = (.bool s_j1) ∧ Hp w0 [Ent.blk b8 26 #[(.int .i64 a0.Boats), v1, v3], Ent.snap w0 w0.heap.size] w) (fun s_j1 => M.spec_l27Code_j1 s_j1 = some r) ?_ ?_
 · refine CW.regionL ?_
   refine OV v5 rfl (x_move) ?_
   obtain ⟨x30, hx31, hm⟩ := bndE hm
   refine OW.cons (OP.call rfl (x_call (vs := [v5]) Tryz_C47 ⟨rfl, trivial⟩) (M.spec_IsDiscardRule_ok _ a1 (hL.rdS 1 rfl h6) hx31) ?_)
   rintro e32 wd33 ⟨rfl, hF34⟩
   refine ⟨_, rfl, ?_⟩
   have hL := hL.pushAll hF34
   simp only [lA, lB, lC, lD] at hL
   refine OV (.bool (!x30)) rfl (x_not rfl) ?_
   refine OV (.bool (!x30)) rfl (x_move) ?_
   refine ifB_elim hm (fun hb35 hm => ?_) (fun hb35 hm => ?_)
   · refine OW.cons (OP.no' rfl rfl hb35 rfl ?_)
     refine OW.cons (OP.no' rfl rfl hb35 rfl ?_)
     refine OW.cons (OP.no' rfl rfl hb35 rfl ?_)
     refine OW.cons (OP.no' rfl rfl hb35 rfl ?_)
     refine OW.cons (OP.no' rfl rfl hb35 rfl ?_)
     refine OW.cons (OP.no' rfl rfl hb35 rfl ?_)
     refine OV (.bool true) rfl (x_pickT' rfl hb35 rfl) ?_
     refine OW.nil ?_
     exact ⟨true, hm, ⟨rfl, hL⟩⟩
   refine OW.cons (OP.yes' rfl rfl hb35 (OP.val (v := (.int .i64 a2)) rfl (x_move) ?_))
   refine OW.cons (OP.yes' rfl rfl hb35 (OP.val (v := (.pointer (some ⟨b8, 0, none⟩))) rfl (x_fieldAddr (fsz := 1) 0 0 0 U26 rfl Tryz_T2 rfl rfl rfl) ?_))
   refine OW.cons (OP.yes' rfl rfl hb35 (OP.val (v := (.int .i64 a0.Boats)) rfl (x_load1 U2 rfl rfl (hL.cellB 0 rfl rfl)) ?_))
   refine OW.cons (OP.yes' rfl rfl hb35 (OP.val (v := (.int .i64 (w64 (a0.Boats - 1)))) rfl (x_sub rfl rfl) ?_))
   obtain ⟨x36, hx37, hm⟩ := bndE hm
   refine OW.cons (OP.yes' rfl rfl hb35 (OP.call rfl (x_call (vs := [(.int .i64 a2), (.int .i64 0), (.int .i64 (w64 (a0.Boats - 1)))]) Tryz_C48 ⟨rfl, rfl, rfl, trivial⟩) (M.spec_l01In_ok _ a2 0 (w64 (a0.Boats - 1)) hx37) ?_))
   rintro e38 wd39 ⟨rfl, hF40⟩
   refine ⟨_, rfl, ?_⟩
   have hL := hL.pushAll hF40
   simp only [lA, lB, lC, lD] at hL
   refine OW.cons (OP.yes' rfl rfl hb35 (OP.val (v := (.bool (!x36))) rfl (x_not rfl) ?_))
   refine OV (.bool (!x36)) rfl (x_pickF' rfl hb35 rfl) ?_
   refine OW.nil ?_
   exact ⟨!x36, hm, ⟨rfl, hL⟩⟩
 intro s_j1 F26 wd27 hJ hm
 unfold M.spec_l27Code_j1 at hm
 obtain ⟨f28, hL⟩ := hJ
 refine CW.condM (t := s_j1) f28 hm (fun hb29 hm => ?_) (fun hb29 hm => ?_)
 · refine CSR ?_
   refine OV (.int .i64 2) rfl (x_assign) ?_
   refine OW.nil ?_
   refine CW.ret ?_
   obtain rfl := Option.some.inj hm
   exact RR1 rfl rfl ⟨rfl, hL.fresh 1 rfl [] (by decide) (by decide) rfl⟩
 refine CW.skip ?_
 refine CSR ?_
 refine OV (.int .i64 0) rfl (x_assign) ?_
 refine OW.nil ?_
 refine CW.ret ?_
 obtain rfl := Option.some.inj hm
 exact RR1 rfl rfl ⟨rfl, hL.fresh 1 rfl [] (by decide) (by decide) rfl⟩

theorem M.spec_l27Count_ok (w0 : World) (a0 : List Int) {v1 : Value} (h2 : rdL (· < w0.heap.size) w0 v1 a0) (a1 : Int) {r : Int} (hm : M.spec_l27Count a0 a1 = some r) :
    Calls Tryz.prog 102 #[v1, (.int .i64 a1)] w0 fun e w' => e = .returned (.int .i64 r) ∧ Fresh w0 w' [] := by
 unfold M.spec_l27Count at hm
 refine calls_CW (args := [v1, (.int .i64 a1)]) Tryz.func102 rfl rfl rfl ?_
 have hL := Hp.start w0
 refine CSR ?_
 refine OV (.int .i64 0) rfl (x_assign) ?_
 refine ONR ?_
 refine OV (.int .i64 0) rfl (x_assign) ?_
 refine ONS ?_
 refine CSR ?_
 refine OV (.int .i64 0) rfl (x_assign) ?_
 refine OW.nil ?_
 obtain ⟨o107, ho108, hm⟩ := bndE hm
 refine CW.loopB (fun (s_l1 : Int × Int) (F : Fr) (w : World) => F 0 = v1 ∧ F 1 = (.int .i64 a1) ∧ F 5 = (.int .i64 s_l1.1) ∧ F 6 = (.int .i64 s_l1.2) ∧ Hp w0 [Ent.snap w0 w0.heap.size] w) (fun o => outc o (fun x => some x) (fun s => M.spec_l27Count_a1 s) = some r) ho108 hm ⟨rfl, rfl, rfl, rfl, hL⟩ ?_ ?_
 · intro s_l1 F109 wd110 hJ hm
   have hm := outcE hm
   have hm : M.spec_l27Count_a1 s_l1 = some r := hm
   unfold M.spec_l27Count_a1 at hm
   obtain ⟨f111, f112, f113, f114, hL⟩ := hJ
   refine CSR ?_
   refine OV (.int .i64 s_l1.1) rfl (x_mv f113) ?_
   refine OV (.int .i64 s_l1.1) rfl (x_assign) ?_
   refine OW.nil ?_
   refine CW.ret ?_
   obtain rfl := Option.some.inj hm
   exact RR1 rfl rfl ⟨rfl, hL.fresh 0 rfl [] (by decide) (by decide) rfl⟩
 intro s_l1 F115 wd116 t105 hJ hm hr106
 unfold M.spec_l27Count_l1 at hm
 obtain ⟨f117, f118, f119, f120, hL⟩ := hJ
 refine CW.seq ?_
 refine CSR ?_
 refine OV (.int .i64 s_l1.2) rfl (x_mv f120) ?_
 refine OV v1 rfl (x_mv f117) ?_
 refine OV (.int .i64 (a0.length : Int)) rfl (x_lenR U27 rfl (hL.rdS 0 rfl h2)) ?_
 refine OV (.bool (decide (s_l1.2 < (a0.length : Int)))) rfl (x_lss rfl rfl) ?_
 refine OW.nil ?_
 refine CW.condM (t := decide (s_l1.2 < (a0.length : Int))) rfl hm (fun hb121 hm => ?_) (fun hb121 hm => ?_)
 · refine CW.skip ?_
   refine CW.seqJ (fun (s_j1 : Int) (F : Fr) (w : World) => F 0 = v1 ∧ F 1 = (.int .i64 a1) ∧ F 5 = (.int .i64 s_j1) ∧ F 6 = (.int .i64 s_l1.2) ∧ Hp w0 [Ent.snap w0 w0.heap.size] w) (fun s_j1 => M.spec_l27Count_j1 s_l1 s_j1 = some t105) ?_ ?_
   · refine CW.blockJ (fun (s_j2 : Int) (F : Fr) (w : World) => F 0 = v1 ∧ F 1 = (.int .i64 a1) ∧ F 5 = (.int .i64 s_j2) ∧ F 6 = (.int .i64 s_l1.2) ∧ Hp w0 [Ent.snap w0 w0.heap.size] w) (fun s_j2 => M.spec_l27Count_j2 s_l1 s_j2 = some t105) ?_ ?_
     · refine CSR ?_
       refine OV v1 rfl (x_mv f117) ?_
       refine OV (.int .i64 s_l1.2) rfl (x_mv f120) ?_
       obtain ⟨x164, ha165, hm⟩ := bndE hm
       obtain ⟨hz166, ha170⟩ := idxE ha165
       obtain ⟨b167, q168, hix169⟩ := rdL_ix (hL.rdS 0 rfl h2) hz166 ha170
       refine OV (.pointer (some ⟨b167, q168, none⟩)) rfl (x_ix U27 Tryz_T2 rfl rfl hix169) ?_
       refine OV (.int .i64 x164) rfl (x_load1 U2 rfl rfl (rdF_cells (hL.rdS 0 rfl h2) hix169 ha170 0 _ rfl)) ?_
       refine OV (.int .i64 a1) rfl (x_mv f118) ?_
       refine OV (.bool (decide (x164 ≤ a1))) rfl (x_leq rfl rfl) ?_
       refine OW.nil ?_
       refine CW.condM (t := decide (x164 ≤ a1)) rfl hm (fun hb171 hm => ?_) (fun hb171 hm => ?_)
       · refine CW.regionL ?_
         refine OV (.int .i64 s_l1.1) rfl (x_mv f119) ?_
         refine OV (.int .i64 (w64 (s_l1.1 + 1))) rfl (x_add rfl rfl) ?_
         refine OV (.int .i64 (w64 (s_l1.1 + 1))) rfl (x_assign) ?_
         refine OW.nil ?_
         exact ⟨w64 (s_l1.1 + 1), hm, ⟨f117, f118, rfl, f120, hL⟩⟩
       refine CW.skip ?_
       exact ⟨s_l1.1, hm, ⟨f117, f118, f119, f120, hL⟩⟩
     intro s_j2 F158 wd159 hJ hm
     unfold M.spec_l27Count_j2 at hm
     obtain ⟨f160, f161, f162, f163, hL⟩ := hJ
     exact ⟨s_j2, hm, ⟨f160, f161, f162, f163, hL⟩⟩
   intro s_j1 F144 wd145 hJ hm
   unfold M.spec_l27Count_j1 at hm
   obtain ⟨f146, f147, f148, f149, hL⟩ := hJ
   refine CW.regionL ?_
   refine OV (.int .i64 s_l1.2) rfl (x_mv f149) ?_
   refine OV (.int .i64 (w64 (s_l1.2 + 1))) rfl (x_add rfl rfl) ?_
   refine OV (.int .i64 (w64 (s_l1.2 + 1))) rfl (x_assign) ?_
   refine OW.nil ?_
   obtain rfl := Option.some.inj hm
   exact ⟨_, rfl, ⟨f146, f147, f148, rfl, hL⟩⟩
 refine CW.exit ?_
 refine XJ.hit ?_
 obtain rfl := Option.some.inj hm
 exact ⟨_, rfl, ⟨f117, f118, f119, f120, hL⟩⟩

theorem M.spec_l27Out_ok (w0 : World) (a0 : Table) {v1 : Value} {v3 : Value} (h2 : rdL (· < w0.heap.size) w0 v1 a0.Points) (h4 : rdL (· < w0.heap.size) w0 v3 a0.Codes) (a1 : List Int) {v5 : Value} (h6 : rdL (· < w0.heap.size) w0 v5 a1) (a2 : Int) {r : (List Bool)} (hm : M.spec_l27Out a0 a1 a2 = some r) :
    Calls Tryz.prog 68 #[(.agg #[(.int .i64 a0.Boats), v1, v3]), v5, (.int .i64 a2)] w0 fun e w' => ∃ (rv0 : Value) (rS0 : Nat → Prop), e = .returned rv0 ∧ Fresh w0 w' [Ent.own 4 rS0 rv0 r] := by
 unfold M.spec_l27Out at hm
 refine calls_CW (args := [(.agg #[(.int .i64 a0.Boats), v1, v3]), v5, (.int .i64 a2)]) Tryz.func68 rfl rfl rfl ?_
 have hL := Hp.start w0
 refine CSR ?_
 refine OW.cons (S_box (cs := #[(.int .i64 a0.Boats), v1, v3]) hL rfl rfl rfl ?_)
 intro wd7 b8 hL
 refine OV (.slice none 0 0) rfl (x_assign) ?_
 refine ONR ?_
 refine OV (.pointer (some ⟨b8, 1, none⟩)) rfl (x_fieldAddr (fsz := 1) 0 1 1 U26 rfl Tryz_T24 rfl rfl rfl) ?_
 refine OV v1 rfl (x_load1 U24 rfl rfl (hL.cellB 0 rfl rfl)) ?_
 refine OV (.int .i64 (a0.Points.length : Int)) rfl (x_lenR U24 rfl (hL.rdS 1 rfl h2)) ?_
 obtain ⟨hc12, hm⟩ := chkE hm
 refine OW.cons (S_make (α := Bool) false hL U85 Tryz_T4 rfl rfl rfl hc12 (by decide) rfl ?_)
 intro wd9 v10 S11 hL
 refine OV v10 rfl (x_assign) ?_
 refine ONS ?_
 refine CSR ?_
 refine OV v5 rfl (x_move) ?_
 refine OV (.pointer (some ⟨b8, 1, none⟩)) rfl (x_fieldAddr (fsz := 1) 0 1 1 U26 rfl Tryz_T24 rfl rfl rfl) ?_
 refine OV v1 rfl (x_load1 U24 rfl rfl (hL.cellB 1 rfl rfl)) ?_
 refine OV (.int .i64 (a0.Points.length : Int)) rfl (x_lenR U24 rfl (hL.rdS 2 rfl h2)) ?_
 obtain ⟨x13, hx14, hm⟩ := bndE hm
 refine OW.cons (OP.call rfl (x_call (vs := [v5, (.int .i64 (a0.Points.length : Int))]) Tryz_C102 ⟨rfl, rfl, trivial⟩) (M.spec_l27Count_ok _ a1 (hL.rdS 2 rfl h6) (a0.Points.length : Int) hx14) ?_)
 rintro e15 wd16 ⟨rfl, hF17⟩
 refine ⟨_, rfl, ?_⟩
 have hL := hL.pushAll hF17
 simp only [lA, lB, lC, lD] at hL
 refine OV (.int .i64 x13) rfl (x_assign) ?_
 refine OW.nil ?_
 obtain ⟨o14914, ho14915, hm⟩ := bndE hm
 refine CW.loopB (fun (s_l1 : (List Bool) × Int) (F : Fr) (w : World) => ∃ (S14911 : Nat → Prop), F 2 = (.int .i64 a2) ∧ F 3 = (.pointer (some ⟨b8, 0, none⟩)) ∧ F 7 = v10 ∧ F 8 = (.int .i64 s_l1.2) ∧ Hp w0 [Ent.own 4 S14911 v10 s_l1.1, Ent.blk b8 26 #[(.int .i64 a0.Boats), v1, v3], Ent.snap w0 w0.heap.size] w) (fun o => outc o (fun x => some x) (fun s => M.spec_l27Out_a1 s) = some r) ho14915 hm ⟨S11, rfl, rfl, rfl, rfl, hL⟩ ?_ ?_
 · intro s_l1 F14916 wd14917 hJ hm
   have hm := outcE hm
   have hm : M.spec_l27Out_a1 s_l1 = some r := hm
   unfold M.spec_l27Out_a1 at hm
   obtain ⟨S14911, f14918, f14919, f14920, f14921, hL⟩ := hJ
   refine CSR ?_
   refine OV v10 rfl (x_mv f14920) ?_
   refine OV v10 rfl (x_assign) ?_
   refine OW.nil ?_
   refine CW.ret ?_
   obtain rfl := Option.some.inj hm
   exact RR1 rfl rfl ⟨v10, S14911, rfl, hL.fresh 2 rfl [0] (by decide) (by decide) rfl⟩
 intro s_l1 F14922 wd14923 t14912 hJ hm hr14913
 unfold M.spec_l27Out_l1 at hm
 obtain ⟨S14911, f14924, f14925, f14926, f14927, hL⟩ := hJ
 refine CW.seq ?_
 refine CSR ?_
 refine OV (.int .i64 s_l1.2) rfl (x_mv f14927) ?_
 refine OV (.bool (decide (0 < s_l1.2))) rfl (x_gtr rfl rfl) ?_
 refine OW.nil ?_
 refine CW.condM (t := decide (0 < s_l1.2)) rfl hm (fun hb14928 hm => ?_) (fun hb14928 hm => ?_)
 · refine CW.skip ?_
   refine CW.seqJ (fun (s_j1 : (List Bool)) (F : Fr) (w : World) => ∃ (S18648 : Nat → Prop), F 2 = (.int .i64 a2) ∧ F 3 = (.pointer (some ⟨b8, 0, none⟩)) ∧ F 7 = v10 ∧ F 8 = (.int .i64 s_l1.2) ∧ Hp w0 [Ent.own 4 S18648 v10 s_j1, Ent.blk b8 26 #[(.int .i64 a0.Boats), v1, v3], Ent.snap w0 w0.heap.size] w) (fun s_j1 => M.spec_l27Out_j1 s_l1 s_j1 = some t14912) ?_ ?_
   · refine CW.blockJ (fun (s_j2 : (List Bool)) (F : Fr) (w : World) => ∃ (S20511 : Nat → Prop), F 2 = (.int .i64 a2) ∧ F 3 = (.pointer (some ⟨b8, 0, none⟩)) ∧ F 7 = v10 ∧ F 8 = (.int .i64 s_l1.2) ∧ Hp w0 [Ent.own 4 S20511 v10 s_j2, Ent.blk b8 26 #[(.int .i64 a0.Boats), v1, v3], Ent.snap w0 w0.heap.size] w) (fun s_j2 => M.spec_l27Out_j2 s_l1 s_j2 = some t14912) ?_ ?_
     · refine CSR ?_
       refine OV (.int .i64 (-1)) rfl (x_assign) ?_
       refine ONS ?_
       refine CSR ?_
       refine OV (.int .i64 0) rfl (x_assign) ?_
       refine OW.nil ?_
       obtain ⟨o21738, ho21739, hm⟩ := bndE hm
       refine CW.loopB (fun (s_l2 : Int × Int) (F : Fr) (w : World) => F 2 = (.int .i64 a2) ∧ F 3 = (.pointer (some ⟨b8, 0, none⟩)) ∧ F 7 = v10 ∧ F 8 = (.int .i64 s_l1.2) ∧ F 9 = (.int .i64 s_l2.1) ∧ F 10 = (.int .i64 s_l2.2) ∧ Hp w0 [Ent.own 4 S14911 v10 s_l1.1, Ent.blk b8 26 #[(.int .i64 a0.Boats), v1, v3], Ent.snap w0 w0.heap.size] w) (fun o => outc o (fun x => some (.ret x)) (fun s => M.spec_l27Out_a2 s_l1 s) = some t14912) ho21739 hm ⟨f14924, f14925, f14926, f14927, rfl, rfl, hL⟩ ?_ ?_
       · intro s_l2 F21740 wd21741 hJ hm
         have hm := outcE hm
         have hm : M.spec_l27Out_a2 s_l1 s_l2 = some t14912 := hm
         unfold M.spec_l27Out_a2 at hm
         obtain ⟨f21742, f21743, f21744, f21745, f21746, f21747, hL⟩ := hJ
         refine CSR ?_
         refine OV (.int .i64 s_l2.1) rfl (x_mv f21746) ?_
         refine OV (.bool (decide (0 ≤ s_l2.1))) rfl (x_geq rfl rfl) ?_
         refine OW.nil ?_
         refine CW.condM (t := decide (0 ≤ s_l2.1)) rfl hm (fun hb21748 hm => ?_) (fun hb21748 hm => ?_)
         · refine CW.regionL ?_
           refine OV v10 rfl (x_mv f21744) ?_
           refine OV (.int .i64 s_l2.1) rfl (x_mv f21746) ?_
           obtain ⟨x21749, ha21750, hm⟩ := bndE hm
           obtain ⟨hz21751, ha21755⟩ := idxE ha21750
           obtain ⟨b21752, q21753, hix21754⟩ := rdL_ix (hL.rdO 0 rfl) hz21751 ha21755
           refine OV (.pointer (some ⟨b21752, q21753, none⟩)) rfl (x_ix U85 Tryz_T4 rfl rfl hix21754) ?_
           refine OW.cons (S_storeX (j := 0) true hL 0 rfl Tryz_T4 hix21754 ha21755 rfl rfl rfl rfl rfl rfl ?_)
           intro wd21756 hL
           refine OW.nil ?_
           exact ⟨s_l1.1.set (s_l2.1 : Int).toNat true, hm, ⟨S14911, f21742, f21743, f21744, f21745, hL⟩⟩
         refine CW.skip ?_
         exact ⟨s_l1.1, hm, ⟨S14911, f21742, f21743, f21744, f21745, hL⟩⟩
       intro s_l2 F21757 wd21758 t21736 hJ hm hr21737
       unfold M.spec_l27Out_l2 at hm
       obtain ⟨f21759, f21760, f21761, f21762, f21763, f21764, hL⟩ := hJ
       refine CW.seq ?_
       refine CSR ?_
       refine OV (.int .i64 s_l2.2) rfl (x_mv f21764) ?_
       refine OV v10 rfl (x_mv f21761) ?_
       refine OV (.int .i64 (s_l1.1.length : Int)) rfl (x_lenR U85 rfl (hL.rdO 0 rfl)) ?_
       refine OV (.bool (decide (s_l2.2 < (s_l1.1.length : Int)))) rfl (x_lss rfl rfl) ?_
       refine OW.nil ?_
       refine CW.condM (t := decide (s_l2.2 < (s_l1.1.length : Int))) rfl hm (fun hb21765 hm => ?_) (fun hb21765 hm => ?_)
       · refine CW.skip ?_
         refine CW.seqJ (fun (s_j3 : Int) (F : Fr) (w : World) => F 2 = (.int .i64 a2) ∧ F 3 = (.pointer (some ⟨b8, 0, none⟩)) ∧ F 7 = v10 ∧ F 8 = (.int .i64 s_l1.2) ∧ F 9 = (.int .i64 s_j3) ∧ F 10 = (.int .i64 s_l2.2) ∧ Hp w0 [Ent.own 4 S14911 v10 s_l1.1, Ent.blk b8 26 #[(.int .i64 a0.Boats), v1, v3], Ent.snap w0 w0.heap.size] w) (fun s_j3 => M.spec_l27Out_j3 s_l2 s_j3 = some t21736) ?_ ?_
         · refine CW.blockJ (fun (s_j4 : Int) (F : Fr) (w : World) => F 2 = (.int .i64 a2) ∧ F 3 = (.pointer (some ⟨b8, 0, none⟩)) ∧ F 7 = v10 ∧ F 8 = (.int .i64 s_l1.2) ∧ F 9 = (.int .i64 s_j4) ∧ F 10 = (.int .i64 s_l2.2) ∧ Hp w0 [Ent.own 4 S14911 v10 s_l1.1, Ent.blk b8 26 #[(.int .i64 a0.Boats), v1, v3], Ent.snap w0 w0.heap.size] w) (fun s_j4 => M.spec_l27Out_j4 s_l2 s_j4 = some t21736) ?_ ?_
           · refine CW.seqJ (fun (s_j5 : Bool) (F : Fr) (w : World) => F 2 = (.int .i64 a2) ∧ F 3 = (.pointer (some ⟨b8, 0, none⟩)) ∧ F 7 = v10 ∧ F 8 = (.int .i64 s_l1.2) ∧ F 9 = (.int .i64 s_l2.1) ∧ F 10 = (.int .i64 s_l2.2) ∧ F 68 = (.bool s_j5) ∧ Hp w0 [Ent.own 4 S14911 v10 s_l1.1, Ent.blk b8 26 #[(.int .i64 a0.Boats), v1, v3], Ent.snap w0 w0.heap.size] w) (fun s_j5 => M.spec_l27Out_j5 s_l2 s_j5 = some t21736) ?_ ?_
             · refine CW.draw Tryz_mixed ?_
               have hL := hL.call (Mod.drew _)
               refine DW.pre (fuel := 0) (fin := bma 39 549755813887) (C := fun w' => Mod None_ _ w') [0, 1, 2, 3, 4, 5, 6, 7, 8, 9, 10, 11, 12, 13, 14, 15, 16, 17, 18, 19, 20, 21, 22, 23, 24, 25, 26, 27, 28, 29, 30, 31, 32, 33, 34, 35, 36, 37, 38] (Mod.refl _ _) (by kernel_rfl) (by kernel_rfl) ?_
               refine QW.cons rfl (QP.val (v := v10) rfl (fun w' hm' => x_mv f21761) ?_)
               refine QW.cons rfl (QP.val (v := (.int .i64 s_l2.2)) rfl (fun w' hm' => x_mv f21764) ?_)
               obtain ⟨x22306, ha22307, hm⟩ := bndE hm
               obtain ⟨hz22308, ha22312⟩ := idxE ha22307
               obtain ⟨b22309, q22310, hix22311⟩ := rdL_ix (hL.rdO 0 rfl) hz22308 ha22312
               refine QW.cons rfl (QP.val (v := (.pointer (some ⟨b22309, q22310, none⟩))) rfl (fun w' hm' => x_ix U85 Tryz_T4 rfl rfl hix22311) ?_)
               refine QW.cons rfl (QP.val (v := (.bool x22306)) rfl (fun w' hm' => x_load1 U4 rfl rfl (rdF_cells ((hL.call hm').rdO 0 rfl) hix22311 ha22312 0 _ rfl)) ?_)
               refine QW.cons rfl (QP.val (v := (.bool (!x22306))) rfl (fun w' hm' => x_not rfl) ?_)
               refine QW.cons rfl (QP.val (v := (.bool (!x22306))) rfl (fun w' hm' => x_move) ?_)
               refine ifB_elim hm (fun hb22313 hm => ?_) (fun hb22313 hm => ?_)
               · refine QW.cons rfl (QP.yes' rfl rfl hb22313 (QP.val (v := (.pointer (some ⟨b8, 2, none⟩))) rfl (fun w' hm' => x_fieldAddr (fsz := 1) 0 2 2 U26 rfl Tryz_T24 rfl f21760 rfl) ?_))
                 refine QW.cons rfl (QP.yes' rfl rfl hb22313 (QP.val (v := v3) rfl (fun w' hm' => x_load1 U24 rfl rfl ((hL.call hm').cellB 1 rfl rfl)) ?_))
                 refine QW.cons rfl (QP.yes' rfl rfl hb22313 (QP.val (v := (.int .i64 s_l2.2)) rfl (fun w' hm' => x_mv f21764) ?_))
                 obtain ⟨x22314, ha22315, hm⟩ := bndE hm
                 obtain ⟨hz22316, ha22324⟩ := idxE ha22315
                 obtain ⟨b22317, q22318, v22319, hix22320, hs22321, hc22322, hr22323⟩ := rdN_at h4 hz22316 ha22324
                 refine QW.cons rfl (QP.yes' rfl rfl hb22313 (QP.val (v := (.pointer (some ⟨b22317, q22318, none⟩))) rfl (fun w' hm' => x_ix U24 Tryz_T27 rfl rfl hix22320) ?_))
                 refine QW.cons rfl (QP.yes' rfl rfl hb22313 (QP.val (v := v22319) rfl (fun w' hm' => x_load1 U27 rfl rfl ((hL.call hm').cellS 2 rfl hs22321 hc22322)) ?_))
                 refine QW.cons rfl (QP.yes' rfl rfl hb22313 (QP.val (v := (.int .i64 a2)) rfl (fun w' hm' => x_mv f21759) ?_))
                 obtain ⟨x22325, ha22326, hm⟩ := bndE hm
                 obtain ⟨hz22327, ha22331⟩ := idxE ha22326
                 obtain ⟨b22328, q22329, hix22330⟩ := rdL_ix (hL.rdS 2 rfl hr22323) hz22327 ha22331
                 refine QW.cons rfl (QP.yes' rfl rfl hb22313 (QP.val (v := (.pointer (some ⟨b22328, q22329, none⟩))) rfl (fun w' hm' => x_ix U27 Tryz_T2 rfl rfl hix22330) ?_))
                 refine QW.cons rfl (QP.yes' rfl rfl hb22313 (QP.val (v := (.int .i64 x22325)) rfl (fun w' hm' => x_load1 U2 rfl rfl (rdF_cells ((hL.call hm').rdS 2 rfl hr22323) hix22330 ha22331 0 _ rfl)) ?_))
                 refine QW.cons rfl (QP.yes' rfl rfl hb22313 (QP.val (v := (.bool (x22325 != 7))) rfl (fun w' hm' => x_neq rfl rfl) ?_))
                 refine QW.cons rfl (QP.val (v := (.bool (x22325 != 7))) rfl (fun w' hm' => x_pickT' rfl hb22313 rfl) ?_)
                 refine QW.cons rfl (QP.val (v := (.bool (x22325 != 7))) rfl (fun w' hm' => x_move) ?_)
                 refine ifB_elim hm (fun hb22332 hm => ?_) (fun hb22332 hm => ?_)
                 · refine QW.cons rfl (QP.yes' rfl rfl hb22332 (QP.val (v := (.int .i64 s_l2.1)) rfl (fun w' hm' => x_mv f21763) ?_))
                   refine QW.cons rfl (QP.yes' rfl rfl hb22332 (QP.val (v := (.bool (decide (s_l2.1 < 0)))) rfl (fun w' hm' => x_lss rfl rfl) ?_))
                   refine QW.cons rfl (QP.yes' rfl rfl hb22332 (QP.val (v := (.bool (decide (s_l2.1 < 0)))) rfl (fun w' hm' => x_move) ?_))
                   refine ifB_elim hm (fun hb22333 hm => ?_) (fun hb22333 hm => ?_)
                   · refine QW.cons rfl (QP.no' rfl rfl hb22333 rfl ?_)
                     refine QW.cons rfl (QP.no' rfl rfl hb22333 rfl ?_)
                     refine QW.cons rfl (QP.no' rfl rfl hb22333 rfl ?_)
                     refine QW.cons rfl (QP.no' rfl rfl hb22333 rfl ?_)
                     refine QW.cons rfl (QP.no' rfl rfl hb22333 rfl ?_)
                     refine QW.cons rfl (QP.no' rfl rfl hb22333 rfl ?_)
                     refine QW.cons rfl (QP.no' rfl rfl hb22333 rfl ?_)
                     refine QW.cons rfl (QP.no' rfl rfl hb22333 rfl ?_)
                     refine QW.cons rfl (QP.no' rfl rfl hb22333 rfl ?_)
                     refine QW.cons rfl (QP.no' rfl rfl hb22333 rfl ?_)
                     refine QW.cons rfl (QP.no' rfl rfl hb22333 rfl ?_)
                     refine QW.cons rfl (QP.no' rfl rfl hb22333 rfl ?_)
                     refine QW.cons rfl (QP.no' rfl rfl hb22333 rfl ?_)
                     refine QW.cons rfl (QP.no' rfl rfl hb22333 rfl ?_)
                     refine QW.cons rfl (QP.no' rfl rfl hb22333 rfl ?_)
                     refine QW.cons rfl (QP.no' rfl rfl hb22333 rfl ?_)
                     refine QW.cons rfl (QP.no' rfl rfl hb22333 rfl ?_)
                     refine QW.cons rfl (QP.yes' rfl rfl hb22332 (QP.val (v := (.bool true)) rfl (fun w' hm' => x_pickT' rfl hb22333 rfl) ?_))
                     refine QW.cons rfl (QP.val (v := (.bool true)) rfl (fun w' hm' => x_pickT' rfl hb22332 rfl) ?_)
                     refine QW.nil ?_
                     intro wd22334 hmod
                     have hL := hL.call hmod
                     refine DW.done (by kernel_rfl) ?_
                     exact ⟨true, hm, ⟨f21759, f21760, f21761, f21762, f21763, f21764, rfl, hL⟩⟩
                   refine QW.cons rfl (QP.yes' rfl rfl hb22333 (QP.val (v := (.pointer (some ⟨b8, 1, none⟩))) rfl (fun w' hm' => x_fieldAddr (fsz := 1) 0 1 1 U26 rfl Tryz_T24 rfl f21760 rfl) ?_))
                   refine QW.cons rfl (QP.yes' rfl rfl hb22333 (QP.val (v := v1) rfl (fun w' hm' => x_load1 U24 rfl rfl ((hL.call hm').cellB 1 rfl rfl)) ?_))
                   refine QW.cons rfl (QP.yes' rfl rfl hb22333 (QP.val (v := (.int .i64 s_l2.2)) rfl (fun w' hm' => x_mv f21764) ?_))
                   obtain ⟨x22335, ha22336, hm⟩ := bndE hm
                   obtain ⟨hz22337, ha22345⟩ := idxE ha22336
                   obtain ⟨b22338, q22339, v22340, hix22341, hs22342, hc22343, hr22344⟩ := rdN_at h2 hz22337 ha22345
                   refine QW.cons rfl (QP.yes' rfl rfl hb22333 (QP.val (v := (.pointer (some ⟨b22338, q22339, none⟩))) rfl (fun w' hm' => x_ix U24 Tryz_T27 rfl rfl hix22341) ?_))
                   refine QW.cons rfl (QP.yes' rfl rfl hb22333 (QP.val (v := v22340) rfl (fun w' hm' => x_load1 U27 rfl rfl ((hL.call hm').cellS 2 rfl hs22342 hc22343)) ?_))
                   refine QW.cons rfl (QP.yes' rfl rfl hb22333 (QP.val (v := (.int .i64 a2)) rfl (fun w' hm' => x_mv f21759) ?_))
                   obtain ⟨x22346, ha22347, hm⟩ := bndE hm
                   obtain ⟨hz22348, ha22352⟩ := idxE ha22347
                   obtain ⟨b22349, q22350, hix22351⟩ := rdL_ix (hL.rdS 2 rfl hr22344) hz22348 ha22352
                   refine QW.cons rfl (QP.yes' rfl rfl hb22333 (QP.val (v := (.pointer (some ⟨b22349, q22350, none⟩))) rfl (fun w' hm' => x_ix U27 Tryz_T2 rfl rfl hix22351) ?_))
                   refine QW.cons rfl (QP.yes' rfl rfl hb22333 (QP.val (v := (.int .i64 x22346)) rfl (fun w' hm' => x_load1 U2 rfl rfl (rdF_cells ((hL.call hm').rdS 2 rfl hr22344) hix22351 ha22352 0 _ rfl)) ?_))
                   refine QW.cons rfl (QP.yes' rfl rfl hb22333 (QP.val (v := (.pointer (some ⟨b8, 1, none⟩))) rfl (fun w' hm' => x_fieldAddr (fsz := 1) 0 1 1 U26 rfl Tryz_T24 rfl f21760 rfl) ?_))
                   refine QW.cons rfl (QP.yes' rfl rfl hb22333 (QP.val (v := v1) rfl (fun w' hm' => x_load1 U24 rfl rfl ((hL.call hm').cellB 1 rfl rfl)) ?_))
                   refine QW.cons rfl (QP.yes' rfl rfl hb22333 (QP.val (v := (.int .i64 s_l2.1)) rfl (fun w' hm' => x_mv f21763) ?_))
                   obtain ⟨x22353, ha22354, hm⟩ := bndE hm
                   obtain ⟨hz22355, ha22363⟩ := idxE ha22354
                   obtain ⟨b22356, q22357, v22358, hix22359, hs22360, hc22361, hr22362⟩ := rdN_at h2 hz22355 ha22363
                   refine QW.cons rfl (QP.yes' rfl rfl hb22333 (QP.val (v := (.pointer (some ⟨b22356, q22357, none⟩))) rfl (fun w' hm' => x_ix U24 Tryz_T27 rfl rfl hix22359) ?_))
                   refine QW.cons rfl (QP.yes' rfl rfl hb22333 (QP.val (v := v22358) rfl (fun w' hm' => x_load1 U27 rfl rfl ((hL.call hm').cellS 2 rfl hs22360 hc22361)) ?_))
                   refine QW.cons rfl (QP.yes' rfl rfl hb22333 (QP.val (v := (.int .i64 a2)) rfl (fun w' hm' => x_mv f21759) ?_))
                   obtain ⟨x22364, ha22365, hm⟩ := bndE hm
                   obtain ⟨hz22366, ha22370⟩ := idxE ha22365
                   obtain ⟨b22367, q22368, hix22369⟩ := rdL_ix (hL.rdS 2 rfl hr22362) hz22366 ha22370
                   refine QW.cons rfl (QP.yes' rfl rfl hb22333 (QP.val (v := (.pointer (some ⟨b22367, q22368, none⟩))) rfl (fun w' hm' => x_ix U27 Tryz_T2 rfl rfl hix22369) ?_))
                   refine QW.cons rfl (QP.yes' rfl rfl hb22333 (QP.val (v := (.int .i64 x22364)) rfl (fun w' hm' => x_load1 U2 rfl rfl (rdF_cells ((hL.call hm').rdS 2 rfl hr22362) hix22369 ha22370 0 _ rfl)) ?_))
                   refine QW.cons rfl (QP.yes' rfl rfl hb22333 (QP.val (v := (.bool (decide (x22364 < x22346)))) rfl (fun w' hm' => x_gtr rfl rfl) ?_))
                   refine QW.cons rfl (QP.yes' rfl rfl hb22332 (QP.val (v := (.bool (decide (x22364 < x22346)))) rfl (fun w' hm' => x_pickF' rfl hb22333 rfl) ?_))
                   refine QW.cons rfl (QP.val (v := (.bool (decide (x22364 < x22346)))) rfl (fun w' hm' => x_pickT' rfl hb22332 rfl) ?_)
                   refine QW.nil ?_
                   intro wd22371 hmod
                   have hL := hL.call hmod
                   refine DW.done (by kernel_rfl) ?_
                   exact ⟨decide (x22364 < x22346), hm, ⟨f21759, f21760, f21761, f21762, f21763, f21764, rfl, hL⟩⟩
                 refine QW.cons rfl (QP.no' rfl rfl hb22332 rfl ?_)
                 refine QW.cons rfl (QP.no' rfl rfl hb22332 rfl ?_)
                 refine QW.cons rfl (QP.no' rfl rfl hb22332 rfl ?_)
                 refine QW.cons rfl (QP.noU rfl rfl rfl ?_)
                 refine QW.cons rfl (QP.noU rfl rfl rfl ?_)
                 refine QW.cons rfl (QP.noU rfl rfl rfl ?_)
                 refine QW.cons rfl (QP.noU rfl rfl rfl ?_)
                 refine QW.cons rfl (QP.noU rfl rfl rfl ?_)
                 refine QW.cons rfl (QP.noU rfl rfl rfl ?_)
                 refine QW.cons rfl (QP.noU rfl rfl rfl ?_)
                 refine QW.cons rfl (QP.noU rfl rfl rfl ?_)
                 refine QW.cons rfl (QP.noU rfl rfl rfl ?_)
                 refine QW.cons rfl (QP.noU rfl rfl rfl ?_)
                 refine QW.cons rfl (QP.noU rfl rfl rfl ?_)
                 refine QW.cons rfl (QP.noU rfl rfl rfl ?_)
                 refine QW.cons rfl (QP.noU rfl rfl rfl ?_)
                 refine QW.cons rfl (QP.noU rfl rfl rfl ?_)
                 refine QW.cons rfl (QP.noU rfl rfl rfl ?_)
                 refine QW.cons rfl (QP.noU rfl rfl rfl ?_)
                 refine QW.cons rfl (QP.noU rfl rfl rfl ?_)
                 refine QW.cons rfl (QP.no' rfl rfl hb22332 rfl ?_)
                 refine QW.cons rfl (QP.val (v := (.bool false)) rfl (fun w' hm' => x_pickF' rfl hb22332 rfl) ?_)
                 refine QW.nil ?_
                 intro wd22372 hmod
                 have hL := hL.call hmod
                 refine DW.done (by kernel_rfl) ?_
                 exact ⟨false, hm, ⟨f21759, f21760, f21761, f21762, f21763, f21764, rfl, hL⟩⟩
               refine QW.cons rfl (QP.no' rfl rfl hb22313 rfl ?_)
               refine QW.cons rfl (QP.no' rfl rfl hb22313 rfl ?_)
               refine QW.cons rfl (QP.no' rfl rfl hb22313 rfl ?_)
               refine QW.cons rfl (QP.no' rfl rfl hb22313 rfl ?_)
               refine QW.cons rfl (QP.no' rfl rfl hb22313 rfl ?_)
               refine QW.cons rfl (QP.no' rfl rfl hb22313 rfl ?_)
               refine QW.cons rfl (QP.no' rfl rfl hb22313 rfl ?_)
               refine QW.cons rfl (QP.no' rfl rfl hb22313 rfl ?_)
               refine QW.cons rfl (QP.no' rfl rfl hb22313 rfl ?_)
               refine QW.cons rfl (QP.val (v := (.bool false)) rfl (fun w' hm' => x_pickF' rfl hb22313 rfl) ?_)
               refine QW.cons rfl (QP.val (v := (.bool false)) rfl (fun w' hm' => x_move) ?_)
               refine QW.cons rfl (QP.no' rfl rfl rfl rfl ?_)
               refine QW.cons rfl (QP.no' rfl rfl rfl rfl ?_)
               refine QW.cons rfl (QP.no' rfl rfl rfl rfl ?_)
               refine QW.cons rfl (QP.noU rfl rfl rfl ?_)
               refine QW.cons rfl (QP.noU rfl rfl rfl ?_)
               refine QW.cons rfl (QP.noU rfl rfl rfl ?_)
               refine QW.cons rfl (QP.noU rfl rfl rfl ?_)
               refine QW.cons rfl (QP.noU rfl rfl rfl ?_)
               refine QW.cons rfl (QP.noU rfl rfl rfl ?_)
               refine QW.cons rfl (QP.noU rfl rfl rfl ?_)
               refine QW.cons rfl (QP.noU rfl rfl rfl ?_)
               refine QW.cons rfl (QP.noU rfl rfl rfl ?_)
               refine QW.cons rfl (QP.noU rfl rfl rfl ?_)
               refine QW.cons rfl (QP.noU rfl rfl rfl ?_)
               refine QW.cons rfl (QP.noU rfl rfl rfl ?_)
               refine QW.cons rfl (QP.noU rfl rfl rfl ?_)
               refine QW.cons rfl (QP.noU rfl rfl rfl ?_)
               refine QW.cons rfl (QP.noU rfl rfl rfl ?_)
               refine QW.cons rfl (QP.noU rfl rfl rfl ?_)
               refine QW.cons rfl (QP.noU rfl rfl rfl ?_)
               refine QW.cons rfl (QP.no' rfl rfl rfl rfl ?_)
               refine QW.cons rfl (QP.val (v := (.bool false)) rfl (fun w' hm' => x_pickF' rfl rfl rfl) ?_)
               refine QW.nil ?_
               intro wd22373 hmod
               have hL := hL.call hmod
               refine DW.done (by kernel_rfl) ?_
               exact ⟨false, hm, ⟨f21759, f21760, f21761, f21762, f21763, f21764, rfl, hL⟩⟩
             intro s_j5 F22296 wd22297 hJ hm
             unfold M.spec_l27Out_j5 at hm
             obtain ⟨f22298, f22299, f22300, f22301, f22302, f22303, f22304, hL⟩ := hJ
             refine CW.condM (t := s_j5) f22304 hm (fun hb22305 hm => ?_) (fun hb22305 hm => ?_)
             · refine CW.regionL ?_
               refine OV (.int .i64 s_l2.2) rfl (x_mv f22303) ?_
               refine OV (.int .i64 s_l2.2) rfl (x_assign) ?_
               refine OW.nil ?_
               exact ⟨s_l2.2, hm, ⟨f22298, f22299, f22300, f22301, rfl, f22303, hL⟩⟩
             refine CW.skip ?_
             exact ⟨s_l2.1, hm, ⟨f22298, f22299, f22300, f22301, f22302, f22303, hL⟩⟩
           intro s_j4 F22220 wd22221 hJ hm
           unfold M.spec_l27Out_j4 at hm
           obtain ⟨f22222, f22223, f22224, f22225, f22226, f22227, hL⟩ := hJ
           exact ⟨s_j4, hm, ⟨f22222, f22223, f22224, f22225, f22226, f22227, hL⟩⟩
         intro s_j3 F22066 wd22067 hJ hm
         unfold M.spec_l27Out_j3 at hm
         obtain ⟨f22068, f22069, f22070, f22071, f22072, f22073, hL⟩ := hJ
         refine CW.regionL ?_
         refine OV (.int .i64 s_l2.2) rfl (x_mv f22073) ?_
         refine OV (.int .i64 (w64 (s_l2.2 + 1))) rfl (x_add rfl rfl) ?_
         refine OV (.int .i64 (w64 (s_l2.2 + 1))) rfl (x_assign) ?_
         refine OW.nil ?_
         obtain rfl := Option.some.inj hm
         exact ⟨_, rfl, ⟨f22068, f22069, f22070, f22071, f22072, rfl, hL⟩⟩
       refine CW.exit ?_
       refine XJ.hit ?_
       obtain rfl := Option.some.inj hm
       exact ⟨_, rfl, ⟨f21759, f21760, f21761, f21762, f21763, f21764, hL⟩⟩
     intro s_j2 F20512 wd20513 hJ hm
     unfold M.spec_l27Out_j2 at hm
     obtain ⟨S20511, f20514, f20515, f20516, f20517, hL⟩ := hJ
     exact ⟨s_j2, hm, ⟨S20511, f20514, f20515, f20516, f20517, hL⟩⟩
   intro s_j1 F18649 wd18650 hJ hm
   unfold M.spec_l27Out_j1 at hm
   obtain ⟨S18648, f18651, f18652, f18653, f18654, hL⟩ := hJ
   refine CW.regionL ?_
   refine OV (.int .i64 s_l1.2) rfl (x_mv f18654) ?_
   refine OV (.int .i64 (w64 (s_l1.2 - 1))) rfl (x_sub rfl rfl) ?_
   refine OV (.int .i64 (w64 (s_l1.2 - 1))) rfl (x_assign) ?_
   refine OW.nil ?_
   obtain rfl := Option.some.inj hm
   exact ⟨_, rfl, ⟨S18648, f18651, f18652, f18653, rfl, hL⟩⟩
 refine CW.exit ?_
 refine XJ.hit ?_
 obtain rfl := Option.some.inj hm
 exact ⟨_, rfl, ⟨S14911, f14924, f14925, f14926, f14927, hL⟩⟩

theorem M.spec_l27Counted_ok (w0 : World) (a0 : Table) {v1 : Value} {v3 : Value} (h2 : rdL (· < w0.heap.size) w0 v1 a0.Points) (h4 : rdL (· < w0.heap.size) w0 v3 a0.Codes) (a1 : List Int) {v5 : Value} (h6 : rdL (· < w0.heap.size) w0 v5 a1) (a2 : Int) {r : (List Int)} (hm : M.spec_l27Counted a0 a1 a2 = some r) :
    Calls Tryz.prog 34 #[(.agg #[(.int .i64 a0.Boats), v1, v3]), v5, (.int .i64 a2)] w0 fun e w' => ∃ (rv0 : Value) (rS0 : Nat → Prop), e = .returned rv0 ∧ Fresh w0 w' [Ent.own 2 rS0 rv0 r] := by
 unfold M.spec_l27Counted at hm
 refine calls_CW (args := [(.agg #[(.int .i64 a0.Boats), v1, v3]), v5, (.int .i64 a2)]) Tryz.func34 rfl rfl rfl ?_
 have hL := Hp.start w0
 refine CSR ?_
 refine OW.cons (S_box (cs := #[(.int .i64 a0.Boats), v1, v3]) hL rfl rfl rfl ?_)
 intro wd7 b8 hL
 refine OV (.slice none 0 0) rfl (x_assign) ?_
 refine ONR ?_
 refine OV (.agg #[(.int .i64 a0.Boats), v1, v3]) rfl (x_loadN (cs := [(.int .i64 a0.Boats), v1, v3]) U26 Tryz_T26 rfl rfl (hL.cellsB 0 rfl (o := 0) (l := [(.int .i64 a0.Boats), v1, v3]) (by intro j u hj; exact (by simpa using hj)))) ?_
 refine OV v5 rfl (x_move) ?_
 refine OV (.int .i64 a2) rfl (x_move) ?_
 obtain ⟨x9, hx10, hm⟩ := bndE hm
 refine OW.cons (OP.call rfl (x_call (vs := [(.agg #[(.int .i64 a0.Boats), v1, v3]), v5, (.int .i64 a2)]) Tryz_C68 ⟨rfl, rfl, rfl, trivial⟩) (M.spec_l27Out_ok _ a0 (hL.rdS 1 rfl h2) (hL.rdS 1 rfl h4) a1 (hL.rdS 1 rfl h6) a2 hx10) ?_)
 rintro e13 wd14 ⟨v12, S11, rfl, hF15⟩
 refine ⟨_, rfl, ?_⟩
 have hL := hL.pushAll hF15
 simp only [lA, lB, lC, lD] at hL
 refine OV v12 rfl (x_assign) ?_
 refine ONR ?_
 refine OW.cons (S_lit ([] : List Int) hL U27 Tryz_T2 rfl (by decide) (by first | (simp [Instr.fill, madeCells, Value.cells, ev, upd, Flat.enc, Flat.sz]; done) | rfl | kernel_rfl) rfl rfl ?_)
 intro wd16 v17 S18 hL
 refine OV v17 rfl (x_assign) ?_
 refine ONS ?_
 refine CSR ?_
 refine OV (.int .i64 0) rfl (x_assign) ?_
 refine OW.nil ?_
 obtain ⟨o345, ho346, hm⟩ := bndE hm
 refine CW.loopB (fun (s_l1 : (List Int) × Int) (F : Fr) (w : World) => ∃ (v341 : Value) (S342 : Nat → Prop), F 2 = (.int .i64 a2) ∧ F 3 = (.pointer (some ⟨b8, 0, none⟩)) ∧ F 7 = v12 ∧ F 8 = v341 ∧ F 9 = (.int .i64 s_l1.2) ∧ Hp w0 [Ent.own 2 S342 v341 s_l1.1, Ent.own 4 S11 v12 x9, Ent.blk b8 26 #[(.int .i64 a0.Boats), v1, v3], Ent.snap w0 w0.heap.size] w) (fun o => outc o (fun x => some x) (fun s => M.spec_l27Counted_a1 s) = some r) ho346 hm ⟨v17, S18, rfl, rfl, rfl, rfl, rfl, hL⟩ ?_ ?_
 · intro s_l1 F347 wd348 hJ hm
   have hm := outcE hm
   have hm : M.spec_l27Counted_a1 s_l1 = some r := hm
   unfold M.spec_l27Counted_a1 at hm
   obtain ⟨v341, S342, f349, f350, f351, f352, f353, hL⟩ := hJ
   refine CSR ?_
   refine OV v341 rfl (x_mv f352) ?_
   refine OV v341 rfl (x_assign) ?_
   refine OW.nil ?_
   refine CW.ret ?_
   obtain rfl := Option.some.inj hm
   exact RR1 rfl rfl ⟨v341, S342, rfl, hL.fresh 3 rfl [0] (by decide) (by decide) rfl⟩
 intro s_l1 F354 wd355 t343 hJ hm hr344
 unfold M.spec_l27Counted_l1 at hm
 obtain ⟨v341, S342, f356, f357, f358, f359, f360, hL⟩ := hJ
 refine CW.seq ?_
 refine CSR ?_
 refine OV (.int .i64 s_l1.2) rfl (x_mv f360) ?_
 refine OV v12 rfl (x_mv f358) ?_
 refine OV (.int .i64 (x9.length : Int)) rfl (x_lenR U85 rfl (hL.rdO 1 rfl)) ?_
 refine OV (.bool (decide (s_l1.2 < (x9.length : Int)))) rfl (x_lss rfl rfl) ?_
 refine OW.nil ?_
 refine CW.condM (t := decide (s_l1.2 < (x9.length : Int))) rfl hm (fun hb361 hm => ?_) (fun hb361 hm => ?_)
 · refine CW.skip ?_
   refine CW.seqJ (fun (s_j1 : (List Int)) (F : Fr) (w : World) => ∃ (v437 : Value) (S438 : Nat → Prop), F 2 = (.int .i64 a2) ∧ F 3 = (.pointer (some ⟨b8, 0, none⟩)) ∧ F 7 = v12 ∧ F 8 = v437 ∧ F 9 = (.int .i64 s_l1.2) ∧ Hp w0 [Ent.own 2 S438 v437 s_j1, Ent.own 4 S11 v12 x9, Ent.blk b8 26 #[(.int .i64 a0.Boats), v1, v3], Ent.snap w0 w0.heap.size] w) (fun s_j1 => M.spec_l27Counted_j1 s_l1 s_j1 = some t343) ?_ ?_
   · refine CW.blockJ (fun (s_j2 : (List Int)) (F : Fr) (w : World) => ∃ (v479 : Value) (S480 : Nat → Prop), F 2 = (.int .i64 a2) ∧ F 3 = (.pointer (some ⟨b8, 0, none⟩)) ∧ F 7 = v12 ∧ F 8 = v479 ∧ F 9 = (.int .i64 s_l1.2) ∧ Hp w0 [Ent.own 2 S480 v479 s_j2, Ent.own 4 S11 v12 x9, Ent.blk b8 26 #[(.int .i64 a0.Boats), v1, v3], Ent.snap w0 w0.heap.size] w) (fun s_j2 => M.spec_l27Counted_j2 s_l1 s_j2 = some t343) ?_ ?_
     · refine CSR ?_
       refine OV v12 rfl (x_mv f358) ?_
       refine OV (.int .i64 s_l1.2) rfl (x_mv f360) ?_
       obtain ⟨x488, ha489, hm⟩ := bndE hm
       obtain ⟨hz490, ha494⟩ := idxE ha489
       obtain ⟨b491, q492, hix493⟩ := rdL_ix (hL.rdO 1 rfl) hz490 ha494
       refine OV (.pointer (some ⟨b491, q492, none⟩)) rfl (x_ix U85 Tryz_T4 rfl rfl hix493) ?_
       refine OV (.bool x488) rfl (x_load1 U4 rfl rfl (rdF_cells (hL.rdO 1 rfl) hix493 ha494 0 _ rfl)) ?_
       refine OV (.bool (!x488)) rfl (x_not rfl) ?_
       refine OW.nil ?_
       refine CW.condM (t := !x488) rfl hm (fun hb495 hm => ?_) (fun hb495 hm => ?_)
       · refine CW.regionL ?_
         refine OV v341 rfl (x_mv f359) ?_
         refine OV (.pointer (some ⟨b8, 1, none⟩)) rfl (x_fieldAddr (fsz := 1) 0 1 1 U26 rfl Tryz_T24 rfl f357 rfl) ?_
         refine OV v1 rfl (x_load1 U24 rfl rfl (hL.cellB 2 rfl rfl)) ?_
         refine OV (.int .i64 s_l1.2) rfl (x_mv f360) ?_
         obtain ⟨x496, ha497, hm⟩ := bndE hm
         obtain ⟨hz498, ha506⟩ := idxE ha497
         obtain ⟨b499, q500, v501, hix502, hs503, hc504, hr505⟩ := rdN_at h2 hz498 ha506
         refine OV (.pointer (some ⟨b499, q500, none⟩)) rfl (x_ix U24 Tryz_T27 rfl rfl hix502) ?_
         refine OV v501 rfl (x_load1 U27 rfl rfl (hL.cellS 3 rfl hs503 hc504)) ?_
         refine OV (.int .i64 a2) rfl (x_mv f356) ?_
         obtain ⟨x507, ha508, hm⟩ := bndE hm
         obtain ⟨hz509, ha513⟩ := idxE ha508
         obtain ⟨b510, q511, hix512⟩ := rdL_ix (hL.rdS 3 rfl hr505) hz509 ha513
         refine OV (.pointer (some ⟨b510, q511, none⟩)) rfl (x_ix U27 Tryz_T2 rfl rfl hix512) ?_
         refine OV (.int .i64 x507) rfl (x_load1 U2 rfl rfl (rdF_cells (hL.rdS 3 rfl hr505) hix512 ha513 0 _ rfl)) ?_
         refine OW.cons (S_lit ([x507] : List Int) hL U27 Tryz_T2 rfl (by decide) (by first | (simp [Instr.fill, madeCells, Value.cells, ev, upd, Flat.enc, Flat.sz]; done) | rfl | kernel_rfl) rfl rfl ?_)
         intro wd514 v515 S516 hL
         obtain ⟨hc520, hm⟩ := chkE hm
         refine OW.cons (S_append (ys := ([x507] : List Int)) hL 1 rfl U27 Tryz_T2 rfl rfl rfl (hL.rdO 0 rfl) hc520 (by decide) rfl ?_)
         intro wd517 v518 S519 hL
         refine OV v518 rfl (x_assign) ?_
         refine OW.nil ?_
         have hL := hL.sel [1, 2, 3, 4] (by decide) rfl
         exact ⟨s_l1.1 ++ ([x507] : List Int), hm, ⟨v518, S519, f356, f357, f358, rfl, f360, hL⟩⟩
       refine CW.skip ?_
       exact ⟨s_l1.1, hm, ⟨v341, S342, f356, f357, f358, f359, f360, hL⟩⟩
     intro s_j2 F481 wd482 hJ hm
     unfold M.spec_l27Counted_j2 at hm
     obtain ⟨v479, S480, f483, f484, f485, f486, f487, hL⟩ := hJ
     exact ⟨s_j2, hm, ⟨v479, S480, f483, f484, f485, f486, f487, hL⟩⟩
   intro s_j1 F439 wd440 hJ hm
   unfold M.spec_l27Counted_j1 at hm
   obtain ⟨v437, S438, f441, f442, f443, f444, f445, hL⟩ := hJ
   refine CW.regionL ?_
   refine OV (.int .i64 s_l1.2) rfl (x_mv f445) ?_
   refine OV (.int .i64 (w64 (s_l1.2 + 1))) rfl (x_add rfl rfl) ?_
   refine OV (.int .i64 (w64 (s_l1.2 + 1))) rfl (x_assign) ?_
   refine OW.nil ?_
   obtain rfl := Option.some.inj hm
   exact ⟨_, rfl, ⟨v437, S438, f441, f442, f443, f444, rfl, hL⟩⟩
 refine CW.exit ?_
 refine XJ.hit ?_
 obtain rfl := Option.some.inj hm
 exact ⟨_, rfl, ⟨v341, S342, f356, f357, f358, f359, f360, hL⟩⟩

theorem M.spec_l28Sorted_ok (w0 : World) (a0 : List Int) {v1 : Value} (h2 : rdL (· < w0.heap.size) w0 v1 a0) {r : (List Int)} (hm : M.spec_l28Sorted a0 = some r) :
    Calls Tryz.prog 100 #[v1] w0 fun e w' => ∃ (rv0 : Value) (rS0 : Nat → Prop), e = .returned rv0 ∧ Fresh w0 w' [Ent.own 2 rS0 rv0 r] := by
 unfold M.spec_l28Sorted at hm
 refine calls_CW (args := [v1]) Tryz.func100 rfl rfl rfl ?_
 have hL := Hp.start w0
 refine CSR ?_
 refine OV (.slice none 0 0) rfl (x_assign) ?_
 refine ONR ?_
 refine OW.cons (S_lit ([] : List Int) hL U27 Tryz_T2 rfl (by decide) (by first | (simp [Instr.fill, madeCells, Value.cells, ev, upd, Flat.enc, Flat.sz]; done) | rfl | kernel_rfl) rfl rfl ?_)
 intro wd3 v4 S5 hL
 refine OV v1 rfl (x_move) ?_
 obtain ⟨hc9, hm⟩ := chkE hm
 refine OW.cons (S_append (ys := a0) hL 0 rfl U27 Tryz_T2 rfl rfl rfl (hL.rdS 1 rfl h2) hc9 (by decide) rfl ?_)
 intro wd6 v7 S8 hL
 refine OV v7 rfl (x_assign) ?_
 refine ONS ?_
 refine CSR ?_
 refine OV (.int .i64 1) rfl (x_assign) ?_
 refine OW.nil ?_
 obtain ⟨o474, ho475, hm⟩ := bndE hm
 refine CW.loopB (fun (s_l1 : (List Int) × Int) (F : Fr) (w : World) => ∃ (S471 : Nat → Prop), F 3 = v7 ∧ F 4 = (.int .i64 s_l1.2) ∧ Hp w0 [Ent.own 2 S471 v7 s_l1.1, Ent.snap w0 w0.heap.size] w) (fun o => outc o (fun x => some x) (fun s => M.spec_l28Sorted_a1 s) = some r) ho475 hm ⟨S8, rfl, rfl, hL⟩ ?_ ?_
 · intro s_l1 F476 wd477 hJ hm
   have hm := outcE hm
   have hm : M.spec_l28Sorted_a1 s_l1 = some r := hm
   unfold M.spec_l28Sorted_a1 at hm
   obtain ⟨S471, f478, f479, hL⟩ := hJ
   refine CSR ?_
   refine OV v7 rfl (x_mv f478) ?_
   refine OV v7 rfl (x_assign) ?_
   refine OW.nil ?_
   refine CW.ret ?_
   obtain rfl := Option.some.inj hm
   exact RR1 rfl rfl ⟨v7, S471, rfl, hL.fresh 1 rfl [0] (by decide) (by decide) rfl⟩
 intro s_l1 F480 wd481 t472 hJ hm hr473
 unfold M.spec_l28Sorted_l1 at hm
 obtain ⟨S471, f482, f483, hL⟩ := hJ
 refine CW.seq ?_
 refine CSR ?_
 refine OV (.int .i64 s_l1.2) rfl (x_mv f483) ?_
 refine OV v7 rfl (x_mv f482) ?_
 refine OV (.int .i64 (s_l1.1.length : Int)) rfl (x_lenR U27 rfl (hL.rdO 0 rfl)) ?_
 refine OV (.bool (decide (s_l1.2 < (s_l1.1.length : Int)))) rfl (x_lss rfl rfl) ?_
 refine OW.nil ?_
 refine CW.condM (t := decide (s_l1.2 < (s_l1.1.length : Int))) rfl hm (fun hb484 hm => ?_) (fun hb484 hm => ?_)
 · refine CW.skip ?_
   refine CW.seq ?_
   refine CW.block ?_
   refine CSR ?_
   refine OV (.int .i64 s_l1.2) rfl (x_mv f483) ?_
   refine OV (.int .i64 s_l1.2) rfl (x_assign) ?_
   refine OW.nil ?_
   obtain ⟨o631, ho632, hm⟩ := bndE hm
   refine CW.loopB (fun (s_l2 : (List Int) × Int) (F : Fr) (w : World) => ∃ (S628 : Nat → Prop), F 3 = v7 ∧ F 4 = (.int .i64 s_l1.2) ∧ F 5 = (.int .i64 s_l2.2) ∧ Hp w0 [Ent.own 2 S628 v7 s_l2.1, Ent.snap w0 w0.heap.size] w) (fun o => outc o (fun x => some (.ret x)) (fun s => M.spec_l28Sorted_a2 s_l1 s) = some t472) ho632 hm ⟨S471, f482, f483, rfl, hL⟩ ?_ ?_
   · intro s_l2 F633 wd634 hJ hm
     have hm := outcE hm
     have hm : M.spec_l28Sorted_a2 s_l1 s_l2 = some t472 := hm
     unfold M.spec_l28Sorted_a2 at hm
     obtain ⟨S628, f635, f636, f637, hL⟩ := hJ
     refine CW.regionL ?_
     refine OV (.int .i64 s_l1.2) rfl (x_mv f636) ?_
     refine OV (.int .i64 (w64 (s_l1.2 + 1))) rfl (x_add rfl rfl) ?_
     refine OV (.int .i64 (w64 (s_l1.2 + 1))) rfl (x_assign) ?_
     refine OW.nil ?_
     obtain rfl := Option.some.inj hm
     exact ⟨_, rfl, ⟨S628, f635, rfl, hL⟩⟩
   intro s_l2 F638 wd639 t629 hJ hm hr630
   unfold M.spec_l28Sorted_l2 at hm
   obtain ⟨S628, f640, f641, f642, hL⟩ := hJ
   refine CW.seq ?_
   refine CW.seqJ (fun (s_j1 : Bool) (F : Fr) (w : World) => F 3 = v7 ∧ F 4 = (.int .i64 s_l1.2) ∧ F 5 = (.int .i64 s_l2.2) ∧ F 30 = (.bool s_j1) ∧ Hp w0 [Ent.own 2 S628 v7 s_l2.1, Ent.snap w0 w0.heap.size] w) (fun s_j1 => M.spec_l28Sorted_j1 s_l2 s_j1 = some t629) ?_ ?_
   · refine CW.draw Tryz_mixed ?_
     have hL := hL.call (Mod.drew _)
     refine DW.pre (fuel := 0) (fin := bma 14 16383) (C := fun w' => Mod None_ _ w') [0, 1, 2, 3, 4, 5, 6, 7, 8, 9, 10, 11, 12, 13] (Mod.refl _ _) (by kernel_rfl) (by kernel_rfl) ?_
     refine QW.cons rfl (QP.val (v := (.int .i64 s_l2.2)) rfl (fun w' hm' => x_mv f642) ?_)
     refine QW.cons rfl (QP.val (v := (.bool (decide (0 < s_l2.2)))) rfl (fun w' hm' => x_gtr rfl rfl) ?_)
     refine QW.cons rfl (QP.val (v := (.bool (decide (0 < s_l2.2)))) rfl (fun w' hm' => x_move) ?_)
     refine ifB_elim hm (fun hb697 hm => ?_) (fun hb697 hm => ?_)
     · refine QW.cons rfl (QP.yes' rfl rfl hb697 (QP.val (v := v7) rfl (fun w' hm' => x_mv f640) ?_))
       refine QW.cons rfl (QP.yes' rfl rfl hb697 (QP.val (v := (.int .i64 s_l2.2)) rfl (fun w' hm' => x_mv f642) ?_))
       refine QW.cons rfl (QP.yes' rfl rfl hb697 (QP.val (v := (.int .i64 (w64 (s_l2.2 - 1)))) rfl (fun w' hm' => x_sub rfl rfl) ?_))
       obtain ⟨x698, ha699, hm⟩ := bndE hm
       obtain ⟨hz700, ha704⟩ := idxE ha699
       obtain ⟨b701, q702, hix703⟩ := rdL_ix (hL.rdO 0 rfl) hz700 ha704
       refine QW.cons rfl (QP.yes' rfl rfl hb697 (QP.val (v := (.pointer (some ⟨b701, q702, none⟩))) rfl (fun w' hm' => x_ix U27 Tryz_T2 rfl rfl hix703) ?_))
       refine QW.cons rfl (QP.yes' rfl rfl hb697 (QP.val (v := (.int .i64 x698)) rfl (fun w' hm' => x_load1 U2 rfl rfl (rdF_cells ((hL.call hm').rdO 0 rfl) hix703 ha704 0 _ rfl)) ?_))
       refine QW.cons rfl (QP.yes' rfl rfl hb697 (QP.val (v := v7) rfl (fun w' hm' => x_mv f640) ?_))
       refine QW.cons rfl (QP.yes' rfl rfl hb697 (QP.val (v := (.int .i64 s_l2.2)) rfl (fun w' hm' => x_mv f642) ?_))
       obtain ⟨x705, ha706, hm⟩ := bndE hm
       obtain ⟨hz707, ha711⟩ := idxE ha706
       obtain ⟨b708, q709, hix710⟩ := rdL_ix (hL.rdO 0 rfl) hz707 ha711
       refine QW.cons rfl (QP.yes' rfl rfl hb697 (QP.val (v := (.pointer (some ⟨b708, q709, none⟩))) rfl (fun w' hm' => x_ix U27 Tryz_T2 rfl rfl hix710) ?_))
       refine QW.cons rfl (QP.yes' rfl rfl hb697 (QP.val (v := (.int .i64 x705)) rfl (fun w' hm' => x_load1 U2 rfl rfl (rdF_cells ((hL.call hm').rdO 0 rfl) hix710 ha711 0 _ rfl)) ?_))
       refine QW.cons rfl (QP.yes' rfl rfl hb697 (QP.val (v := (.bool (decide (x705 < x698)))) rfl (fun w' hm' => x_gtr rfl rfl) ?_))
       refine QW.cons rfl (QP.val (v := (.bool (decide (x705 < x698)))) rfl (fun w' hm' => x_pickT' rfl hb697 rfl) ?_)
       refine QW.nil ?_
       intro wd712 hmod
       have hL := hL.call hmod
       refine DW.done (by kernel_rfl) ?_
       exact ⟨decide (x705 < x698), hm, ⟨f640, f641, f642, rfl, hL⟩⟩
     refine QW.cons rfl (QP.no' rfl rfl hb697 rfl ?_)
     refine QW.cons rfl (QP.no' rfl rfl hb697 rfl ?_)
     refine QW.cons rfl (QP.no' rfl rfl hb697 rfl ?_)
     refine QW.cons rfl (QP.no' rfl rfl hb697 rfl ?_)
     refine QW.cons rfl (QP.no' rfl rfl hb697 rfl ?_)
     refine QW.cons rfl (QP.no' rfl rfl hb697 rfl ?_)
     refine QW.cons rfl (QP.no' rfl rfl hb697 rfl ?_)
     refine QW.cons rfl (QP.no' rfl rfl hb697 rfl ?_)
     refine QW.cons rfl (QP.no' rfl rfl hb697 rfl ?_)
     refine QW.cons rfl (QP.no' rfl rfl hb697 rfl ?_)
     refine QW.cons rfl (QP.val (v := (.bool false)) rfl (fun w' hm' => x_pickF' rfl hb697 rfl) ?_)
     refine QW.nil ?_
     intro wd713 hmod
     have hL := hL.call hmod
     refine DW.done (by kernel_rfl) ?_
     exact ⟨false, hm, ⟨f640, f641, f642, rfl, hL⟩⟩
   intro s_j1 F660 wd661 hJ hm
   unfold M.spec_l28Sorted_j1 at hm
   obtain ⟨f662, f663, f664, f665, hL⟩ := hJ
   refine CW.condM (t := s_j1) f665 hm (fun hb666 hm => ?_) (fun hb666 hm => ?_)
   · refine CW.skip ?_
     refine CW.seq ?_
     refine CW.block ?_
     refine CSR ?_
     refine OV v7 rfl (x_mv f662) ?_
     refine OV (.int .i64 s_l2.2) rfl (x_mv f664) ?_
     obtain ⟨x667, ha668, hm⟩ := bndE hm
     obtain ⟨hz669, ha673⟩ := idxE ha668
     obtain ⟨b670, q671, hix672⟩ := rdL_ix (hL.rdO 0 rfl) hz669 ha673
     refine OV (.pointer (some ⟨b670, q671, none⟩)) rfl (x_ix U27 Tryz_T2 rfl rfl hix672) ?_
     refine OV (.int .i64 x667) rfl (x_load1 U2 rfl rfl (rdF_cells (hL.rdO 0 rfl) hix672 ha673 0 _ rfl)) ?_
     refine OV (.int .i64 x667) rfl (x_assign) ?_
     refine ONR ?_
     refine OV v7 rfl (x_mv f662) ?_
     refine OV (.int .i64 s_l2.2) rfl (x_mv f664) ?_
     refine OV v7 rfl (x_mv f662) ?_
     refine OV (.int .i64 s_l2.2) rfl (x_mv f664) ?_
     refine OV (.int .i64 (w64 (s_l2.2 - 1))) rfl (x_sub rfl rfl) ?_
     obtain ⟨x674, ha675, hm⟩ := bndE hm
     obtain ⟨hz676, ha680⟩ := idxE ha675
     obtain ⟨b677, q678, hix679⟩ := rdL_ix (hL.rdO 0 rfl) hz676 ha680
     refine OV (.pointer (some ⟨b677, q678, none⟩)) rfl (x_ix U27 Tryz_T2 rfl rfl hix679) ?_
     refine OV (.int .i64 x674) rfl (x_load1 U2 rfl rfl (rdF_cells (hL.rdO 0 rfl) hix679 ha680 0 _ rfl)) ?_
     obtain ⟨x681, ha682, hm⟩ := bndE hm
     obtain ⟨hz683, ha687⟩ := idxE ha682
     obtain ⟨b684, q685, hix686⟩ := rdL_ix (hL.rdO 0 rfl) hz683 ha687
     refine OV (.pointer (some ⟨b684, q685, none⟩)) rfl (x_ix U27 Tryz_T2 rfl rfl hix686) ?_
     refine OW.cons (S_storeX (j := 0) x674 hL 0 rfl Tryz_T2 hix686 ha687 rfl rfl rfl rfl rfl rfl ?_)
     intro wd688 hL
     refine OW.nil ?_
     refine CW.regionL ?_
     refine OV v7 rfl (x_mv f662) ?_
     refine OV (.int .i64 s_l2.2) rfl (x_mv f664) ?_
     refine OV (.int .i64 (w64 (s_l2.2 - 1))) rfl (x_sub rfl rfl) ?_
     refine OV (.int .i64 x667) rfl (x_move) ?_
     obtain ⟨x689, ha690, hm⟩ := bndE hm
     obtain ⟨hz691, ha695⟩ := idxE ha690
     obtain ⟨b692, q693, hix694⟩ := rdL_ix (hL.rdO 0 rfl) hz691 ha695
     refine OV (.pointer (some ⟨b692, q693, none⟩)) rfl (x_ix U27 Tryz_T2 rfl rfl hix694) ?_
     refine OW.cons (S_storeX (j := 0) x667 hL 0 rfl Tryz_T2 hix694 ha695 rfl rfl rfl rfl rfl rfl ?_)
     intro wd696 hL
     refine OW.nil ?_
     refine CW.regionL ?_
     refine OV (.int .i64 s_l2.2) rfl (x_mv f664) ?_
     refine OV (.int .i64 (w64 (s_l2.2 - 1))) rfl (x_sub rfl rfl) ?_
     refine OV (.int .i64 (w64 (s_l2.2 - 1))) rfl (x_assign) ?_
     refine OW.nil ?_
     obtain rfl := Option.some.inj hm
     exact ⟨_, rfl, ⟨S628, f662, f663, rfl, hL⟩⟩
   refine CW.exit ?_
   refine XJ.hit ?_
   obtain rfl := Option.some.inj hm
   exact ⟨_, rfl, ⟨S628, f662, f663, f664, hL⟩⟩
 refine CW.exit ?_
 refine XJ.hit ?_
 obtain rfl := Option.some.inj hm
 exact ⟨_, rfl, ⟨S471, f482, f483, hL⟩⟩

theorem M.spec_l27Sum_ok (w0 : World) (a0 : List Int) {v1 : Value} (h2 : rdL (· < w0.heap.size) w0 v1 a0) {r : Int} (hm : M.spec_l27Sum a0 = some r) :
    Calls Tryz.prog 33 #[v1] w0 fun e w' => e = .returned (.int .i64 r) ∧ Fresh w0 w' [] := by
 unfold M.spec_l27Sum at hm
 refine calls_CW (args := [v1]) Tryz.func33 rfl rfl rfl ?_
 have hL := Hp.start w0
 refine CSR ?_
 refine OV (.int .i64 0) rfl (x_assign) ?_
 refine ONR ?_
 refine OV (.int .i64 0) rfl (x_assign) ?_
 refine ONS ?_
 refine CSR ?_
 refine OV (.int .i64 0) rfl (x_assign) ?_
 refine OW.nil ?_
 obtain ⟨o21, ho22, hm⟩ := bndE hm
 refine CW.loopB (fun (s_l1 : Int × Int) (F : Fr) (w : World) => F 0 = v1 ∧ F 3 = (.int .i64 s_l1.1) ∧ F 4 = (.int .i64 s_l1.2) ∧ Hp w0 [Ent.snap w0 w0.heap.size] w) (fun o => outc o (fun x => some x) (fun s => M.spec_l27Sum_a1 s) = some r) ho22 hm ⟨rfl, rfl, rfl, hL⟩ ?_ ?_
 · intro s_l1 F23 wd24 hJ hm
   have hm := outcE hm
   have hm : M.spec_l27Sum_a1 s_l1 = some r := hm
   unfold M.spec_l27Sum_a1 at hm
   obtain ⟨f25, f26, f27, hL⟩ := hJ
   refine CSR ?_
   refine OV (.int .i64 s_l1.1) rfl (x_mv f26) ?_
   refine OV (.int .i64 s_l1.1) rfl (x_assign) ?_
   refine OW.nil ?_
   refine CW.ret ?_
   obtain rfl := Option.some.inj hm
   exact RR1 rfl rfl ⟨rfl, hL.fresh 0 rfl [] (by decide) (by decide) rfl⟩
 intro s_l1 F28 wd29 t19 hJ hm hr20
 unfold M.spec_l27Sum_l1 at hm
 obtain ⟨f30, f31, f32, hL⟩ := hJ
 refine CW.seq ?_
 refine CSR ?_
 refine OV (.int .i64 s_l1.2) rfl (x_mv f32) ?_
 refine OV v1 rfl (x_mv f30) ?_
 refine OV (.int .i64 (a0.length : Int)) rfl (x_lenR U27 rfl (hL.rdS 0 rfl h2)) ?_
 refine OV (.bool (decide (s_l1.2 < (a0.length : Int)))) rfl (x_lss rfl rfl) ?_
 refine OW.nil ?_
 refine CW.condM (t := decide (s_l1.2 < (a0.length : Int))) rfl hm (fun hb33 hm => ?_) (fun hb33 hm => ?_)
 · refine CW.skip ?_
   refine CW.seq ?_
   refine CW.block ?_
   refine CW.regionL ?_
   refine OV (.int .i64 s_l1.1) rfl (x_mv f31) ?_
   refine OV v1 rfl (x_mv f30) ?_
   refine OV (.int .i64 s_l1.2) rfl (x_mv f32) ?_
   obtain ⟨x34, ha35, hm⟩ := bndE hm
   obtain ⟨hz36, ha40⟩ := idxE ha35
   obtain ⟨b37, q38, hix39⟩ := rdL_ix (hL.rdS 0 rfl h2) hz36 ha40
   refine OV (.pointer (some ⟨b37, q38, none⟩)) rfl (x_ix U27 Tryz_T2 rfl rfl hix39) ?_
   refine OV (.int .i64 x34) rfl (x_load1 U2 rfl rfl (rdF_cells (hL.rdS 0 rfl h2) hix39 ha40 0 _ rfl)) ?_
   refine OV (.int .i64 (w64 (s_l1.1 + x34))) rfl (x_add rfl rfl) ?_
   refine OV (.int .i64 (w64 (s_l1.1 + x34))) rfl (x_assign) ?_
   refine OW.nil ?_
   refine CW.regionL ?_
   refine OV (.int .i64 s_l1.2) rfl (x_mv f32) ?_
   refine OV (.int .i64 (w64 (s_l1.2 + 1))) rfl (x_add rfl rfl) ?_
   refine OV (.int .i64 (w64 (s_l1.2 + 1))) rfl (x_assign) ?_
   refine OW.nil ?_
   obtain rfl := Option.some.inj hm
   exact ⟨_, rfl, ⟨f30, rfl, rfl, hL⟩⟩
 refine CW.exit ?_
 refine XJ.hit ?_
 obtain rfl := Option.some.inj hm
 exact ⟨_, rfl, ⟨f30, f31, f32, hL⟩⟩

theorem M.spec_l28Sign_ok (w0 : World) (a0 : Int) (a1 : Int) {r : Int} (hm : M.spec_l28Sign a0 a1 = some r) :
    Calls Tryz.prog 101 #[(.int .i64 a0), (.int .i64 a1)] w0 fun e w' => e = .returned (.int .i64 r) ∧ Fresh w0 w' [] := by
 unfold M.spec_l28Sign at hm
 refine calls_CW (args := [(.int .i64 a0), (.int .i64 a1)]) Tryz.func101 rfl rfl rfl ?_
 have hL := Hp.start w0
 refine CSR ?_
 refine OV (.int .i64 0) rfl (x_assign) ?_
 refine ONS ?_
 refine CSR ?_
 refine OV (.int .i64 a0) rfl (x_move) ?_
 refine OV (.int .i64 a1) rfl (x_move) ?_
 refine OV (.bool (decide (a0 < a1))) rfl (x_lss rfl rfl) ?_
 refine OW.nil ?_
 refine CW.condM (t := decide (a0 < a1)) rfl hm (fun hb1 hm => ?_) (fun hb1 hm => ?_)
 · refine CSR ?_
   refine OV (.int .i64 (-1)) rfl (x_assign) ?_
   refine OW.nil ?_
   refine CW.ret ?_
   obtain rfl := Option.some.inj hm
   exact RR1 rfl rfl ⟨rfl, hL.fresh 0 rfl [] (by decide) (by decide) rfl⟩
 refine CW.skip ?_
 refine CW.seq ?_
 refine CSR ?_
 refine OV (.int .i64 a0) rfl (x_move) ?_
 refine OV (.int .i64 a1) rfl (x_move) ?_
 refine OV (.bool (decide (a1 < a0))) rfl (x_gtr rfl rfl) ?_
 refine OW.nil ?_
 refine CW.condM (t := decide (a1 < a0)) rfl hm (fun hb2 hm => ?_) (fun hb2 hm => ?_)
 · refine CSR ?_
   refine OV (.int .i64 1) rfl (x_assign) ?_
   refine OW.nil ?_
   refine CW.ret ?_
   obtain rfl := Option.some.inj hm
   exact RR1 rfl rfl ⟨rfl, hL.fresh 0 rfl [] (by decide) (by decide) rfl⟩
 refine CW.skip ?_
 refine CSR ?_
 refine OV (.int .i64 0) rfl (x_assign) ?_
 refine OW.nil ?_
 refine CW.ret ?_
 obtain rfl := Option.some.inj hm
 exact RR1 rfl rfl ⟨rfl, hL.fresh 0 rfl [] (by decide) (by decide) rfl⟩

theorem M.spec_l28Compare_ok (w0 : World) (a0 : Table) {v1 : Value} {v3 : Value} (h2 : rdL (· < w0.heap.size) w0 v1 a0.Points) (h4 : rdL (· < w0.heap.size) w0 v3 a0.Codes) (a1 : List Int) {v5 : Value} (h6 : rdL (· < w0.heap.size) w0 v5 a1) (a2 : Int) (a3 : Int) {r : Int × Int × Int} (hm : M.spec_l28Compare a0 a1 a2 a3 = some r) :
    Calls Tryz.prog 67 #[(.agg #[(.int .i64 a0.Boats), v1, v3]), v5, (.int .i64 a2), (.int .i64 a3)] w0 fun e w' => e = .returned (.tuple #[(.int .i64 r.1), (.int .i64 r.2.1), (.int .i64 r.2.2)]) ∧ Fresh w0 w' [] := by
 unfold M.spec_l28Compare at hm
 refine calls_CW (args := [(.agg #[(.int .i64 a0.Boats), v1, v3]), v5, (.int .i64 a2), (.int .i64 a3)]) Tryz.func67 rfl rfl rfl ?_
 have hL := Hp.start w0
 refine CSR ?_
 refine OW.cons (S_box (cs := #[(.int .i64 a0.Boats), v1, v3]) hL rfl rfl rfl ?_)
 intro wd7 b8 hL
 refine OV (.int .i64 0) rfl (x_assign) ?_
 refine OV (.int .i64 0) rfl (x_assign) ?_
 refine OV (.int .i64 0) rfl (x_assign) ?_
 refine ONR ?_
 refine OV (.agg #[(.int .i64 a0.Boats), v1, v3]) rfl (x_loadN (cs := [(.int .i64 a0.Boats), v1, v3]) U26 Tryz_T26 rfl rfl (hL.cellsB 0 rfl (o := 0) (l := [(.int .i64 a0.Boats), v1, v3]) (by intro j u hj; exact (by simpa using hj)))) ?_
 refine OV v5 rfl (x_move) ?_
 refine OV (.int .i64 a2) rfl (x_move) ?_
 obtain ⟨x9, hx10, hm⟩ := bndE hm
 refine OW.cons (OP.call rfl (x_call (vs := [(.agg #[(.int .i64 a0.Boats), v1, v3]), v5, (.int .i64 a2)]) Tryz_C34 ⟨rfl, rfl, rfl, trivial⟩) (M.spec_l27Counted_ok _ a0 (hL.rdS 1 rfl h2) (hL.rdS 1 rfl h4) a1 (hL.rdS 1 rfl h6) a2 hx10) ?_)
 rintro e13 wd14 ⟨v12, S11, rfl, hF15⟩
 refine ⟨_, rfl, ?_⟩
 have hL := hL.pushAll hF15
 simp only [lA, lB, lC, lD] at hL
 obtain ⟨x16, hx17, hm⟩ := bndE hm
 refine OW.cons (OP.call rfl (x_call (vs := [v12]) Tryz_C100 ⟨rfl, trivial⟩) (M.spec_l28Sorted_ok _ x9 (hL.rdO 0 rfl) hx17) ?_)
 rintro e20 wd21 ⟨v19, S18, rfl, hF22⟩
 refine ⟨_, rfl, ?_⟩
 have hL := hL.pushAll hF22
 simp only [lA, lB, lC, lD] at hL
 refine OV v19 rfl (x_assign) ?_
 refine ONR ?_
 refine OV (.agg #[(.int .i64 a0.Boats), v1, v3]) rfl (x_loadN (cs := [(.int .i64 a0.Boats), v1, v3]) U26 Tryz_T26 rfl rfl (hL.cellsB 2 rfl (o := 0) (l := [(.int .i64 a0.Boats), v1, v3]) (by intro j u hj; exact (by simpa using hj)))) ?_
 refine OV v5 rfl (x_move) ?_
 refine OV (.int .i64 a3) rfl (x_move) ?_
 obtain ⟨x23, hx24, hm⟩ := bndE hm
 refine OW.cons (OP.call rfl (x_call (vs := [(.agg #[(.int .i64 a0.Boats), v1, v3]), v5, (.int .i64 a3)]) Tryz_C34 ⟨rfl, rfl, rfl, trivial⟩) (M.spec_l27Counted_ok _ a0 (hL.rdS 3 rfl h2) (hL.rdS 3 rfl h4) a1 (hL.rdS 3 rfl h6) a3 hx24) ?_)
 rintro e27 wd28 ⟨v26, S25, rfl, hF29⟩
 refine ⟨_, rfl, ?_⟩
 have hL := hL.pushAll hF29
 simp only [lA, lB, lC, lD] at hL
 obtain ⟨x30, hx31, hm⟩ := bndE hm
 refine OW.cons (OP.call rfl (x_call (vs := [v26]) Tryz_C100 ⟨rfl, trivial⟩) (M.spec_l28Sorted_ok _ x23 (hL.rdO 0 rfl) hx31) ?_)
 rintro e34 wd35 ⟨v33, S32, rfl, hF36⟩
 refine ⟨_, rfl, ?_⟩
 have hL := hL.pushAll hF36
 simp only [lA, lB, lC, lD] at hL
 refine OV v33 rfl (x_assign) ?_
 refine ONS ?_
 refine CSR ?_
 refine OV v19 rfl (x_move) ?_
 obtain ⟨x37, hx38, hm⟩ := bndE hm
 refine OW.cons (OP.call rfl (x_call (vs := [v19]) Tryz_C33 ⟨rfl, trivial⟩) (M.spec_l27Sum_ok _ x16 (hL.rdO 2 rfl) hx38) ?_)
 rintro e39 wd40 ⟨rfl, hF41⟩
 refine ⟨_, rfl, ?_⟩
 have hL := hL.pushAll hF41
 simp only [lA, lB, lC, lD] at hL
 refine OV v33 rfl (x_move) ?_
 obtain ⟨x42, hx43, hm⟩ := bndE hm
 refine OW.cons (OP.call rfl (x_call (vs := [v33]) Tryz_C33 ⟨rfl, trivial⟩) (M.spec_l27Sum_ok _ x30 (hL.rdO 0 rfl) hx43) ?_)
 rintro e44 wd45 ⟨rfl, hF46⟩
 refine ⟨_, rfl, ?_⟩
 have hL := hL.pushAll hF46
 simp only [lA, lB, lC, lD] at hL
 refine OV (.bool (x37 != x42)) rfl (x_neq rfl rfl) ?_
 refine OW.nil ?_
 refine CW.condM (t := x37 != x42) rfl hm (fun hb47 hm => ?_) (fun hb47 hm => ?_)
 · refine CSR ?_
   refine OV v19 rfl (x_move) ?_
   obtain ⟨x48, hx49, hm⟩ := bndE hm
   refine OW.cons (OP.call rfl (x_call (vs := [v19]) Tryz_C33 ⟨rfl, trivial⟩) (M.spec_l27Sum_ok _ x16 (hL.rdO 2 rfl) hx49) ?_)
   rintro e50 wd51 ⟨rfl, hF52⟩
   refine ⟨_, rfl, ?_⟩
   have hL := hL.pushAll hF52
   simp only [lA, lB, lC, lD] at hL
   refine OV v33 rfl (x_move) ?_
   obtain ⟨x53, hx54, hm⟩ := bndE hm
   refine OW.cons (OP.call rfl (x_call (vs := [v33]) Tryz_C33 ⟨rfl, trivial⟩) (M.spec_l27Sum_ok _ x30 (hL.rdO 0 rfl) hx54) ?_)
   rintro e55 wd56 ⟨rfl, hF57⟩
   refine ⟨_, rfl, ?_⟩
   have hL := hL.pushAll hF57
   simp only [lA, lB, lC, lD] at hL
   obtain ⟨x58, hx59, hm⟩ := bndE hm
   refine OW.cons (OP.call rfl (x_call (vs := [(.int .i64 x48), (.int .i64 x53)]) Tryz_C101 ⟨rfl, rfl, trivial⟩) (M.spec_l28Sign_ok _ x48 x53 hx59) ?_)
   rintro e60 wd61 ⟨rfl, hF62⟩
   refine ⟨_, rfl, ?_⟩
   have hL := hL.pushAll hF62
   simp only [lA, lB, lC, lD] at hL
   refine OV (.int .i64 x58) rfl (x_assign) ?_
   refine OV (.int .i64 1) rfl (x_assign) ?_
   refine OV (.int .i64 0) rfl (x_assign) ?_
   refine OW.nil ?_
   refine CW.ret ?_
   obtain rfl := Option.some.inj hm
   exact RR3 rfl rfl rfl rfl ⟨rfl, hL.fresh 5 rfl [] (by decide) (by decide) rfl⟩
 refine CW.skip ?_
 refine CW.seq ?_
 refine CSR ?_
 refine OV (.int .i64 0) rfl (x_assign) ?_
 refine OW.nil ?_
 obtain ⟨o155, ho156, hm⟩ := bndE hm
 have hL := hL.sel [0, 2, 4, 5] (by decide) rfl
 refine CW.loopB (fun (s_l1 : Int) (F : Fr) (w : World) => F 2 = (.int .i64 a2) ∧ F 3 = (.int .i64 a3) ∧ F 4 = (.pointer (some ⟨b8, 0, none⟩)) ∧ F 11 = v19 ∧ F 12 = v33 ∧ F 13 = (.int .i64 s_l1) ∧ Hp w0 [Ent.own 2 S32 v33 x30, Ent.own 2 S18 v19 x16, Ent.blk b8 26 #[(.int .i64 a0.Boats), v1, v3], Ent.snap w0 w0.heap.size] w) (fun o => outc o (fun x => some x) (fun s => M.spec_l28Compare_a1 a0 a2 a3 s) = some r) ho156 hm ⟨rfl, rfl, rfl, rfl, rfl, rfl, hL⟩ ?_ ?_
 · intro s_l1 F157 wd158 hJ hm
   have hm := outcE hm
   have hm : M.spec_l28Compare_a1 a0 a2 a3 s_l1 = some r := hm
   unfold M.spec_l28Compare_a1 at hm
   obtain ⟨f159, f160, f161, f162, f163, f164, hL⟩ := hJ
   refine CW.seq ?_
   refine CSR ?_
   refine OV (.pointer (some ⟨b8, 1, none⟩)) rfl (x_fieldAddr (fsz := 1) 0 1 1 U26 rfl Tryz_T24 rfl f161 rfl) ?_
   refine OV v1 rfl (x_load1 U24 rfl rfl (hL.cellB 2 rfl rfl)) ?_
   refine OV (.int .i64 (a0.Points.length : Int)) rfl (x_lenR U24 rfl (hL.rdS 3 rfl h2)) ?_
   refine OV (.int .i64 (w64 ((a0.Points.length : Int) - 1))) rfl (x_sub rfl rfl) ?_
   refine OV (.int .i64 (w64 ((a0.Points.length : Int) - 1))) rfl (x_assign) ?_
   refine OW.nil ?_
   obtain ⟨o323, ho324, hm⟩ := bndE hm
   have hL := hL.sel [2, 3] (by decide) rfl
   refine CW.loopB (fun (s_l2 : Int) (F : Fr) (w : World) => F 2 = (.int .i64 a2) ∧ F 3 = (.int .i64 a3) ∧ F 4 = (.pointer (some ⟨b8, 0, none⟩)) ∧ F 14 = (.int .i64 s_l2) ∧ Hp w0 [Ent.blk b8 26 #[(.int .i64 a0.Boats), v1, v3], Ent.snap w0 w0.heap.size] w) (fun o => outc o (fun x => some x) (fun s => M.spec_l28Compare_a2 s) = some r) ho324 hm ⟨f159, f160, f161, rfl, hL⟩ ?_ ?_
   · intro s_l2 F325 wd326 hJ hm
     have hm := outcE hm
     have hm : M.spec_l28Compare_a2 s_l2 = some r := hm
     unfold M.spec_l28Compare_a2 at hm
     obtain ⟨f327, f328, f329, f330, hL⟩ := hJ
     refine CSR ?_
     refine OV (.int .i64 0) rfl (x_assign) ?_
     refine OV (.int .i64 0) rfl (x_assign) ?_
     refine OV (.int .i64 0) rfl (x_assign) ?_
     refine OW.nil ?_
     refine CW.ret ?_
     obtain rfl := Option.some.inj hm
     exact RR3 rfl rfl rfl rfl ⟨rfl, hL.fresh 1 rfl [] (by decide) (by decide) rfl⟩
   intro s_l2 F331 wd332 t321 hJ hm hr322
   unfold M.spec_l28Compare_l2 at hm
   obtain ⟨f333, f334, f335, f336, hL⟩ := hJ
   refine CW.seq ?_
   refine CSR ?_
   refine OV (.int .i64 s_l2) rfl (x_mv f336) ?_
   refine OV (.bool (decide (0 ≤ s_l2))) rfl (x_geq rfl rfl) ?_
   refine OW.nil ?_
   refine CW.condM (t := decide (0 ≤ s_l2)) rfl hm (fun hb337 hm => ?_) (fun hb337 hm => ?_)
   · refine CW.skip ?_
     refine CW.seq ?_
     refine CW.block ?_
     refine CW.seq ?_
     refine CW.draw Tryz_mixed ?_
     have hL := hL.call (Mod.drew _)
     refine DW.pre (fuel := 0) (fin := bma 17 131071) (C := fun w' => Mod None_ _ w') [0, 1, 2, 3, 4, 5, 6, 7, 8, 9, 10, 11, 12, 13, 14, 15, 16] (Mod.refl _ _) (by kernel_rfl) (by kernel_rfl) ?_
     refine QW.cons rfl (QP.val (v := (.pointer (some ⟨b8, 1, none⟩))) rfl (fun w' hm' => x_fieldAddr (fsz := 1) 0 1 1 U26 rfl Tryz_T24 rfl f335 rfl) ?_)
     refine QW.cons rfl (QP.val (v := v1) rfl (fun w' hm' => x_load1 U24 rfl rfl ((hL.call hm').cellB 0 rfl rfl)) ?_)
     refine QW.cons rfl (QP.val (v := (.int .i64 s_l2)) rfl (fun w' hm' => x_mv f336) ?_)
     obtain ⟨x338, ha339, hm⟩ := bndE hm
     obtain ⟨hz340, ha348⟩ := idxE ha339
     obtain ⟨b341, q342, v343, hix344, hs345, hc346, hr347⟩ := rdN_at h2 hz340 ha348
     refine QW.cons rfl (QP.val (v := (.pointer (some ⟨b341, q342, none⟩))) rfl (fun w' hm' => x_ix U24 Tryz_T27 rfl rfl hix344) ?_)
     refine QW.cons rfl (QP.val (v := v343) rfl (fun w' hm' => x_load1 U27 rfl rfl ((hL.call hm').cellS 1 rfl hs345 hc346)) ?_)
     refine QW.cons rfl (QP.val (v := (.int .i64 a2)) rfl (fun w' hm' => x_mv f333) ?_)
     obtain ⟨x349, ha350, hm⟩ := bndE hm
     obtain ⟨hz351, ha355⟩ := idxE ha350
     obtain ⟨b352, q353, hix354⟩ := rdL_ix (hL.rdS 1 rfl hr347) hz351 ha355
     refine QW.cons rfl (QP.val (v := (.pointer (some ⟨b352, q353, none⟩))) rfl (fun w' hm' => x_ix U27 Tryz_T2 rfl rfl hix354) ?_)
     refine QW.cons rfl (QP.val (v := (.int .i64 x349)) rfl (fun w' hm' => x_load1 U2 rfl rfl (rdF_cells ((hL.call hm').rdS 1 rfl hr347) hix354 ha355 0 _ rfl)) ?_)
     refine QW.cons rfl (QP.val (v := (.pointer (some ⟨b8, 1, none⟩))) rfl (fun w' hm' => x_fieldAddr (fsz := 1) 0 1 1 U26 rfl Tryz_T24 rfl f335 rfl) ?_)
     refine QW.cons rfl (QP.val (v := v1) rfl (fun w' hm' => x_load1 U24 rfl rfl ((hL.call hm').cellB 0 rfl rfl)) ?_)
     refine QW.cons rfl (QP.val (v := (.int .i64 s_l2)) rfl (fun w' hm' => x_mv f336) ?_)
     obtain ⟨x356, ha357, hm⟩ := bndE hm
     obtain ⟨hz358, ha366⟩ := idxE ha357
     obtain ⟨b359, q360, v361, hix362, hs363, hc364, hr365⟩ := rdN_at h2 hz358 ha366
     refine QW.cons rfl (QP.val (v := (.pointer (some ⟨b359, q360, none⟩))) rfl (fun w' hm' => x_ix U24 Tryz_T27 rfl rfl hix362) ?_)
     refine QW.cons rfl (QP.val (v := v361) rfl (fun w' hm' => x_load1 U27 rfl rfl ((hL.call hm').cellS 1 rfl hs363 hc364)) ?_)
     refine QW.cons rfl (QP.val (v := (.int .i64 a3)) rfl (fun w' hm' => x_mv f334) ?_)
     obtain ⟨x367, ha368, hm⟩ := bndE hm
     obtain ⟨hz369, ha373⟩ := idxE ha368
     obtain ⟨b370, q371, hix372⟩ := rdL_ix (hL.rdS 1 rfl hr365) hz369 ha373
     refine QW.cons rfl (QP.val (v := (.pointer (some ⟨b370, q371, none⟩))) rfl (fun w' hm' => x_ix U27 Tryz_T2 rfl rfl hix372) ?_)
     refine QW.cons rfl (QP.val (v := (.int .i64 x367)) rfl (fun w' hm' => x_load1 U2 rfl rfl (rdF_cells ((hL.call hm').rdS 1 rfl hr365) hix372 ha373 0 _ rfl)) ?_)
     refine QW.cons rfl (QP.val (v := (.bool (x349 != x367))) rfl (fun w' hm' => x_neq rfl rfl) ?_)
     refine QW.nil ?_
     intro wd374 hmod
     have hL := hL.call hmod
     refine DW.done (by kernel_rfl) ?_
     refine CW.condM (t := x349 != x367) rfl hm (fun hb375 hm => ?_) (fun hb375 hm => ?_)
     · refine CW.seq ?_
       refine CW.draw Tryz_mixed ?_
       have hL := hL.call (Mod.drew _)
       refine DW.pre (fuel := 0) (fin := bma 21 2097151) (C := fun w' => Mod None_ _ w') [0, 1, 2, 3, 4, 5, 6, 7, 8, 9, 10, 11, 12, 13, 14, 15, 16, 17, 18, 19, 20] (Mod.refl _ _) (by kernel_rfl) (by kernel_rfl) ?_
       refine QW.cons rfl (QP.val (v := (.pointer (some ⟨b8, 1, none⟩))) rfl (fun w' hm' => x_fieldAddr (fsz := 1) 0 1 1 U26 rfl Tryz_T24 rfl f335 rfl) ?_)
       refine QW.cons rfl (QP.val (v := v1) rfl (fun w' hm' => x_load1 U24 rfl rfl ((hL.call hm').cellB 0 rfl rfl)) ?_)
       refine QW.cons rfl (QP.val (v := (.int .i64 s_l2)) rfl (fun w' hm' => x_mv f336) ?_)
       obtain ⟨x376, ha377, hm⟩ := bndE hm
       obtain ⟨hz378, ha386⟩ := idxE ha377
       obtain ⟨b379, q380, v381, hix382, hs383, hc384, hr385⟩ := rdN_at h2 hz378 ha386
       refine QW.cons rfl (QP.val (v := (.pointer (some ⟨b379, q380, none⟩))) rfl (fun w' hm' => x_ix U24 Tryz_T27 rfl rfl hix382) ?_)
       refine QW.cons rfl (QP.val (v := v381) rfl (fun w' hm' => x_load1 U27 rfl rfl ((hL.call hm').cellS 1 rfl hs383 hc384)) ?_)
       refine QW.cons rfl (QP.val (v := (.int .i64 a2)) rfl (fun w' hm' => x_mv f333) ?_)
       obtain ⟨x387, ha388, hm⟩ := bndE hm
       obtain ⟨hz389, ha393⟩ := idxE ha388
       obtain ⟨b390, q391, hix392⟩ := rdL_ix (hL.rdS 1 rfl hr385) hz389 ha393
       refine QW.cons rfl (QP.val (v := (.pointer (some ⟨b390, q391, none⟩))) rfl (fun w' hm' => x_ix U27 Tryz_T2 rfl rfl hix392) ?_)
       refine QW.cons rfl (QP.val (v := (.int .i64 x387)) rfl (fun w' hm' => x_load1 U2 rfl rfl (rdF_cells ((hL.call hm').rdS 1 rfl hr385) hix392 ha393 0 _ rfl)) ?_)
       refine QW.cons rfl (QP.val (v := (.pointer (some ⟨b8, 1, none⟩))) rfl (fun w' hm' => x_fieldAddr (fsz := 1) 0 1 1 U26 rfl Tryz_T24 rfl f335 rfl) ?_)
       refine QW.cons rfl (QP.val (v := v1) rfl (fun w' hm' => x_load1 U24 rfl rfl ((hL.call hm').cellB 0 rfl rfl)) ?_)
       refine QW.cons rfl (QP.val (v := (.int .i64 s_l2)) rfl (fun w' hm' => x_mv f336) ?_)
       obtain ⟨x394, ha395, hm⟩ := bndE hm
       obtain ⟨hz396, ha404⟩ := idxE ha395
       obtain ⟨b397, q398, v399, hix400, hs401, hc402, hr403⟩ := rdN_at h2 hz396 ha404
       refine QW.cons rfl (QP.val (v := (.pointer (some ⟨b397, q398, none⟩))) rfl (fun w' hm' => x_ix U24 Tryz_T27 rfl rfl hix400) ?_)
       refine QW.cons rfl (QP.val (v := v399) rfl (fun w' hm' => x_load1 U27 rfl rfl ((hL.call hm').cellS 1 rfl hs401 hc402)) ?_)
       refine QW.cons rfl (QP.val (v := (.int .i64 a3)) rfl (fun w' hm' => x_mv f334) ?_)
       obtain ⟨x405, ha406, hm⟩ := bndE hm
       obtain ⟨hz407, ha411⟩ := idxE ha406
       obtain ⟨b408, q409, hix410⟩ := rdL_ix (hL.rdS 1 rfl hr403) hz407 ha411
       refine QW.cons rfl (QP.val (v := (.pointer (some ⟨b408, q409, none⟩))) rfl (fun w' hm' => x_ix U27 Tryz_T2 rfl rfl hix410) ?_)
       refine QW.cons rfl (QP.val (v := (.int .i64 x405)) rfl (fun w' hm' => x_load1 U2 rfl rfl (rdF_cells ((hL.call hm').rdS 1 rfl hr403) hix410 ha411 0 _ rfl)) ?_)
       obtain ⟨x412, hx413, hm⟩ := bndE hm
       refine QW.cons rfl (QP.call (v := (.int .i64 x412)) rfl (fun w' hm' => x_call (vs := [(.int .i64 x387), (.int .i64 x405)]) Tryz_C101 ⟨rfl, rfl, trivial⟩) (fun w' hm' => (M.spec_l28Sign_ok w' x387 x405 hx413).mono (fun e w'' h => ⟨h.1, hm'.trans h.2.mod⟩)) ?_)
       refine QW.cons rfl (QP.val (v := (.int .i64 s_l2)) rfl (fun w' hm' => x_mv f336) ?_)
       refine QW.cons rfl (QP.val (v := (.int .i64 x412)) rfl (fun w' hm' => x_assign) ?_)
       refine QW.cons rfl (QP.val (v := (.int .i64 3)) rfl (fun w' hm' => x_assign) ?_)
       refine QW.cons rfl (QP.val (v := (.int .i64 s_l2)) rfl (fun w' hm' => x_assign) ?_)
       refine QW.nil ?_
       intro wd414 hmod
       have hL := hL.call hmod
       refine DW.done (by kernel_rfl) ?_
       refine CW.ret ?_
       obtain rfl := Option.some.inj hm
       have hm := hr322 _ rfl
       obtain rfl := Option.some.inj hm
       exact RR3 rfl rfl rfl rfl ⟨rfl, hL.fresh 1 rfl [] (by decide) (by decide) rfl⟩
     refine CW.skip ?_
     refine CW.regionL ?_
     refine OV (.int .i64 s_l2) rfl (x_mv f336) ?_
     refine OV (.int .i64 (w64 (s_l2 - 1))) rfl (x_sub rfl rfl) ?_
     refine OV (.int .i64 (w64 (s_l2 - 1))) rfl (x_assign) ?_
     refine OW.nil ?_
     obtain rfl := Option.some.inj hm
     exact ⟨_, rfl, ⟨f333, f334, f335, rfl, hL⟩⟩
   refine CW.exit ?_
   refine XJ.hit ?_
   obtain rfl := Option.some.inj hm
   exact ⟨_, rfl, ⟨f333, f334, f335, f336, hL⟩⟩
 intro s_l1 F415 wd416 t153 hJ hm hr154
 unfold M.spec_l28Compare_l1 at hm
 obtain ⟨f417, f418, f419, f420, f421, f422, hL⟩ := hJ
 refine CW.seq ?_
 refine CW.seqJ (fun (s_j1 : Bool) (F : Fr) (w : World) => F 2 = (.int .i64 a2) ∧ F 3 = (.int .i64 a3) ∧ F 4 = (.pointer (some ⟨b8, 0, none⟩)) ∧ F 11 = v19 ∧ F 12 = v33 ∧ F 13 = (.int .i64 s_l1) ∧ F 44 = (.bool s_j1) ∧ Hp w0 [Ent.own 2 S32 v33 x30, Ent.own 2 S18 v19 x16, Ent.blk b8 26 #[(.int .i64 a0.Boats), v1, v3], Ent.snap w0 w0.heap.size] w) (fun s_j1 => M.spec_l28Compare_j1 x16 x30 s_l1 s_j1 = some t153) ?_ ?_
 · refine CW.regionL ?_
   refine OV (.int .i64 s_l1) rfl (x_mv f422) ?_
   refine OV v19 rfl (x_mv f420) ?_
   refine OV (.int .i64 (x16.length : Int)) rfl (x_lenR U27 rfl (hL.rdO 1 rfl)) ?_
   refine OV (.bool (decide (s_l1 < (x16.length : Int)))) rfl (x_lss rfl rfl) ?_
   refine OV (.bool (decide (s_l1 < (x16.length : Int)))) rfl (x_move) ?_
   refine ifB_elim hm (fun hb467 hm => ?_) (fun hb467 hm => ?_)
   · refine OW.cons (OP.yes' rfl rfl hb467 (OP.val (v := (.int .i64 s_l1)) rfl (x_mv f422) ?_))
     refine OW.cons (OP.yes' rfl rfl hb467 (OP.val (v := v33) rfl (x_mv f421) ?_))
     refine OW.cons (OP.yes' rfl rfl hb467 (OP.val (v := (.int .i64 (x30.length : Int))) rfl (x_lenR U27 rfl (hL.rdO 0 rfl)) ?_))
     refine OW.cons (OP.yes' rfl rfl hb467 (OP.val (v := (.bool (decide (s_l1 < (x30.length : Int))))) rfl (x_lss rfl rfl) ?_))
     refine OV (.bool (decide (s_l1 < (x30.length : Int)))) rfl (x_pickT' rfl hb467 rfl) ?_
     refine OW.nil ?_
     exact ⟨decide (s_l1 < (x30.length : Int)), hm, ⟨f417, f418, f419, f420, f421, f422, rfl, hL⟩⟩
   refine OW.cons (OP.no' rfl rfl hb467 rfl ?_)
   refine OW.cons (OP.no' rfl rfl hb467 rfl ?_)
   refine OW.cons (OP.no' rfl rfl hb467 rfl ?_)
   refine OW.cons (OP.no' rfl rfl hb467 rfl ?_)
   refine OV (.bool false) rfl (x_pickF' rfl hb467 rfl) ?_
   refine OW.nil ?_
   exact ⟨false, hm, ⟨f417, f418, f419, f420, f421, f422, rfl, hL⟩⟩
 intro s_j1 F424 wd425 hJ hm
 unfold M.spec_l28Compare_j1 at hm
 obtain ⟨f426, f427, f428, f429, f430, f431, f432, hL⟩ := hJ
 refine CW.condM (t := s_j1) f432 hm (fun hb433 hm => ?_) (fun hb433 hm => ?_)
 · refine CW.skip ?_
   refine CW.seq ?_
   refine CW.block ?_
   refine CW.seq ?_
   refine CW.draw Tryz_mixed ?_
   have hL := hL.call (Mod.drew _)
   refine DW.pre (fuel := 0) (fin := bma 9 511) (C := fun w' => Mod None_ _ w') [0, 1, 2, 3, 4, 5, 6, 7, 8] (Mod.refl _ _) (by kernel_rfl) (by kernel_rfl) ?_
   refine QW.cons rfl (QP.val (v := v19) rfl (fun w' hm' => x_mv f429) ?_)
   refine QW.cons rfl (QP.val (v := (.int .i64 s_l1)) rfl (fun w' hm' => x_mv f431) ?_)
   obtain ⟨x434, ha435, hm⟩ := bndE hm
   obtain ⟨hz436, ha440⟩ := idxE ha435
   obtain ⟨b437, q438, hix439⟩ := rdL_ix (hL.rdO 1 rfl) hz436 ha440
   refine QW.cons rfl (QP.val (v := (.pointer (some ⟨b437, q438, none⟩))) rfl (fun w' hm' => x_ix U27 Tryz_T2 rfl rfl hix439) ?_)
   refine QW.cons rfl (QP.val (v := (.int .i64 x434)) rfl (fun w' hm' => x_load1 U2 rfl rfl (rdF_cells ((hL.call hm').rdO 1 rfl) hix439 ha440 0 _ rfl)) ?_)
   refine QW.cons rfl (QP.val (v := v33) rfl (fun w' hm' => x_mv f430) ?_)
   refine QW.cons rfl (QP.val (v := (.int .i64 s_l1)) rfl (fun w' hm' => x_mv f431) ?_)
   obtain ⟨x441, ha442, hm⟩ := bndE hm
   obtain ⟨hz443, ha447⟩ := idxE ha442
   obtain ⟨b444, q445, hix446⟩ := rdL_ix (hL.rdO 0 rfl) hz443 ha447
   refine QW.cons rfl (QP.val (v := (.pointer (some ⟨b444, q445, none⟩))) rfl (fun w' hm' => x_ix U27 Tryz_T2 rfl rfl hix446) ?_)
   refine QW.cons rfl (QP.val (v := (.int .i64 x441)) rfl (fun w' hm' => x_load1 U2 rfl rfl (rdF_cells ((hL.call hm').rdO 0 rfl) hix446 ha447 0 _ rfl)) ?_)
   refine QW.cons rfl (QP.val (v := (.bool (x434 != x441))) rfl (fun w' hm' => x_neq rfl rfl) ?_)
   refine QW.nil ?_
   intro wd448 hmod
   have hL := hL.call hmod
   refine DW.done (by kernel_rfl) ?_
   refine CW.condM (t := x434 != x441) rfl hm (fun hb449 hm => ?_) (fun hb449 hm => ?_)
   · refine CW.seq ?_
     refine CW.draw Tryz_mixed ?_
     have hL := hL.call (Mod.drew _)
     refine DW.pre (fuel := 0) (fin := bma 12 4095) (C := fun w' => Mod None_ _ w') [0, 1, 2, 3, 4, 5, 6, 7, 8, 9, 10, 11] (Mod.refl _ _) (by kernel_rfl) (by kernel_rfl) ?_
     refine QW.cons rfl (QP.val (v := v19) rfl (fun w' hm' => x_mv f429) ?_)
     refine QW.cons rfl (QP.val (v := (.int .i64 s_l1)) rfl (fun w' hm' => x_mv f431) ?_)
     obtain ⟨x450, ha451, hm⟩ := bndE hm
     obtain ⟨hz452, ha456⟩ := idxE ha451
     obtain ⟨b453, q454, hix455⟩ := rdL_ix (hL.rdO 1 rfl) hz452 ha456
     refine QW.cons rfl (QP.val (v := (.pointer (some ⟨b453, q454, none⟩))) rfl (fun w' hm' => x_ix U27 Tryz_T2 rfl rfl hix455) ?_)
     refine QW.cons rfl (QP.val (v := (.int .i64 x450)) rfl (fun w' hm' => x_load1 U2 rfl rfl (rdF_cells ((hL.call hm').rdO 1 rfl) hix455 ha456 0 _ rfl)) ?_)
     refine QW.cons rfl (QP.val (v := v33) rfl (fun w' hm' => x_mv f430) ?_)
     refine QW.cons rfl (QP.val (v := (.int .i64 s_l1)) rfl (fun w' hm' => x_mv f431) ?_)
     obtain ⟨x457, ha458, hm⟩ := bndE hm
     obtain ⟨hz459, ha463⟩ := idxE ha458
     obtain ⟨b460, q461, hix462⟩ := rdL_ix (hL.rdO 0 rfl) hz459 ha463
     refine QW.cons rfl (QP.val (v := (.pointer (some ⟨b460, q461, none⟩))) rfl (fun w' hm' => x_ix U27 Tryz_T2 rfl rfl hix462) ?_)
     refine QW.cons rfl (QP.val (v := (.int .i64 x457)) rfl (fun w' hm' => x_load1 U2 rfl rfl (rdF_cells ((hL.call hm').rdO 0 rfl) hix462 ha463 0 _ rfl)) ?_)
     obtain ⟨x464, hx465, hm⟩ := bndE hm
     refine QW.cons rfl (QP.call (v := (.int .i64 x464)) rfl (fun w' hm' => x_call (vs := [(.int .i64 x450), (.int .i64 x457)]) Tryz_C101 ⟨rfl, rfl, trivial⟩) (fun w' hm' => (M.spec_l28Sign_ok w' x450 x457 hx465).mono (fun e w'' h => ⟨h.1, hm'.trans h.2.mod⟩)) ?_)
     refine QW.cons rfl (QP.val (v := (.int .i64 x464)) rfl (fun w' hm' => x_assign) ?_)
     refine QW.cons rfl (QP.val (v := (.int .i64 2)) rfl (fun w' hm' => x_assign) ?_)
     refine QW.cons rfl (QP.val (v := (.int .i64 0)) rfl (fun w' hm' => x_assign) ?_)
     refine QW.nil ?_
     intro wd466 hmod
     have hL := hL.call hmod
     refine DW.done (by kernel_rfl) ?_
     refine CW.ret ?_
     obtain rfl := Option.some.inj hm
     have hm := hr154 _ rfl
     obtain rfl := Option.some.inj hm
     exact RR3 rfl rfl rfl rfl ⟨rfl, hL.fresh 3 rfl [] (by decide) (by decide) rfl⟩
   refine CW.skip ?_
   refine CW.regionL ?_
   refine OV (.int .i64 s_l1) rfl (x_mv f431) ?_
   refine OV (.int .i64 (w64 (s_l1 + 1))) rfl (x_add rfl rfl) ?_
   refine OV (.int .i64 (w64 (s_l1 + 1))) rfl (x_assign) ?_
   refine OW.nil ?_
   obtain rfl := Option.some.inj hm
   exact ⟨_, rfl, ⟨f426, f427, f428, f429, f430, rfl, hL⟩⟩
 refine CW.exit ?_
 refine XJ.hit ?_
 obtain rfl := Option.some.inj hm
 exact ⟨_, rfl, ⟨f426, f427, f428, f429, f430, f431, hL⟩⟩

theorem M.spec_l28Rank_ok (w0 : World) (a0 : Table) {v1 : Value} {v3 : Value} (h2 : rdL (· < w0.heap.size) w0 v1 a0.Points) (h4 : rdL (· < w0.heap.size) w0 v3 a0.Codes) (a1 : List Int) {v5 : Value} (h6 : rdL (· < w0.heap.size) w0 v5 a1) (a2 : Int) {r : Int} (hm : M.spec_l28Rank a0 a1 a2 = some r) :
    Calls Tryz.prog 32 #[(.agg #[(.int .i64 a0.Boats), v1, v3]), v5, (.int .i64 a2)] w0 fun e w' => e = .returned (.int .i64 r) ∧ Fresh w0 w' [] := by
 unfold M.spec_l28Rank at hm
 refine calls_CW (args := [(.agg #[(.int .i64 a0.Boats), v1, v3]), v5, (.int .i64 a2)]) Tryz.func32 rfl rfl rfl ?_
 have hL := Hp.start w0
 refine CSR ?_
 refine OW.cons (S_box (cs := #[(.int .i64 a0.Boats), v1, v3]) hL rfl rfl rfl ?_)
 intro wd7 b8 hL
 refine OV (.int .i64 0) rfl (x_assign) ?_
 refine ONR ?_
 refine OV (.int .i64 1) rfl (x_assign) ?_
 refine ONS ?_
 refine CSR ?_
 refine OV (.int .i64 0) rfl (x_assign) ?_
 refine OW.nil ?_
 obtain ⟨o103, ho104, hm⟩ := bndE hm
 refine CW.loopB (fun (s_l1 : Int × Int) (F : Fr) (w : World) => F 1 = v5 ∧ F 2 = (.int .i64 a2) ∧ F 3 = (.pointer (some ⟨b8, 0, none⟩)) ∧ F 7 = (.int .i64 s_l1.1) ∧ F 8 = (.int .i64 s_l1.2) ∧ Hp w0 [Ent.blk b8 26 #[(.int .i64 a0.Boats), v1, v3], Ent.snap w0 w0.heap.size] w) (fun o => outc o (fun x => some x) (fun s => M.spec_l28Rank_a1 s) = some r) ho104 hm ⟨rfl, rfl, rfl, rfl, rfl, hL⟩ ?_ ?_
 · intro s_l1 F105 wd106 hJ hm
   have hm := outcE hm
   have hm : M.spec_l28Rank_a1 s_l1 = some r := hm
   unfold M.spec_l28Rank_a1 at hm
   obtain ⟨f107, f108, f109, f110, f111, hL⟩ := hJ
   refine CSR ?_
   refine OV (.int .i64 s_l1.1) rfl (x_mv f110) ?_
   refine OV (.int .i64 s_l1.1) rfl (x_assign) ?_
   refine OW.nil ?_
   refine CW.ret ?_
   obtain rfl := Option.some.inj hm
   exact RR1 rfl rfl ⟨rfl, hL.fresh 1 rfl [] (by decide) (by decide) rfl⟩
 intro s_l1 F112 wd113 t101 hJ hm hr102
 unfold M.spec_l28Rank_l1 at hm
 obtain ⟨f114, f115, f116, f117, f118, hL⟩ := hJ
 refine CW.seq ?_
 refine CSR ?_
 refine OV (.int .i64 s_l1.2) rfl (x_mv f118) ?_
 refine OV (.pointer (some ⟨b8, 0, none⟩)) rfl (x_fieldAddr (fsz := 1) 0 0 0 U26 rfl Tryz_T2 rfl f116 rfl) ?_
 refine OV (.int .i64 a0.Boats) rfl (x_load1 U2 rfl rfl (hL.cellB 0 rfl rfl)) ?_
 refine OV (.bool (decide (s_l1.2 < a0.Boats))) rfl (x_lss rfl rfl) ?_
 refine OW.nil ?_
 refine CW.condM (t := decide (s_l1.2 < a0.Boats)) rfl hm (fun hb119 hm => ?_) (fun hb119 hm => ?_)
 · refine CW.skip ?_
   refine CW.seqJ (fun (s_j1 : Int) (F : Fr) (w : World) => F 1 = v5 ∧ F 2 = (.int .i64 a2) ∧ F 3 = (.pointer (some ⟨b8, 0, none⟩)) ∧ F 7 = (.int .i64 s_j1) ∧ F 8 = (.int .i64 s_l1.2) ∧ Hp w0 [Ent.blk b8 26 #[(.int .i64 a0.Boats), v1, v3], Ent.snap w0 w0.heap.size] w) (fun s_j1 => M.spec_l28Rank_j1 s_l1 s_j1 = some t101) ?_ ?_
   · refine CW.blockJ (fun (s_j2 : Int) (F : Fr) (w : World) => F 1 = v5 ∧ F 2 = (.int .i64 a2) ∧ F 3 = (.pointer (some ⟨b8, 0, none⟩)) ∧ F 7 = (.int .i64 s_j2) ∧ F 8 = (.int .i64 s_l1.2) ∧ Hp w0 [Ent.blk b8 26 #[(.int .i64 a0.Boats), v1, v3], Ent.snap w0 w0.heap.size] w) (fun s_j2 => M.spec_l28Rank_j2 s_l1 s_j2 = some t101) ?_ ?_
     · refine CSR ?_
       refine OV (.agg #[(.int .i64 a0.Boats), v1, v3]) rfl (x_loadN (cs := [(.int .i64 a0.Boats), v1, v3]) U26 Tryz_T26 rfl f116 (hL.cellsB 0 rfl (o := 0) (l := [(.int .i64 a0.Boats), v1, v3]) (by intro j u hj; exact (by simpa using hj)))) ?_
       refine OV v5 rfl (x_mv f114) ?_
       refine OV (.int .i64 s_l1.2) rfl (x_mv f118) ?_
       refine OV (.int .i64 a2) rfl (x_mv f115) ?_
       obtain ⟨x159, hx160, hm⟩ := bndE hm
       refine OW.cons (OP.call rfl (x_call (vs := [(.agg #[(.int .i64 a0.Boats), v1, v3]), v5, (.int .i64 s_l1.2), (.int .i64 a2)]) Tryz_C67 ⟨rfl, rfl, rfl, rfl, trivial⟩) (M.spec_l28Compare_ok _ a0 (hL.rdS 1 rfl h2) (hL.rdS 1 rfl h4) a1 (hL.rdS 1 rfl h6) s_l1.2 a2 hx160) ?_)
       rintro e161 wd162 ⟨rfl, hF163⟩
       refine ⟨_, rfl, ?_⟩
       have hL := hL.pushAll hF163
       simp only [lA, lB, lC, lD] at hL
       refine OV (.tuple #[(.int .i64 x159.1), (.int .i64 x159.2.1), (.int .i64 x159.2.2)]) rfl (x_move) ?_
       refine OV (.int .i64 x159.1) rfl (x_extract rfl rfl) ?_
       refine OV (.int .i64 x159.2.1) rfl (x_extract rfl rfl) ?_
       refine OV (.int .i64 x159.2.2) rfl (x_extract rfl rfl) ?_
       refine OV (.int .i64 x159.1) rfl (x_assign) ?_
       refine OV (.int .i64 x159.2.1) rfl (x_assign) ?_
       refine OV (.int .i64 x159.2.2) rfl (x_assign) ?_
       refine ONR ?_
       refine OV (.int .i64 x159.1) rfl (x_move) ?_
       refine OV (.bool (decide (x159.1 < 0))) rfl (x_lss rfl rfl) ?_
       refine OW.nil ?_
       refine CW.condM (t := decide (x159.1 < 0)) rfl hm (fun hb164 hm => ?_) (fun hb164 hm => ?_)
       · refine CW.regionL ?_
         refine OV (.int .i64 s_l1.1) rfl (x_mv f117) ?_
         refine OV (.int .i64 (w64 (s_l1.1 + 1))) rfl (x_add rfl rfl) ?_
         refine OV (.int .i64 (w64 (s_l1.1 + 1))) rfl (x_assign) ?_
         refine OW.nil ?_
         exact ⟨w64 (s_l1.1 + 1), hm, ⟨f114, f115, f116, rfl, f118, hL⟩⟩
       refine CW.skip ?_
       exact ⟨s_l1.1, hm, ⟨f114, f115, f116, f117, f118, hL⟩⟩
     intro s_j2 F152 wd153 hJ hm
     unfold M.spec_l28Rank_j2 at hm
     obtain ⟨f154, f155, f156, f157, f158, hL⟩ := hJ
     exact ⟨s_j2, hm, ⟨f154, f155, f156, f157, f158, hL⟩⟩
   intro s_j1 F139 wd140 hJ hm
   unfold M.spec_l28Rank_j1 at hm
   obtain ⟨f141, f142, f143, f144, f145, hL⟩ := hJ
   refine CW.regionL ?_
   refine OV (.int .i64 s_l1.2) rfl (x_mv f145) ?_
   refine OV (.int .i64 (w64 (s_l1.2 + 1))) rfl (x_add rfl rfl) ?_
   refine OV (.int .i64 (w64 (s_l1.2 + 1))) rfl (x_assign) ?_
   refine OW.nil ?_
   obtain rfl := Option.some.inj hm
   exact ⟨_, rfl, ⟨f141, f142, f143, f144, rfl, hL⟩⟩
 refine CW.exit ?_
 refine XJ.hit ?_
 obtain rfl := Option.some.inj hm
 exact ⟨_, rfl, ⟨f114, f115, f116, f117, f118, hL⟩⟩

theorem M.spec_l28Standing_ok (w0 : World) (a0 : Table) {v1 : Value} {v3 : Value} (h2 : rdL (· < w0.heap.size) w0 v1 a0.Points) (h4 : rdL (· < w0.heap.size) w0 v3 a0.Codes) (a1 : List Int) {v5 : Value} (h6 : rdL (· < w0.heap.size) w0 v5 a1) {r : (List Int)} (hm : M.spec_l28Standing a0 a1 = some r) :
    Calls Tryz.prog 27 #[(.agg #[(.int .i64 a0.Boats), v1, v3]), v5] w0 fun e w' => ∃ (rv0 : Value) (rS0 : Nat → Prop), e = .returned rv0 ∧ Fresh w0 w' [Ent.own 2 rS0 rv0 r] := by
 unfold M.spec_l28Standing at hm
 refine calls_CW (args := [(.agg #[(.int .i64 a0.Boats), v1, v3]), v5]) Tryz.func27 rfl rfl rfl ?_
 have hL := Hp.start w0
 refine CSR ?_
 refine OW.cons (S_box (cs := #[(.int .i64 a0.Boats), v1, v3]) hL rfl rfl rfl ?_)
 intro wd7 b8 hL
 refine OV (.slice none 0 0) rfl (x_assign) ?_
 refine ONR ?_
 refine OW.cons (S_lit ([] : List Int) hL U27 Tryz_T2 rfl (by decide) (by first | (simp [Instr.fill, madeCells, Value.cells, ev, upd, Flat.enc, Flat.sz]; done) | rfl | kernel_rfl) rfl rfl ?_)
 intro wd9 v10 S11 hL
 refine OV v10 rfl (x_assign) ?_
 refine ONS ?_
 refine CSR ?_
 refine OV (.int .i64 1) rfl (x_assign) ?_
 refine OW.nil ?_
 obtain ⟨o544, ho545, hm⟩ := bndE hm
 refine CW.loopB (fun (s_l1 : (List Int) × Int) (F : Fr) (w : World) => ∃ (v540 : Value) (S541 : Nat → Prop), F 1 = v5 ∧ F 2 = (.pointer (some ⟨b8, 0, none⟩)) ∧ F 5 = v540 ∧ F 6 = (.int .i64 s_l1.2) ∧ Hp w0 [Ent.own 2 S541 v540 s_l1.1, Ent.blk b8 26 #[(.int .i64 a0.Boats), v1, v3], Ent.snap w0 w0.heap.size] w) (fun o => outc o (fun x => some x) (fun s => M.spec_l28Standing_a1 s) = some r) ho545 hm ⟨v10, S11, rfl, rfl, rfl, rfl, hL⟩ ?_ ?_
 · intro s_l1 F546 wd547 hJ hm
   have hm := outcE hm
   have hm : M.spec_l28Standing_a1 s_l1 = some r := hm
   unfold M.spec_l28Standing_a1 at hm
   obtain ⟨v540, S541, f548, f549, f550, f551, hL⟩ := hJ
   refine CSR ?_
   refine OV v540 rfl (x_mv f550) ?_
   refine OV v540 rfl (x_assign) ?_
   refine OW.nil ?_
   refine CW.ret ?_
   obtain rfl := Option.some.inj hm
   exact RR1 rfl rfl ⟨v540, S541, rfl, hL.fresh 2 rfl [0] (by decide) (by decide) rfl⟩
 intro s_l1 F552 wd553 t542 hJ hm hr543
 unfold M.spec_l28Standing_l1 at hm
 obtain ⟨v540, S541, f554, f555, f556, f557, hL⟩ := hJ
 refine CW.seq ?_
 refine CSR ?_
 refine OV (.int .i64 s_l1.2) rfl (x_mv f557) ?_
 refine OV (.pointer (some ⟨b8, 0, none⟩)) rfl (x_fieldAddr (fsz := 1) 0 0 0 U26 rfl Tryz_T2 rfl f555 rfl) ?_
 refine OV (.int .i64 a0.Boats) rfl (x_load1 U2 rfl rfl (hL.cellB 1 rfl rfl)) ?_
 refine OV (.bool (decide (s_l1.2 ≤ a0.Boats))) rfl (x_leq rfl rfl) ?_
 refine OW.nil ?_
 refine CW.condM (t := decide (s_l1.2 ≤ a0.Boats)) rfl hm (fun hb558 hm => ?_) (fun hb558 hm => ?_)
 · refine CW.skip ?_
   refine CW.seq ?_
   refine CW.block ?_
   refine CSR ?_
   refine OV (.int .i64 0) rfl (x_assign) ?_
   refine OW.nil ?_
   obtain ⟨o725, ho726, hm⟩ := bndE hm
   refine CW.loopB (fun (s_l2 : (List Int) × Int) (F : Fr) (w : World) => ∃ (v721 : Value) (S722 : Nat → Prop), F 1 = v5 ∧ F 2 = (.pointer (some ⟨b8, 0, none⟩)) ∧ F 5 = v721 ∧ F 6 = (.int .i64 s_l1.2) ∧ F 7 = (.int .i64 s_l2.2) ∧ Hp w0 [Ent.own 2 S722 v721 s_l2.1, Ent.blk b8 26 #[(.int .i64 a0.Boats), v1, v3], Ent.snap w0 w0.heap.size] w) (fun o => outc o (fun x => some (.ret x)) (fun s => M.spec_l28Standing_a2 s_l1 s) = some t542) ho726 hm ⟨v540, S541, f554, f555, f556, f557, rfl, hL⟩ ?_ ?_
   · intro s_l2 F727 wd728 hJ hm
     have hm := outcE hm
     have hm : M.spec_l28Standing_a2 s_l1 s_l2 = some t542 := hm
     unfold M.spec_l28Standing_a2 at hm
     obtain ⟨v721, S722, f729, f730, f731, f732, f733, hL⟩ := hJ
     refine CW.regionL ?_
     refine OV (.int .i64 s_l1.2) rfl (x_mv f732) ?_
     refine OV (.int .i64 (w64 (s_l1.2 + 1))) rfl (x_add rfl rfl) ?_
     refine OV (.int .i64 (w64 (s_l1.2 + 1))) rfl (x_assign) ?_
     refine OW.nil ?_
     obtain rfl := Option.some.inj hm
     exact ⟨_, rfl, ⟨v721, S722, f729, f730, f731, rfl, hL⟩⟩
   intro s_l2 F734 wd735 t723 hJ hm hr724
   unfold M.spec_l28Standing_l2 at hm
   obtain ⟨v721, S722, f736, f737, f738, f739, f740, hL⟩ := hJ
   refine CW.seq ?_
   refine CSR ?_
   refine OV (.int .i64 s_l2.2) rfl (x_mv f740) ?_
   refine OV (.pointer (some ⟨b8, 0, none⟩)) rfl (x_fieldAddr (fsz := 1) 0 0 0 U26 rfl Tryz_T2 rfl f737 rfl) ?_
   refine OV (.int .i64 a0.Boats) rfl (x_load1 U2 rfl rfl (hL.cellB 1 rfl rfl)) ?_
   refine OV (.bool (decide (s_l2.2 < a0.Boats))) rfl (x_lss rfl rfl) ?_
   refine OW.nil ?_
   refine CW.condM (t := decide (s_l2.2 < a0.Boats)) rfl hm (fun hb741 hm => ?_) (fun hb741 hm => ?_)
   · refine CW.skip ?_
     refine CW.seqJ (fun (s_j1 : (List Int)) (F : Fr) (w : World) => ∃ (v777 : Value) (S778 : Nat → Prop), F 1 = v5 ∧ F 2 = (.pointer (some ⟨b8, 0, none⟩)) ∧ F 5 = v777 ∧ F 6 = (.int .i64 s_l1.2) ∧ F 7 = (.int .i64 s_l2.2) ∧ Hp w0 [Ent.own 2 S778 v777 s_j1, Ent.blk b8 26 #[(.int .i64 a0.Boats), v1, v3], Ent.snap w0 w0.heap.size] w) (fun s_j1 => M.spec_l28Standing_j1 s_l2 s_j1 = some t723) ?_ ?_
     · refine CW.blockJ (fun (s_j2 : (List Int)) (F : Fr) (w : World) => ∃ (v799 : Value) (S800 : Nat → Prop), F 1 = v5 ∧ F 2 = (.pointer (some ⟨b8, 0, none⟩)) ∧ F 5 = v799 ∧ F 6 = (.int .i64 s_l1.2) ∧ F 7 = (.int .i64 s_l2.2) ∧ Hp w0 [Ent.own 2 S800 v799 s_j2, Ent.blk b8 26 #[(.int .i64 a0.Boats), v1, v3], Ent.snap w0 w0.heap.size] w) (fun s_j2 => M.spec_l28Standing_j2 s_l2 s_j2 = some t723) ?_ ?_
       · refine CSR ?_
         refine OV (.agg #[(.int .i64 a0.Boats), v1, v3]) rfl (x_loadN (cs := [(.int .i64 a0.Boats), v1, v3]) U26 Tryz_T26 rfl f737 (hL.cellsB 1 rfl (o := 0) (l := [(.int .i64 a0.Boats), v1, v3]) (by intro j u hj; exact (by simpa using hj)))) ?_
         refine OV v5 rfl (x_mv f736) ?_
         refine OV (.int .i64 s_l2.2) rfl (x_mv f740) ?_
         obtain ⟨x808, hx809, hm⟩ := bndE hm
         refine OW.cons (OP.call rfl (x_call (vs := [(.agg #[(.int .i64 a0.Boats), v1, v3]), v5, (.int .i64 s_l2.2)]) Tryz_C32 ⟨rfl, rfl, rfl, trivial⟩) (M.spec_l28Rank_ok _ a0 (hL.rdS 2 rfl h2) (hL.rdS 2 rfl h4) a1 (hL.rdS 2 rfl h6) s_l2.2 hx809) ?_)
         rintro e810 wd811 ⟨rfl, hF812⟩
         refine ⟨_, rfl, ?_⟩
         have hL := hL.pushAll hF812
         simp only [lA, lB, lC, lD] at hL
         refine OV (.int .i64 s_l1.2) rfl (x_mv f739) ?_
         refine OV (.bool (x808 == s_l1.2)) rfl (x_eql rfl rfl) ?_
         refine OW.nil ?_
         refine CW.condM (t := x808 == s_l1.2) rfl hm (fun hb813 hm => ?_) (fun hb813 hm => ?_)
         · refine CW.regionL ?_
           refine OV v721 rfl (x_mv f738) ?_
           refine OV (.int .i64 s_l2.2) rfl (x_mv f740) ?_
           refine OW.cons (S_lit ([s_l2.2] : List Int) hL U27 Tryz_T2 rfl (by decide) (by first | (simp [Instr.fill, madeCells, Value.cells, ev, upd, Flat.enc, Flat.sz]; done) | rfl | kernel_rfl) rfl rfl ?_)
           intro wd814 v815 S816 hL
           obtain ⟨hc820, hm⟩ := chkE hm
           refine OW.cons (S_append (ys := ([s_l2.2] : List Int)) hL 1 rfl U27 Tryz_T2 rfl rfl rfl (hL.rdO 0 rfl) hc820 (by decide) rfl ?_)
           intro wd817 v818 S819 hL
           refine OV v818 rfl (x_assign) ?_
           refine OW.nil ?_
           have hL := hL.sel [1, 2, 3] (by decide) rfl
           exact ⟨s_l2.1 ++ ([s_l2.2] : List Int), hm, ⟨v818, S819, f736, f737, rfl, f739, f740, hL⟩⟩
         refine CW.skip ?_
         exact ⟨s_l2.1, hm, ⟨v721, S722, f736, f737, f738, f739, f740, hL⟩⟩
       intro s_j2 F801 wd802 hJ hm
       unfold M.spec_l28Standing_j2 at hm
       obtain ⟨v799, S800, f803, f804, f805, f806, f807, hL⟩ := hJ
       exact ⟨s_j2, hm, ⟨v799, S800, f803, f804, f805, f806, f807, hL⟩⟩
     intro s_j1 F779 wd780 hJ hm
     unfold M.spec_l28Standing_j1 at hm
     obtain ⟨v777, S778, f781, f782, f783, f784, f785, hL⟩ := hJ
     refine CW.regionL ?_
     refine OV (.int .i64 s_l2.2) rfl (x_mv f785) ?_
     refine OV (.int .i64 (w64 (s_l2.2 + 1))) rfl (x_add rfl rfl) ?_
     refine OV (.int .i64 (w64 (s_l2.2 + 1))) rfl (x_assign) ?_
     refine OW.nil ?_
     obtain rfl := Option.some.inj hm
     exact ⟨_, rfl, ⟨v777, S778, f781, f782, f783, f784, rfl, hL⟩⟩
   refine CW.exit ?_
   refine XJ.hit ?_
   obtain rfl := Option.some.inj hm
   exact ⟨_, rfl, ⟨v721, S722, f736, f737, f738, f739, f740, hL⟩⟩
 refine CW.exit ?_
 refine XJ.hit ?_
 obtain rfl := Option.some.inj hm
 exact ⟨_, rfl, ⟨v540, S541, f554, f555, f556, f557, hL⟩⟩

theorem M.spec_StandingOf_ok (w0 : World) (a0 : Table) {v1 : Value} {v3 : Value} (h2 : rdL (· < w0.heap.size) w0 v1 a0.Points) (h4 : rdL (· < w0.heap.size) w0 v3 a0.Codes) (a1 : List Int) {v5 : Value} (h6 : rdL (· < w0.heap.size) w0 v5 a1) {r : (List Int) × Int} (hm : M.spec_StandingOf a0 a1 = some r) :
    Calls Tryz.prog 8 #[(.agg #[(.int .i64 a0.Boats), v1, v3]), v5] w0 fun e w' => ∃ (rv0 : Value) (rS0 : Nat → Prop), e = .returned (.tuple #[rv0, (.int .i64 r.2)]) ∧ Fresh w0 w' [Ent.own 2 rS0 rv0 r.1] := by
 unfold M.spec_StandingOf at hm
 refine calls_CW (args := [(.agg #[(.int .i64 a0.Boats), v1, v3]), v5]) Tryz.func8 rfl rfl rfl ?_
 have hL := Hp.start w0
 refine CSR ?_
 refine OW.cons (S_box (cs := #[(.int .i64 a0.Boats), v1, v3]) hL rfl rfl rfl ?_)
 intro wd7 b8 hL
 refine OV (.slice none 0 0) rfl (x_assign) ?_
 refine OV (.int .i64 0) rfl (x_assign) ?_
 refine ONR ?_
 refine OV (.agg #[(.int .i64 a0.Boats), v1, v3]) rfl (x_loadN (cs := [(.int .i64 a0.Boats), v1, v3]) U26 Tryz_T26 rfl rfl (hL.cellsB 0 rfl (o := 0) (l := [(.int .i64 a0.Boats), v1, v3]) (by intro j u hj; exact (by simpa using hj)))) ?_
 refine OV v5 rfl (x_move) ?_
 obtain ⟨x9, hx10, hm⟩ := bndE hm
 refine OW.cons (OP.call rfl (x_call (vs := [(.agg #[(.int .i64 a0.Boats), v1, v3]), v5, (.int .i64 0)]) Tryz_C26 ⟨rfl, rfl, rfl, trivial⟩) (M.spec_l27Code_ok _ a0 (hL.rdS 1 rfl h2) (hL.rdS 1 rfl h4) a1 (hL.rdS 1 rfl h6) 0 hx10) ?_)
 rintro e11 wd12 ⟨rfl, hF13⟩
 refine ⟨_, rfl, ?_⟩
 have hL := hL.pushAll hF13
 simp only [lA, lB, lC, lD] at hL
 refine OV (.int .i64 x9) rfl (x_assign) ?_
 refine ONS ?_
 refine CSR ?_
 refine OV (.int .i64 x9) rfl (x_move) ?_
 refine OV (.bool (x9 != 0)) rfl (x_neq rfl rfl) ?_
 refine OW.nil ?_
 refine CW.condM (t := x9 != 0) rfl hm (fun hb14 hm => ?_) (fun hb14 hm => ?_)
 · refine CSR ?_
   refine OV (.int .i64 x9) rfl (x_move) ?_
   refine OV (.slice none 0 0) rfl (x_assign) ?_
   refine OV (.int .i64 x9) rfl (x_assign) ?_
   refine OW.nil ?_
   refine CW.ret ?_
   have hL := hL.pushNil Int 2
   obtain rfl := Option.some.inj hm
   exact RR2 rfl rfl rfl ⟨(.slice none 0 0), None_, rfl, hL.fresh 2 rfl [0] (by decide) (by decide) rfl⟩
 refine CW.skip ?_
 refine CSR ?_
 refine OV (.agg #[(.int .i64 a0.Boats), v1, v3]) rfl (x_loadN (cs := [(.int .i64 a0.Boats), v1, v3]) U26 Tryz_T26 rfl rfl (hL.cellsB 0 rfl (o := 0) (l := [(.int .i64 a0.Boats), v1, v3]) (by intro j u hj; exact (by simpa using hj)))) ?_
 refine OV v5 rfl (x_move) ?_
 obtain ⟨x15, hx16, hm⟩ := bndE hm
 refine OW.cons (OP.call rfl (x_call (vs := [(.agg #[(.int .i64 a0.Boats), v1, v3]), v5]) Tryz_C27 ⟨rfl, rfl, trivial⟩) (M.spec_l28Standing_ok _ a0 (hL.rdS 1 rfl h2) (hL.rdS 1 rfl h4) a1 (hL.rdS 1 rfl h6) hx16) ?_)
 rintro e19 wd20 ⟨v18, S17, rfl, hF21⟩
 refine ⟨_, rfl, ?_⟩
 have hL := hL.pushAll hF21
 simp only [lA, lB, lC, lD] at hL
 refine OV v18 rfl (x_assign) ?_
 refine OV (.int .i64 0) rfl (x_assign) ?_
 refine OW.nil ?_
 refine CW.ret ?_
 obtain rfl := Option.some.inj hm
 exact RR2 rfl rfl rfl ⟨v18, S17, rfl, hL.fresh 2 rfl [0] (by decide) (by decide) rfl⟩

theorem M.laws_likeInts_ok (w0 : World) (a0 : List Int) {v1 : Value} (h2 : rdL (· < w0.heap.size) w0 v1 a0) (a1 : List Int) {v3 : Value} (h4 : rdL (· < w0.heap.size) w0 v3 a1) {r : Bool} (hm : M.laws_likeInts a0 a1 = some r) :
    Calls Tryz.prog 9 #[v1, v3] w0 fun e w' => e = .returned (.bool r) ∧ Fresh w0 w' [] := by
 unfold M.laws_likeInts at hm
 refine calls_CW (args := [v1, v3]) Tryz.func9 rfl rfl rfl ?_
 have hL := Hp.start w0
 refine CSR ?_
 refine OV (.bool false) rfl (x_assign) ?_
 refine ONS ?_
 refine CSR ?_
 refine OV v1 rfl (x_move) ?_
 refine OV (.int .i64 (a0.length : Int)) rfl (x_lenR U27 rfl (hL.rdS 0 rfl h2)) ?_
 refine OV v3 rfl (x_move) ?_
 refine OV (.int .i64 (a1.length : Int)) rfl (x_lenR U27 rfl (hL.rdS 0 rfl h4)) ?_
 refine OV (.bool ((a0.length : Int) != (a1.length : Int))) rfl (x_neq rfl rfl) ?_
 refine OW.nil ?_
 refine CW.condM (t := (a0.length : Int) != (a1.length : Int)) rfl hm (fun hb5 hm => ?_) (fun hb5 hm => ?_)
 · refine CSR ?_
   refine OV (.bool false) rfl (x_assign) ?_
   refine OW.nil ?_
   refine CW.ret ?_
   obtain rfl := Option.some.inj hm
   exact RR1 rfl rfl ⟨rfl, hL.fresh 0 rfl [] (by decide) (by decide) rfl⟩
 refine CW.skip ?_
 refine CW.seq ?_
 refine CSR ?_
 refine OV (.int .i64 0) rfl (x_assign) ?_
 refine OW.nil ?_
 obtain ⟨o42, ho43, hm⟩ := bndE hm
 refine CW.loopB (fun (s_l1 : Int) (F : Fr) (w : World) => F 0 = v1 ∧ F 1 = v3 ∧ F 5 = (.int .i64 s_l1) ∧ Hp w0 [Ent.snap w0 w0.heap.size] w) (fun o => outc o (fun x => some x) (fun s => M.laws_likeInts_a1 s) = some r) ho43 hm ⟨rfl, rfl, rfl, hL⟩ ?_ ?_
 · intro s_l1 F44 wd45 hJ hm
   have hm := outcE hm
   have hm : M.laws_likeInts_a1 s_l1 = some r := hm
   unfold M.laws_likeInts_a1 at hm
   obtain ⟨f46, f47, f48, hL⟩ := hJ
   refine CSR ?_
   refine OV (.bool true) rfl (x_assign) ?_
   refine OW.nil ?_
   refine CW.ret ?_
   obtain rfl := Option.some.inj hm
   exact RR1 rfl rfl ⟨rfl, hL.fresh 0 rfl [] (by decide) (by decide) rfl⟩
 intro s_l1 F49 wd50 t40 hJ hm hr41
 unfold M.laws_likeInts_l1 at hm
 obtain ⟨f51, f52, f53, hL⟩ := hJ
 refine CW.seq ?_
 refine CSR ?_
 refine OV (.int .i64 s_l1) rfl (x_mv f53) ?_
 refine OV v1 rfl (x_mv f51) ?_
 refine OV (.int .i64 (a0.length : Int)) rfl (x_lenR U27 rfl (hL.rdS 0 rfl h2)) ?_
 refine OV (.bool (decide (s_l1 < (a0.length : Int)))) rfl (x_lss rfl rfl) ?_
 refine OW.nil ?_
 refine CW.condM (t := decide (s_l1 < (a0.length : Int))) rfl hm (fun hb54 hm => ?_) (fun hb54 hm => ?_)
 · refine CW.skip ?_
   refine CW.seq ?_
   refine CW.block ?_
   refine CW.seq ?_
   refine CW.draw Tryz_mixed ?_
   have hL := hL.call (Mod.drew _)
   refine DW.pre (fuel := 0) (fin := bma 9 511) (C := fun w' => Mod None_ _ w') [0, 1, 2, 3, 4, 5, 6, 7, 8] (Mod.refl _ _) (by kernel_rfl) (by kernel_rfl) ?_
   refine QW.cons rfl (QP.val (v := v1) rfl (fun w' hm' => x_mv f51) ?_)
   refine QW.cons rfl (QP.val (v := (.int .i64 s_l1)) rfl (fun w' hm' => x_mv f53) ?_)
   obtain ⟨x55, ha56, hm⟩ := bndE hm
   obtain ⟨hz57, ha61⟩ := idxE ha56
   obtain ⟨b58, q59, hix60⟩ := rdL_ix (hL.rdS 0 rfl h2) hz57 ha61
   refine QW.cons rfl (QP.val (v := (.pointer (some ⟨b58, q59, none⟩))) rfl (fun w' hm' => x_ix U27 Tryz_T2 rfl rfl hix60) ?_)
   refine QW.cons rfl (QP.val (v := (.int .i64 x55)) rfl (fun w' hm' => x_load1 U2 rfl rfl (rdF_cells ((hL.call hm').rdS 0 rfl h2) hix60 ha61 0 _ rfl)) ?_)
   refine QW.cons rfl (QP.val (v := v3) rfl (fun w' hm' => x_mv f52) ?_)
   refine QW.cons rfl (QP.val (v := (.int .i64 s_l1)) rfl (fun w' hm' => x_mv f53) ?_)
   obtain ⟨x62, ha63, hm⟩ := bndE hm
   obtain ⟨hz64, ha68⟩ := idxE ha63
   obtain ⟨b65, q66, hix67⟩ := rdL_ix (hL.rdS 0 rfl h4) hz64 ha68
   refine QW.cons rfl (QP.val (v := (.pointer (some ⟨b65, q66, none⟩))) rfl (fun w' hm' => x_ix U27 Tryz_T2 rfl rfl hix67) ?_)
   refine QW.cons rfl (QP.val (v := (.int .i64 x62)) rfl (fun w' hm' => x_load1 U2 rfl rfl (rdF_cells ((hL.call hm').rdS 0 rfl h4) hix67 ha68 0 _ rfl)) ?_)
   refine QW.cons rfl (QP.val (v := (.bool (x55 != x62))) rfl (fun w' hm' => x_neq rfl rfl) ?_)
   refine QW.nil ?_
   intro wd69 hmod
   have hL := hL.call hmod
   refine DW.done (by kernel_rfl) ?_
   refine CW.condM (t := x55 != x62) rfl hm (fun hb70 hm => ?_) (fun hb70 hm => ?_)
   · refine CSR ?_
     refine OV (.bool false) rfl (x_assign) ?_
     refine OW.nil ?_
     refine CW.ret ?_
     obtain rfl := Option.some.inj hm
     have hm := hr41 _ rfl
     obtain rfl := Option.some.inj hm
     exact RR1 rfl rfl ⟨rfl, hL.fresh 0 rfl [] (by decide) (by decide) rfl⟩
   refine CW.skip ?_
   refine CW.regionL ?_
   refine OV (.int .i64 s_l1) rfl (x_mv f53) ?_
   refine OV (.int .i64 (w64 (s_l1 + 1))) rfl (x_add rfl rfl) ?_
   refine OV (.int .i64 (w64 (s_l1 + 1))) rfl (x_assign) ?_
   refine OW.nil ?_
   obtain rfl := Option.some.inj hm
   exact ⟨_, rfl, ⟨f51, f52, rfl, hL⟩⟩
 refine CW.exit ?_
 refine XJ.hit ?_
 obtain rfl := Option.some.inj hm
 exact ⟨_, rfl, ⟨f51, f52, f53, hL⟩⟩

theorem M.impl_ranksOf_ok (w0 : World) (a0 : Table) {v1 : Value} {v3 : Value} (h2 : rdL (· < w0.heap.size) w0 v1 a0.Points) (h4 : rdL (· < w0.heap.size) w0 v3 a0.Codes) (a1 : List Int) {v5 : Value} (h6 : rdL (· < w0.heap.size) w0 v5 a1) {r : (List Int)} (hm : M.impl_ranksOf a0 a1 = some r) :
    Calls Tryz.prog 28 #[(.agg #[(.int .i64 a0.Boats), v1, v3]), v5] w0 fun e w' => ∃ (rv0 : Value) (rS0 : Nat → Prop), e = .returned rv0 ∧ Fresh w0 w' [Ent.own 2 rS0 rv0 r] := by
 unfold M.impl_ranksOf at hm
 refine calls_CW (args := [(.agg #[(.int .i64 a0.Boats), v1, v3]), v5]) Tryz.func28 rfl rfl rfl ?_
 have hL := Hp.start w0
 refine CSR ?_
 refine OW.cons (S_box (cs := #[(.int .i64 a0.Boats), v1, v3]) hL rfl rfl rfl ?_)
 intro wd7 b8 hL
 refine OV (.slice none 0 0) rfl (x_assign) ?_
 refine ONR ?_
 refine OV (.pointer (some ⟨b8, 0, none⟩)) rfl (x_fieldAddr (fsz := 1) 0 0 0 U26 rfl Tryz_T2 rfl rfl rfl) ?_
 refine OV (.int .i64 a0.Boats) rfl (x_load1 U2 rfl rfl (hL.cellB 0 rfl rfl)) ?_
 obtain ⟨hc12, hm⟩ := chkE hm
 refine OW.cons (S_make (α := Int) 0 hL U27 Tryz_T2 rfl rfl rfl hc12 (by decide) rfl ?_)
 intro wd9 v10 S11 hL
 refine OV v10 rfl (x_assign) ?_
 refine ONS ?_
 refine CSR ?_
 refine OV v10 rfl (x_move) ?_
 refine OV (.int .i64 ((List.replicate (a0.Boats).toNat (0 : Int)).length : Int)) rfl (x_lenR U27 rfl (hL.rdO 0 rfl)) ?_
 refine OV (.int .i64 0) rfl (x_move) ?_
 refine OW.nil ?_
 obtain ⟨o795, ho796, hm⟩ := bndE hm
 refine CW.loopB (fun (s_l1 : (List Int) × Int) (F : Fr) (w : World) => ∃ (S792 : Nat → Prop), F 1 = v5 ∧ F 2 = (.pointer (some ⟨b8, 0, none⟩)) ∧ F 5 = v10 ∧ F 15 = (.int .i64 ((List.replicate (a0.Boats).toNat (0 : Int)).length : Int)) ∧ F 16 = (.int .i64 s_l1.2) ∧ Hp w0 [Ent.own 2 S792 v10 s_l1.1, Ent.blk b8 26 #[(.int .i64 a0.Boats), v1, v3], Ent.snap w0 w0.heap.size] w) (fun o => outc o (fun x => some x) (fun s => M.impl_ranksOf_a1 s) = some r) ho796 hm ⟨S11, rfl, rfl, rfl, rfl, rfl, hL⟩ ?_ ?_
 · intro s_l1 F797 wd798 hJ hm
   have hm := outcE hm
   have hm : M.impl_ranksOf_a1 s_l1 = some r := hm
   unfold M.impl_ranksOf_a1 at hm
   obtain ⟨S792, f799, f800, f801, f802, f803, hL⟩ := hJ
   refine CSR ?_
   refine OV v10 rfl (x_mv f801) ?_
   refine OV v10 rfl (x_assign) ?_
   refine OW.nil ?_
   refine CW.ret ?_
   obtain rfl := Option.some.inj hm
   exact RR1 rfl rfl ⟨v10, S792, rfl, hL.fresh 2 rfl [0] (by decide) (by decide) rfl⟩
 intro s_l1 F804 wd805 t793 hJ hm hr794
 unfold M.impl_ranksOf_l1 at hm
 obtain ⟨S792, f806, f807, f808, f809, f810, hL⟩ := hJ
 refine CSR ?_
 refine OV (.bool (decide (s_l1.2 < ((List.replicate (a0.Boats).toNat (0 : Int)).length : Int)))) rfl (x_lss f810 f809) ?_
 refine ONS ?_
 refine CW.condM (t := decide (s_l1.2 < ((List.replicate (a0.Boats).toNat (0 : Int)).length : Int))) rfl hm (fun hb811 hm => ?_) (fun hb811 hm => ?_)
 · refine CW.skip ?_
   refine CW.seq ?_
   refine CW.block ?_
   refine CSR ?_
   refine OV (.int .i64 s_l1.2) rfl (x_mv f810) ?_
   refine OV (.int .i64 s_l1.2) rfl (x_assign) ?_
   refine ONR ?_
   refine OV v10 rfl (x_mv f808) ?_
   refine OV (.int .i64 s_l1.2) rfl (x_move) ?_
   obtain ⟨x812, ha813, hm⟩ := bndE hm
   obtain ⟨hz814, ha818⟩ := idxE ha813
   obtain ⟨b815, q816, hix817⟩ := rdL_ix (hL.rdO 0 rfl) hz814 ha818
   refine OV (.pointer (some ⟨b815, q816, none⟩)) rfl (x_ix U27 Tryz_T2 rfl rfl hix817) ?_
   refine OW.cons (S_storeX (j := 0) 1 hL 0 rfl Tryz_T2 hix817 ha818 rfl rfl rfl rfl rfl rfl ?_)
   intro wd819 hL
   refine ONR ?_
   refine OV v10 rfl (x_mv f808) ?_
   refine OV (.int .i64 ((s_l1.1.set (s_l1.2 : Int).toNat 1).length : Int)) rfl (x_lenR U27 rfl (hL.rdO 0 rfl)) ?_
   refine OV (.int .i64 0) rfl (x_move) ?_
   refine OW.nil ?_
   obtain ⟨o1060, ho1061, hm⟩ := bndE hm
   refine CW.loopB (fun (s_l2 : (List Int) × Int) (F : Fr) (w : World) => ∃ (S1057 : Nat → Prop), F 1 = v5 ∧ F 2 = (.pointer (some ⟨b8, 0, none⟩)) ∧ F 5 = v10 ∧ F 6 = (.int .i64 s_l1.2) ∧ F 15 = (.int .i64 ((List.replicate (a0.Boats).toNat (0 : Int)).length : Int)) ∧ F 16 = (.int .i64 s_l1.2) ∧ F 23 = (.int .i64 ((s_l1.1.set (s_l1.2 : Int).toNat 1).length : Int)) ∧ F 24 = (.int .i64 s_l2.2) ∧ Hp w0 [Ent.own 2 S1057 v10 s_l2.1, Ent.blk b8 26 #[(.int .i64 a0.Boats), v1, v3], Ent.snap w0 w0.heap.size] w) (fun o => outc o (fun x => some (.ret x)) (fun s => M.impl_ranksOf_a2 s_l1 s) = some t793) ho1061 hm ⟨S792, f806, f807, f808, rfl, f809, f810, rfl, rfl, hL⟩ ?_ ?_
   · intro s_l2 F1062 wd1063 hJ hm
     have hm := outcE hm
     have hm : M.impl_ranksOf_a2 s_l1 s_l2 = some t793 := hm
     unfold M.impl_ranksOf_a2 at hm
     obtain ⟨S1057, f1064, f1065, f1066, f1067, f1068, f1069, f1070, f1071, hL⟩ := hJ
     refine CW.regionL ?_
     refine OV (.int .i64 (w64 (s_l1.2 + 1))) rfl (x_add f1069 rfl) ?_
     refine OV (.int .i64 (w64 (s_l1.2 + 1))) rfl (x_move) ?_
     refine OW.nil ?_
     obtain rfl := Option.some.inj hm
     exact ⟨_, rfl, ⟨S1057, f1064, f1065, f1066, f1068, rfl, hL⟩⟩
   intro s_l2 F1072 wd1073 t1058 hJ hm hr1059
   unfold M.impl_ranksOf_l2 at hm
   obtain ⟨S1057, f1074, f1075, f1076, f1077, f1078, f1079, f1080, f1081, hL⟩ := hJ
   refine CSR ?_
   refine OV (.bool (decide (s_l2.2 < ((s_l1.1.set (s_l1.2 : Int).toNat 1).length : Int)))) rfl (x_lss f1081 f1080) ?_
   refine ONS ?_
   refine CW.condM (t := decide (s_l2.2 < ((s_l1.1.set (s_l1.2 : Int).toNat 1).length : Int))) rfl hm (fun hb1082 hm => ?_) (fun hb1082 hm => ?_)
   · refine CW.skip ?_
     refine CW.seqJ (fun (s_j1 : (List Int)) (F : Fr) (w : World) => ∃ (S1136 : Nat → Prop), F 1 = v5 ∧ F 2 = (.pointer (some ⟨b8, 0, none⟩)) ∧ F 5 = v10 ∧ F 6 = (.int .i64 s_l1.2) ∧ F 15 = (.int .i64 ((List.replicate (a0.Boats).toNat (0 : Int)).length : Int)) ∧ F 16 = (.int .i64 s_l1.2) ∧ F 23 = (.int .i64 ((s_l1.1.set (s_l1.2 : Int).toNat 1).length : Int)) ∧ F 24 = (.int .i64 s_l2.2) ∧ Hp w0 [Ent.own 2 S1136 v10 s_j1, Ent.blk b8 26 #[(.int .i64 a0.Boats), v1, v3], Ent.snap w0 w0.heap.size] w) (fun s_j1 => M.impl_ranksOf_j1 s_l2 s_j1 = some t1058) ?_ ?_
     · refine CW.blockJ (fun (s_j2 : (List Int)) (F : Fr) (w : World) => ∃ (S1168 : Nat → Prop), F 1 = v5 ∧ F 2 = (.pointer (some ⟨b8, 0, none⟩)) ∧ F 5 = v10 ∧ F 6 = (.int .i64 s_l1.2) ∧ F 15 = (.int .i64 ((List.replicate (a0.Boats).toNat (0 : Int)).length : Int)) ∧ F 16 = (.int .i64 s_l1.2) ∧ F 23 = (.int .i64 ((s_l1.1.set (s_l1.2 : Int).toNat 1).length : Int)) ∧ F 24 = (.int .i64 s_l2.2) ∧ Hp w0 [Ent.own 2 S1168 v10 s_j2, Ent.blk b8 26 #[(.int .i64 a0.Boats), v1, v3], Ent.snap w0 w0.heap.size] w) (fun s_j2 => M.impl_ranksOf_j2 s_l2 s_j2 = some t1058) ?_ ?_
       · refine CSR ?_
         refine OV (.int .i64 s_l2.2) rfl (x_mv f1081) ?_
         refine OV (.int .i64 s_l2.2) rfl (x_assign) ?_
         refine ONR ?_
         refine OV (.agg #[(.int .i64 a0.Boats), v1, v3]) rfl (x_loadN (cs := [(.int .i64 a0.Boats), v1, v3]) U26 Tryz_T26 rfl f1075 (hL.cellsB 1 rfl (o := 0) (l := [(.int .i64 a0.Boats), v1, v3]) (by intro j u hj; exact (by simpa using hj)))) ?_
         refine OV v5 rfl (x_mv f1074) ?_
         refine OV (.int .i64 s_l2.2) rfl (x_move) ?_
         refine OV (.int .i64 s_l1.2) rfl (x_mv f1077) ?_
         obtain ⟨x1179, hx1180, hm⟩ := bndE hm
         refine OW.cons (OP.call rfl (x_call (vs := [(.agg #[(.int .i64 a0.Boats), v1, v3]), v5, (.int .i64 s_l2.2), (.int .i64 s_l1.2)]) Tryz_C36 ⟨rfl, rfl, rfl, rfl, trivial⟩) (M.impl_compareBoats_ok _ a0 (hL.rdS 2 rfl h2) (hL.rdS 2 rfl h4) a1 (hL.rdS 2 rfl h6) s_l2.2 s_l1.2 hx1180) ?_)
         rintro e1181 wd1182 ⟨rfl, hF1183⟩
         refine ⟨_, rfl, ?_⟩
         have hL := hL.pushAll hF1183
         simp only [lA, lB, lC, lD] at hL
         refine OV (.tuple #[(.int .i64 x1179.1), (.int .i64 x1179.2.1), (.int .i64 x1179.2.2)]) rfl (x_move) ?_
         refine OV (.int .i64 x1179.1) rfl (x_extract rfl rfl) ?_
         refine OV (.int .i64 x1179.2.1) rfl (x_extract rfl rfl) ?_
         refine OV (.int .i64 x1179.2.2) rfl (x_extract rfl rfl) ?_
         refine OV (.int .i64 x1179.1) rfl (x_assign) ?_
         refine OV (.int .i64 x1179.2.1) rfl (x_assign) ?_
         refine OV (.int .i64 x1179.2.2) rfl (x_assign) ?_
         refine ONR ?_
         refine OV (.int .i64 x1179.1) rfl (x_move) ?_
         refine OV (.bool (decide (x1179.1 < 0))) rfl (x_lss rfl rfl) ?_
         refine OW.nil ?_
         refine CW.condM (t := decide (x1179.1 < 0)) rfl hm (fun hb1184 hm => ?_) (fun hb1184 hm => ?_)
         · refine CW.regionL ?_
           refine OV v10 rfl (x_mv f1076) ?_
           refine OV (.int .i64 s_l1.2) rfl (x_mv f1077) ?_
           obtain ⟨x1185, ha1186, hm⟩ := bndE hm
           obtain ⟨hz1187, ha1191⟩ := idxE ha1186
           obtain ⟨b1188, q1189, hix1190⟩ := rdL_ix (hL.rdO 0 rfl) hz1187 ha1191
           refine OV (.pointer (some ⟨b1188, q1189, none⟩)) rfl (x_ix U27 Tryz_T2 rfl rfl hix1190) ?_
           refine OV (.int .i64 x1185) rfl (x_load1 U2 rfl rfl (rdF_cells (hL.rdO 0 rfl) hix1190 ha1191 0 _ rfl)) ?_
           refine OV (.int .i64 (w64 (x1185 + 1))) rfl (x_add rfl rfl) ?_
           obtain ⟨x1192, ha1193, hm⟩ := bndE hm
           obtain ⟨hz1194, ha1198⟩ := idxE ha1193
           obtain ⟨b1195, q1196, hix1197⟩ := rdL_ix (hL.rdO 0 rfl) hz1194 ha1198
           refine OV (.pointer (some ⟨b1195, q1196, none⟩)) rfl (x_ix U27 Tryz_T2 rfl rfl hix1197) ?_
           refine OW.cons (S_storeX (j := 0) (w64 (x1185 + 1)) hL 0 rfl Tryz_T2 hix1197 ha1198 rfl rfl rfl rfl rfl rfl ?_)
           intro wd1199 hL
           refine OW.nil ?_
           exact ⟨s_l2.1.set (s_l1.2 : Int).toNat (w64 (x1185 + 1)), hm, ⟨S1057, f1074, f1075, f1076, f1077, f1078, f1079, f1080, f1081, hL⟩⟩
         refine CW.skip ?_
         exact ⟨s_l2.1, hm, ⟨S1057, f1074, f1075, f1076, f1077, f1078, f1079, f1080, f1081, hL⟩⟩
       intro s_j2 F1169 wd1170 hJ hm
       unfold M.impl_ranksOf_j2 at hm
       obtain ⟨S1168, f1171, f1172, f1173, f1174, f1175, f1176, f1177, f1178, hL⟩ := hJ
       exact ⟨s_j2, hm, ⟨S1168, f1171, f1172, f1173, f1174, f1175, f1176, f1177, f1178, hL⟩⟩
     intro s_j1 F1137 wd1138 hJ hm
     unfold M.impl_ranksOf_j1 at hm
     obtain ⟨S1136, f1139, f1140, f1141, f1142, f1143, f1144, f1145, f1146, hL⟩ := hJ
     refine CW.regionL ?_
     refine OV (.int .i64 (w64 (s_l2.2 + 1))) rfl (x_add f1146 rfl) ?_
     refine OV (.int .i64 (w64 (s_l2.2 + 1))) rfl (x_move) ?_
     refine OW.nil ?_
     obtain rfl := Option.some.inj hm
     exact ⟨_, rfl, ⟨S1136, f1139, f1140, f1141, f1142, f1143, f1144, f1145, rfl, hL⟩⟩
   refine CW.exit ?_
   refine XJ.hit ?_
   obtain rfl := Option.some.inj hm
   exact ⟨_, rfl, ⟨S1057, f1074, f1075, f1076, f1077, f1078, f1079, f1080, f1081, hL⟩⟩
 refine CW.exit ?_
 refine XJ.hit ?_
 obtain rfl := Option.some.inj hm
 exact ⟨_, rfl, ⟨S792, f806, f807, f808, f809, f810, hL⟩⟩

theorem M.strconv_FormatInt_ok (w0 : World) (htab : Lib.TabIs Tryz.prog w0 "internal/strconv.uint64pow10" .u64 Lib.pow10Tab) (a0 : Int) (a1 : Int) {r : ByteArray} (hm : M.strconv_FormatInt a0 a1 = some r) :
    Calls Tryz.prog 65 #[(.int .i64 a0), (.int .i64 a1)] w0 fun e w' => e = .returned (.string r) ∧ Fresh w0 w' [] := by
 unfold M.strconv_FormatInt at hm
 obtain ⟨⟨hb, h0, h1⟩, h2⟩ := chkE hm
 subst hb
 obtain rfl := Option.some.inj h2
 exact (Any.strconv_FormatInt_10 fmtLaid a0 h0 h1 w0 htab).mono fun e w' h => ⟨h.1, fresh_grow h.2⟩

theorem M.impl_text_ok (w0 : World) (htab : Lib.TabIs Tryz.prog w0 "internal/strconv.uint64pow10" .u64 Lib.pow10Tab) (a0 : Int) {r : ByteArray} (hm : M.impl_text a0 = some r) :
    Calls Tryz.prog 29 #[(.int .i64 a0)] w0 fun e w' => e = .returned (.string r) ∧ Fresh w0 w' [] := by
 unfold M.impl_text at hm
 refine calls_CW (args := [(.int .i64 a0)]) Tryz.func29 rfl rfl rfl ?_
 have hL := Hp.start w0
 refine CSR ?_
 refine OV (.string (⟨#[]⟩ : ByteArray)) rfl (x_assign) ?_
 refine ONR ?_
 refine OV (.int .i64 a0) rfl (x_move) ?_
 obtain ⟨x1, hx2, hm⟩ := bndE hm
 refine OW.cons (OP.call rfl (x_call (vs := [(.int .i64 a0), (.int .i64 10)]) Tryz_C65 ⟨rfl, rfl, trivial⟩) (M.strconv_FormatInt_ok _ (hL.tab 0 rfl rfl htab) a0 10 hx2) ?_)
 rintro e3 wd4 ⟨rfl, hF5⟩
 refine ⟨_, rfl, ?_⟩
 have hL := hL.pushAll hF5
 simp only [lA, lB, lC, lD] at hL
 refine OV (.string x1) rfl (x_assign) ?_
 refine OW.nil ?_
 refine CW.ret ?_
 obtain rfl := Option.some.inj hm
 exact RR1 rfl rfl ⟨rfl, hL.fresh 0 rfl [] (by decide) (by decide) rfl⟩

theorem M.impl_StandingText_ok (w0 : World) (htab : Lib.TabIs Tryz.prog w0 "internal/strconv.uint64pow10" .u64 Lib.pow10Tab) (a0 : Table) {v1 : Value} {v3 : Value} (h2 : rdL (· < w0.heap.size) w0 v1 a0.Points) (h4 : rdL (· < w0.heap.size) w0 v3 a0.Codes) (a1 : List Int) {v5 : Value} (h6 : rdL (· < w0.heap.size) w0 v5 a1) {r : ByteArray} (hm : M.impl_StandingText a0 a1 = some r) :
    Calls Tryz.prog 10 #[(.agg #[(.int .i64 a0.Boats), v1, v3]), v5] w0 fun e w' => e = .returned (.string r) ∧ Fresh w0 w' [] := by
 unfold M.impl_StandingText at hm
 refine calls_CW (args := [(.agg #[(.int .i64 a0.Boats), v1, v3]), v5]) Tryz.func10 rfl rfl rfl ?_
 have hL := Hp.start w0
 refine CSR ?_
 refine OW.cons (S_box (cs := #[(.int .i64 a0.Boats), v1, v3]) hL rfl rfl rfl ?_)
 intro wd7 b8 hL
 refine OV (.string (⟨#[]⟩ : ByteArray)) rfl (x_assign) ?_
 refine ONR ?_
 refine OV (.string (⟨#[]⟩ : ByteArray)) rfl (x_assign) ?_
 refine ONS ?_
 refine CSR ?_
 refine OV (.agg #[(.int .i64 a0.Boats), v1, v3]) rfl (x_loadN (cs := [(.int .i64 a0.Boats), v1, v3]) U26 Tryz_T26 rfl rfl (hL.cellsB 0 rfl (o := 0) (l := [(.int .i64 a0.Boats), v1, v3]) (by intro j u hj; exact (by simpa using hj)))) ?_
 refine OV v5 rfl (x_move) ?_
 obtain ⟨x9, hx10, hm⟩ := bndE hm
 refine OW.cons (OP.call rfl (x_call (vs := [(.agg #[(.int .i64 a0.Boats), v1, v3]), v5, (.int .i64 0)]) Tryz_C24 ⟨rfl, rfl, rfl, trivial⟩) (M.impl_tableCode_ok _ a0 (hL.rdS 1 rfl h2) (hL.rdS 1 rfl h4) a1 (hL.rdS 1 rfl h6) 0 hx10) ?_)
 rintro e11 wd12 ⟨rfl, hF13⟩
 refine ⟨_, rfl, ?_⟩
 have hL := hL.pushAll hF13
 simp only [lA, lB, lC, lD] at hL
 refine OV (.bool (x9 != 0)) rfl (x_neq rfl rfl) ?_
 refine OW.nil ?_
 refine CW.condM (t := x9 != 0) rfl hm (fun hb14 hm => ?_) (fun hb14 hm => ?_)
 · refine CSR ?_
   refine OV (.string (⟨#[]⟩ : ByteArray)) rfl (x_move) ?_
   refine OV (.string (⟨#[]⟩ : ByteArray)) rfl (x_assign) ?_
   refine OW.nil ?_
   refine CW.ret ?_
   obtain rfl := Option.some.inj hm
   exact RR1 rfl rfl ⟨rfl, hL.fresh 1 rfl [] (by decide) (by decide) rfl⟩
 refine CW.skip ?_
 refine CSR ?_
 refine OV (.agg #[(.int .i64 a0.Boats), v1, v3]) rfl (x_loadN (cs := [(.int .i64 a0.Boats), v1, v3]) U26 Tryz_T26 rfl rfl (hL.cellsB 0 rfl (o := 0) (l := [(.int .i64 a0.Boats), v1, v3]) (by intro j u hj; exact (by simpa using hj)))) ?_
 refine OV v5 rfl (x_move) ?_
 obtain ⟨x15, hx16, hm⟩ := bndE hm
 refine OW.cons (OP.call rfl (x_call (vs := [(.agg #[(.int .i64 a0.Boats), v1, v3]), v5]) Tryz_C28 ⟨rfl, rfl, trivial⟩) (M.impl_ranksOf_ok _ a0 (hL.rdS 1 rfl h2) (hL.rdS 1 rfl h4) a1 (hL.rdS 1 rfl h6) hx16) ?_)
 rintro e19 wd20 ⟨v18, S17, rfl, hF21⟩
 refine ⟨_, rfl, ?_⟩
 have hL := hL.pushAll hF21
 simp only [lA, lB, lC, lD] at hL
 refine OV v18 rfl (x_assign) ?_
 refine ONS ?_
 refine CSR ?_
 refine OV (.agg #[(.int .i64 a0.Boats), v1, v3]) rfl (x_loadN (cs := [(.int .i64 a0.Boats), v1, v3]) U26 Tryz_T26 rfl rfl (hL.cellsB 1 rfl (o := 0) (l := [(.int .i64 a0.Boats), v1, v3]) (by intro j u hj; exact (by simpa using hj)))) ?_
 refine OV v5 rfl (x_move) ?_
 obtain ⟨x22, hx23, hm⟩ := bndE hm
 refine OW.cons (OP.call rfl (x_call (vs := [(.agg #[(.int .i64 a0.Boats), v1, v3]), v5]) Tryz_C25 ⟨rfl, rfl, trivial⟩) (M.impl_standingOf_ok _ a0 (hL.rdS 2 rfl h2) (hL.rdS 2 rfl h4) a1 (hL.rdS 2 rfl h6) hx23) ?_)
 rintro e26 wd27 ⟨v25, S24, rfl, hF28⟩
 refine ⟨_, rfl, ?_⟩
 have hL := hL.pushAll hF28
 simp only [lA, lB, lC, lD] at hL
 refine OV (.int .i64 (x22.length : Int)) rfl (x_lenR U27 rfl (hL.rdO 0 rfl)) ?_
 refine OV (.int .i64 0) rfl (x_move) ?_
 refine OW.nil ?_
 obtain ⟨o91, ho92, hm⟩ := bndE hm
 refine CW.loopB (fun (s_l1 : ByteArray × Int) (F : Fr) (w : World) => F 1 = v5 ∧ F 2 = (.pointer (some ⟨b8, 0, none⟩)) ∧ F 5 = (.string s_l1.1) ∧ F 6 = v18 ∧ F 19 = v25 ∧ F 20 = (.int .i64 (x22.length : Int)) ∧ F 21 = (.int .i64 s_l1.2) ∧ Hp w0 [Ent.own 2 S24 v25 x22, Ent.own 2 S17 v18 x15, Ent.blk b8 26 #[(.int .i64 a0.Boats), v1, v3], Ent.snap w0 w0.heap.size] w) (fun o => outc o (fun x => some x) (fun s => M.impl_StandingText_a1 s) = some r) ho92 hm ⟨rfl, rfl, rfl, rfl, rfl, rfl, rfl, hL⟩ ?_ ?_
 · intro s_l1 F93 wd94 hJ hm
   have hm := outcE hm
   have hm : M.impl_StandingText_a1 s_l1 = some r := hm
   unfold M.impl_StandingText_a1 at hm
   obtain ⟨f95, f96, f97, f98, f99, f100, f101, hL⟩ := hJ
   refine CSR ?_
   refine OV (.string s_l1.1) rfl (x_mv f97) ?_
   refine OV (.string s_l1.1) rfl (x_assign) ?_
   refine OW.nil ?_
   refine CW.ret ?_
   obtain rfl := Option.some.inj hm
   exact RR1 rfl rfl ⟨rfl, hL.fresh 3 rfl [] (by decide) (by decide) rfl⟩
 intro s_l1 F102 wd103 t89 hJ hm hr90
 unfold M.impl_StandingText_l1 at hm
 obtain ⟨f104, f105, f106, f107, f108, f109, f110, hL⟩ := hJ
 refine CSR ?_
 refine OV (.bool (decide (s_l1.2 < (x22.length : Int)))) rfl (x_lss f110 f109) ?_
 refine ONS ?_
 refine CW.condM (t := decide (s_l1.2 < (x22.length : Int))) rfl hm (fun hb111 hm => ?_) (fun hb111 hm => ?_)
 · refine CW.skip ?_
   refine CW.seq ?_
   refine CW.block ?_
   refine CSR ?_
   obtain ⟨x112, ha113, hm⟩ := bndE hm
   obtain ⟨hz114, ha118⟩ := idxE ha113
   obtain ⟨b115, q116, hix117⟩ := rdL_ix (hL.rdO 0 rfl) hz114 ha118
   refine OV (.pointer (some ⟨b115, q116, none⟩)) rfl (x_ix U27 Tryz_T2 f108 f110 hix117) ?_
   refine OV (.int .i64 x112) rfl (x_load1 U2 rfl rfl (rdF_cells (hL.rdO 0 rfl) hix117 ha118 0 _ rfl)) ?_
   refine OV (.int .i64 x112) rfl (x_assign) ?_
   refine OW.nil ?_
   refine CW.draw Tryz_mixed ?_
   have hL := hL.call (Mod.drew _)
   refine DW.pre (fuel := 0) (fin := bma 20 1048575) (C := fun w' => Mod None_ _ w') [0, 1, 2, 3, 4, 5, 6, 7, 8, 9, 10, 11, 12, 13, 14, 15, 16, 17, 18, 19] (Mod.refl _ _) (by kernel_rfl) (by kernel_rfl) ?_
   refine QW.cons rfl (QP.val (v := (.string s_l1.1)) rfl (fun w' hm' => x_mv f106) ?_)
   refine QW.cons rfl (QP.val (v := v18) rfl (fun w' hm' => x_mv f107) ?_)
   refine QW.cons rfl (QP.val (v := (.int .i64 x112)) rfl (fun w' hm' => x_move) ?_)
   obtain ⟨x119, ha120, hm⟩ := bndE hm
   obtain ⟨hz121, ha125⟩ := idxE ha120
   obtain ⟨b122, q123, hix124⟩ := rdL_ix (hL.rdO 1 rfl) hz121 ha125
   refine QW.cons rfl (QP.val (v := (.pointer (some ⟨b122, q123, none⟩))) rfl (fun w' hm' => x_ix U27 Tryz_T2 rfl rfl hix124) ?_)
   refine QW.cons rfl (QP.val (v := (.int .i64 x119)) rfl (fun w' hm' => x_load1 U2 rfl rfl (rdF_cells ((hL.call hm').rdO 1 rfl) hix124 ha125 0 _ rfl)) ?_)
   obtain ⟨x126, hx127, hm⟩ := bndE hm
   refine QW.cons rfl (QP.call (v := (.string x126)) rfl (fun w' hm' => x_call (vs := [(.int .i64 x119)]) Tryz_C29 ⟨rfl, trivial⟩) (fun w' hm' => (M.impl_text_ok w' ((hL.call hm').tab 3 rfl rfl htab) x119 hx127).mono (fun e w'' h => ⟨h.1, hm'.trans h.2.mod⟩)) ?_)
   obtain ⟨hc128, hm⟩ := chkE hm
   refine QW.cons rfl (QP.val (v := (.string (x126 ++ (⟨#[32]⟩ : ByteArray)))) rfl (fun w' hm' => x_addT rfl rfl hc128) ?_)
   refine QW.cons rfl (QP.val (v := (.int .i64 x112)) rfl (fun w' hm' => x_move) ?_)
   obtain ⟨x129, hx130, hm⟩ := bndE hm
   refine QW.cons rfl (QP.call (v := (.string x129)) rfl (fun w' hm' => x_call (vs := [(.int .i64 x112)]) Tryz_C29 ⟨rfl, trivial⟩) (fun w' hm' => (M.impl_text_ok w' ((hL.call hm').tab 3 rfl rfl htab) x112 hx130).mono (fun e w'' h => ⟨h.1, hm'.trans h.2.mod⟩)) ?_)
   obtain ⟨hc131, hm⟩ := chkE hm
   refine QW.cons rfl (QP.val (v := (.string ((x126 ++ (⟨#[32]⟩ : ByteArray)) ++ x129))) rfl (fun w' hm' => x_addT rfl rfl hc131) ?_)
   obtain ⟨hc132, hm⟩ := chkE hm
   refine QW.cons rfl (QP.val (v := (.string (((x126 ++ (⟨#[32]⟩ : ByteArray)) ++ x129) ++ (⟨#[32]⟩ : ByteArray)))) rfl (fun w' hm' => x_addT rfl rfl hc132) ?_)
   refine QW.cons rfl (QP.val (v := (.agg #[(.int .i64 a0.Boats), v1, v3])) rfl (fun w' hm' => x_loadN (cs := [(.int .i64 a0.Boats), v1, v3]) U26 Tryz_T26 rfl f105 ((hL.call hm').cellsB 2 rfl (o := 0) (l := [(.int .i64 a0.Boats), v1, v3]) (by intro j u hj; exact (by simpa using hj)))) ?_)
   refine QW.cons rfl (QP.val (v := v5) rfl (fun w' hm' => x_mv f104) ?_)
   refine QW.cons rfl (QP.val (v := (.int .i64 x112)) rfl (fun w' hm' => x_move) ?_)
   obtain ⟨x133, hx134, hm⟩ := bndE hm
   refine QW.cons rfl (QP.call (v := (.int .i64 x133)) rfl (fun w' hm' => x_call (vs := [(.agg #[(.int .i64 a0.Boats), v1, v3]), v5, (.int .i64 x112)]) Tryz_C30 ⟨rfl, rfl, rfl, trivial⟩) (fun w' hm' => (M.impl_netPoints_ok w' a0 ((hL.call hm').rdS 3 rfl h2) ((hL.call hm').rdS 3 rfl h4) a1 ((hL.call hm').rdS 3 rfl h6) x112 hx134).mono (fun e w'' h => ⟨h.1, hm'.trans h.2.mod⟩)) ?_)
   obtain ⟨x135, hx136, hm⟩ := bndE hm
   refine QW.cons rfl (QP.call (v := (.string x135)) rfl (fun w' hm' => x_call (vs := [(.int .i64 x133)]) Tryz_C29 ⟨rfl, trivial⟩) (fun w' hm' => (M.impl_text_ok w' ((hL.call hm').tab 3 rfl rfl htab) x133 hx136).mono (fun e w'' h => ⟨h.1, hm'.trans h.2.mod⟩)) ?_)
   obtain ⟨hc137, hm⟩ := chkE hm
   refine QW.cons rfl (QP.val (v := (.string ((((x126 ++ (⟨#[32]⟩ : ByteArray)) ++ x129) ++ (⟨#[32]⟩ : ByteArray)) ++ x135))) rfl (fun w' hm' => x_addT rfl rfl hc137) ?_)
   obtain ⟨hc138, hm⟩ := chkE hm
   refine QW.cons rfl (QP.val (v := (.string (((((x126 ++ (⟨#[32]⟩ : ByteArray)) ++ x129) ++ (⟨#[32]⟩ : ByteArray)) ++ x135) ++ (⟨#[10]⟩ : ByteArray)))) rfl (fun w' hm' => x_addT rfl rfl hc138) ?_)
   obtain ⟨hc139, hm⟩ := chkE hm
   refine QW.cons rfl (QP.val (v := (.string (s_l1.1 ++ (((((x126 ++ (⟨#[32]⟩ : ByteArray)) ++ x129) ++ (⟨#[32]⟩ : ByteArray)) ++ x135) ++ (⟨#[10]⟩ : ByteArray))))) rfl (fun w' hm' => x_addT rfl rfl hc139) ?_)
   refine QW.cons rfl (QP.val (v := (.string (s_l1.1 ++ (((((x126 ++ (⟨#[32]⟩ : ByteArray)) ++ x129) ++ (⟨#[32]⟩ : ByteArray)) ++ x135) ++ (⟨#[10]⟩ : ByteArray))))) rfl (fun w' hm' => x_assign) ?_)
   refine QW.nil ?_
   intro wd140 hmod
   have hL := hL.call hmod
   refine DW.done (by kernel_rfl) ?_
   refine CW.regionL ?_
   refine OV (.int .i64 (w64 (s_l1.2 + 1))) rfl (x_add f110 rfl) ?_
   refine OV (.int .i64 (w64 (s_l1.2 + 1))) rfl (x_move) ?_
   refine OW.nil ?_
   obtain rfl := Option.some.inj hm
   exact ⟨_, rfl, ⟨f104, f105, rfl, f107, f108, f109, rfl, hL⟩⟩
 refine CW.exit ?_
 refine XJ.hit ?_
 obtain rfl := Option.some.inj hm
 exact ⟨_, rfl, ⟨f104, f105, f106, f107, f108, f109, f110, hL⟩⟩

theorem M.spec_l26Number_ok (w0 : World) (a0 : Int) {r : ByteArray} (hm : M.spec_l26Number a0 = some r) :
    Calls Tryz.prog 31 #[(.int .i64 a0)] w0 fun e w' => e = .returned (.string r) ∧ Fresh w0 w' [] := by
 unfold M.spec_l26Number at hm
 refine calls_CW (args := [(.int .i64 a0)]) Tryz.func31 rfl rfl rfl ?_
 have hL := Hp.start w0
 refine CSR ?_
 refine OV (.string (⟨#[]⟩ : ByteArray)) rfl (x_assign) ?_
 refine ONR ?_
 refine OW.cons (S_lit ([] : List UInt8) hL U22 Tryz_T5 rfl (by decide) (by first | (simp [Instr.fill, madeCells, Value.cells, ev, upd, Flat.enc, Flat.sz]; done) | rfl | kernel_rfl) rfl rfl ?_)
 intro wd1 v2 S3 hL
 refine OV v2 rfl (x_assign) ?_
 refine ONS ?_
 refine CSR ?_
 refine OV (.int .i64 a0) rfl (x_move) ?_
 refine OV (.int .i64 a0) rfl (x_assign) ?_
 refine OW.nil ?_
 obtain ⟨o40, ho41, hm⟩ := bndE hm
 refine CW.loopB (fun (s_l1 : (List UInt8) × Int) (F : Fr) (w : World) => ∃ (v36 : Value) (S37 : Nat → Prop), F 3 = v36 ∧ F 4 = (.int .i64 s_l1.2) ∧ Hp w0 [Ent.own 5 S37 v36 s_l1.1, Ent.snap w0 w0.heap.size] w) (fun o => outc o (fun x => some x) (fun s => M.spec_l26Number_a1 s) = some r) ho41 hm ⟨v2, S3, rfl, rfl, hL⟩ ?_ ?_
 · intro s_l1 F42 wd43 hJ hm
   have hm := outcE hm
   have hm : M.spec_l26Number_a1 s_l1 = some r := hm
   unfold M.spec_l26Number_a1 at hm
   obtain ⟨v36, S37, f44, f45, hL⟩ := hJ
   refine CSR ?_
   refine OV v36 rfl (x_mv f44) ?_
   refine OV (.string (bts s_l1.1)) rfl (x_bts U22 U5 U9 rfl (hL.rdO 0 rfl)) ?_
   refine OV (.string (bts s_l1.1)) rfl (x_assign) ?_
   refine OW.nil ?_
   refine CW.ret ?_
   obtain rfl := Option.some.inj hm
   exact RR1 rfl rfl ⟨rfl, hL.fresh 1 rfl [] (by decide) (by decide) rfl⟩
 intro s_l1 F46 wd47 t38 hJ hm hr39
 unfold M.spec_l26Number_l1 at hm
 obtain ⟨v36, S37, f48, f49, hL⟩ := hJ
 refine CW.seq ?_
 refine CW.seqJ (fun (s_j1 : Bool) (F : Fr) (w : World) => F 3 = v36 ∧ F 4 = (.int .i64 s_l1.2) ∧ F 13 = (.bool s_j1) ∧ Hp w0 [Ent.own 5 S37 v36 s_l1.1, Ent.snap w0 w0.heap.size] w) (fun s_j1 => M.spec_l26Number_j1 s_l1 s_j1 = some t38) ?_ ?_
 · refine CW.regionL ?_
   refine OV (.int .i64 s_l1.2) rfl (x_mv f49) ?_
   refine OV (.bool (decide (0 < s_l1.2))) rfl (x_gtr rfl rfl) ?_
   refine OV (.bool (decide (0 < s_l1.2))) rfl (x_move) ?_
   refine ifB_elim hm (fun hb64 hm => ?_) (fun hb64 hm => ?_)
   · refine OW.cons (OP.no' rfl rfl hb64 rfl ?_)
     refine OW.cons (OP.no' rfl rfl hb64 rfl ?_)
     refine OW.cons (OP.no' rfl rfl hb64 rfl ?_)
     refine OV (.bool true) rfl (x_pickT' rfl hb64 rfl) ?_
     refine OW.nil ?_
     exact ⟨true, hm, ⟨f48, f49, rfl, hL⟩⟩
   refine OW.cons (OP.yes' rfl rfl hb64 (OP.val (v := v36) rfl (x_mv f48) ?_))
   refine OW.cons (OP.yes' rfl rfl hb64 (OP.val (v := (.int .i64 (s_l1.1.length : Int))) rfl (x_lenR U22 rfl (hL.rdO 0 rfl)) ?_))
   refine OW.cons (OP.yes' rfl rfl hb64 (OP.val (v := (.bool ((s_l1.1.length : Int) == 0))) rfl (x_eql rfl rfl) ?_))
   refine OV (.bool ((s_l1.1.length : Int) == 0)) rfl (x_pickF' rfl hb64 rfl) ?_
   refine OW.nil ?_
   exact ⟨(s_l1.1.length : Int) == 0, hm, ⟨f48, f49, rfl, hL⟩⟩
 intro s_j1 F51 wd52 hJ hm
 unfold M.spec_l26Number_j1 at hm
 obtain ⟨f53, f54, f55, hL⟩ := hJ
 refine CW.condM (t := s_j1) f55 hm (fun hb56 hm => ?_) (fun hb56 hm => ?_)
 · refine CW.skip ?_
   refine CW.seq ?_
   refine CW.block ?_
   refine CW.regionL ?_
   refine OV (.int .i64 s_l1.2) rfl (x_mv f54) ?_
   refine OV (.int .i64 (s_l1.2.tmod 10)) rfl (x_rem rfl rfl (by decide)) ?_
   refine OV (.int .i64 (w64 (48 + (s_l1.2.tmod 10)))) rfl (x_add rfl rfl) ?_
   refine OV (.int .u8 (IntKind.u8.wrap (w64 (48 + (s_l1.2.tmod 10))))) rfl (x_conv U2 U5 rfl) ?_
   refine OW.cons (S_lit ([(UInt8.ofNat (IntKind.u8.wrap (w64 (48 + (s_l1.2.tmod 10)))).toNat)] : List UInt8) hL U22 Tryz_T5 rfl (by decide) (by simp only [Flat.enc, List.flatMap_cons, List.flatMap_nil, u8w]; first | rfl | kernel_rfl) rfl rfl ?_)
   intro wd57 v58 S59 hL
   refine OV v36 rfl (x_mv f53) ?_
   obtain ⟨hc63, hm⟩ := chkE hm
   refine OW.cons (S_append (ys := s_l1.1) hL 0 rfl U22 Tryz_T5 rfl rfl rfl (hL.rdO 1 rfl) hc63 (by decide) rfl ?_)
   intro wd60 v61 S62 hL
   refine OV v61 rfl (x_assign) ?_
   refine OW.nil ?_
   refine CW.regionL ?_
   refine OV (.int .i64 s_l1.2) rfl (x_mv f54) ?_
   refine OV (.int .i64 (w64 (s_l1.2.tdiv 10))) rfl (x_quo rfl rfl (by decide)) ?_
   refine OV (.int .i64 (w64 (s_l1.2.tdiv 10))) rfl (x_assign) ?_
   refine OW.nil ?_
   have hL := hL.sel [0, 2] (by decide) rfl
   obtain rfl := Option.some.inj hm
   exact ⟨_, rfl, ⟨v61, S62, rfl, rfl, hL⟩⟩
 refine CW.exit ?_
 refine XJ.hit ?_
 obtain rfl := Option.some.inj hm
 exact ⟨_, rfl, ⟨v36, S37, f53, f54, hL⟩⟩

end Go.Proofs.YtmmkkcmliofknaaGreatDoor
