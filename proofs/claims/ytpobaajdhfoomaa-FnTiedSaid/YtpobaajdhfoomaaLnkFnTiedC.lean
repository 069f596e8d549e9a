/- Links: each Go function returns what its model computes and leaves what was there. Printed by my generator. -/
import Derived.Test.YtpobaajdhfoomaaLnkFnTiedB
namespace Go.Proofs.Ytpobaajdhfoomaa
set_option maxRecDepth 10000
open Go Go.RowKit Go.ChangeShapes Go.WideShapes
set_option linter.unusedVariables false
set_option linter.unusedSimpArgs false

theorem M.spec_l26Place_ok (w0 : World) (a0 : Race) {v1 : Value} (h2 : rdL (· < w0.heap.size) w0 v1 a0.Finishes) (a1 : List Int) {v3 : Value} (h4 : rdL (· < w0.heap.size) w0 v3 a1) (a2 : Int) {r : Int × Int} (hm : M.spec_l26Place a0 a1 a2 = some r) :
    Calls Try.prog 137 #[(.agg #[v1]), v3, (.int .i64 a2)] w0 fun e w' => e = .returned (.tuple #[(.int .i64 r.1), (.int .i64 r.2)]) ∧ Fresh w0 w' [] := by
 unfold M.spec_l26Place at hm
 refine calls_CW (args := [(.agg #[v1]), v3, (.int .i64 a2)]) Try.func137 rfl rfl rfl ?_
 have hL := Hp.start w0
 refine CSR ?_
 refine OW.cons (S_box (cs := #[v1]) hL rfl rfl rfl ?_)
 intro wd5 b6 hL
 refine OV (.int .i64 0) rfl (x_assign) <| OV (.int .i64 0) rfl (x_assign) <| ONR <| OV (.int .i64 1) rfl (x_assign) <| ONR <| OV (.int .i64 0) rfl (x_assign) <| ONS <| CSR <| OV (.int .i64 0) rfl (x_assign) <| OW.nil ?_
 obtain ⟨o819, ho820, hm⟩ := bndE hm
 refine CW.loopB (fun (s_l1 : Int × Int × Int) (F : Fr) (w : World) => F 1 = v3 ∧ F 2 = (.int .i64 a2) ∧ F 3 = (.pointer (some ⟨b6, 0, none⟩)) ∧ F 8 = (.int .i64 s_l1.1) ∧ F 9 = (.int .i64 s_l1.2.1) ∧ F 10 = (.int .i64 s_l1.2.2) ∧ Hp w0 [Ent.blk b6 101 #[v1], Ent.snap w0 w0.heap.size] w) (fun o => outc o (fun x => some x) (fun s => M.spec_l26Place_a1 s) = some r) ho820 hm ⟨rfl, rfl, rfl, rfl, rfl, rfl, hL⟩ ?_ ?_
 · intro s_l1 F821 wd822 hJ hm
   have hm := outcE hm
   have hm : M.spec_l26Place_a1 s_l1 = some r := hm
   unfold M.spec_l26Place_a1 at hm
   obtain ⟨f823, f824, f825, f826, f827, f828, hL⟩ := hJ
   refine CSR <| OV (.int .i64 s_l1.1) rfl (x_mv f826) <| OV (.int .i64 s_l1.2.1) rfl (x_mv f827) <| OV (.int .i64 s_l1.1) rfl (x_assign) <| OV (.int .i64 s_l1.2.1) rfl (x_assign) <| OW.nil <| CW.ret ?_
   obtain rfl := Option.some.inj hm
   exact RR2 rfl rfl rfl ⟨rfl, hL.fresh 1 rfl [] (by decide) (by decide) rfl⟩
 intro s_l1 F829 wd830 t817 hJ hm hr818
 unfold M.spec_l26Place_l1 at hm
 obtain ⟨f831, f832, f833, f834, f835, f836, hL⟩ := hJ
 refine CW.seq <| CSR <| OV (.int .i64 s_l1.2.2) rfl (x_mv f836) <| OV (.pointer (some ⟨b6, 0, none⟩)) rfl (x_fieldAddr (fsz := 1) 0 0 0 U101 rfl Try_T99 rfl f833 rfl) <| OV v1 rfl (x_load1 U99 rfl rfl (hL.cellB 0 rfl rfl)) <| OV (.int .i64 (a0.Finishes.length : Int)) rfl (x_lenR U99 rfl (hL.rdS 1 rfl h2)) <| OV (.bool (decide (s_l1.2.2 < (a0.Finishes.length : Int)))) rfl (x_lss rfl rfl) <| OW.nil ?_
 refine CW.condM (t := decide (s_l1.2.2 < (a0.Finishes.length : Int))) rfl hm (fun hb837 hm => ?_) (fun hb837 hm => ?_)
 · refine CW.skip ?_
   refine CW.seqJ (fun (s_j1 : Int × Int) (F : Fr) (w : World) => F 1 = v3 ∧ F 2 = (.int .i64 a2) ∧ F 3 = (.pointer (some ⟨b6, 0, none⟩)) ∧ F 8 = (.int .i64 s_j1.1) ∧ F 9 = (.int .i64 s_j1.2) ∧ F 10 = (.int .i64 s_l1.2.2) ∧ Hp w0 [Ent.blk b6 101 #[v1], Ent.snap w0 w0.heap.size] w) (fun s_j1 => M.spec_l26Place_j1 s_l1 s_j1 = some t817) ?_ ?_
   · refine CW.blockJ (fun (s_j2 : Int × Int) (F : Fr) (w : World) => F 1 = v3 ∧ F 2 = (.int .i64 a2) ∧ F 3 = (.pointer (some ⟨b6, 0, none⟩)) ∧ F 8 = (.int .i64 s_j2.1) ∧ F 9 = (.int .i64 s_j2.2) ∧ F 10 = (.int .i64 s_l1.2.2) ∧ Hp w0 [Ent.blk b6 101 #[v1], Ent.snap w0 w0.heap.size] w) (fun s_j2 => M.spec_l26Place_j2 s_l1 s_j2 = some t817) ?_ ?_
     · refine CSR <| OV (.pointer (some ⟨b6, 0, none⟩)) rfl (x_fieldAddr (fsz := 1) 0 0 0 U101 rfl Try_T99 rfl f833 rfl) <| OV v1 rfl (x_load1 U99 rfl rfl (hL.cellB 0 rfl rfl)) <| OV (.int .i64 s_l1.2.2) rfl (x_mv f836) ?_
       obtain ⟨x1147, ha1148, hm⟩ := bndE hm
       obtain ⟨hz1149, ha1153⟩ := idxE ha1148
       obtain ⟨b1150, q1151, hix1152⟩ := rdL_ix (hL.rdS 1 rfl h2) hz1149 ha1153
       refine OV (.pointer (some ⟨b1150, q1151, none⟩)) rfl (x_ix U99 Try_T103 rfl rfl hix1152) <| OV (.agg #[(.int .i64 x1147.Boat), (.int .i64 x1147.Code), (.int .i64 x1147.Time)]) rfl (x_loadN (cs := [(.int .i64 x1147.Boat), (.int .i64 x1147.Code), (.int .i64 x1147.Time)]) U103 Try_T103 rfl rfl (rdF_cells (hL.rdS 1 rfl h2) hix1152 ha1153)) ?_
       refine OW.cons (S_alloc (cs := #[(.int .i64 0), (.int .i64 0), (.int .i64 0)]) hL Try_T103 rfl rfl ?_)
       intro wd1154 b1155 hL
       refine OW.cons (S_storeN (l := [(.int .i64 x1147.Boat), (.int .i64 x1147.Code), (.int .i64 x1147.Time)]) (cs' := #[(.int .i64 x1147.Boat), (.int .i64 x1147.Code), (.int .i64 x1147.Time)]) hL 0 rfl Try_T103 rfl rfl (List.forall_mem_cons.2 ⟨rfl, (List.forall_mem_cons.2 ⟨rfl, (List.forall_mem_cons.2 ⟨rfl, (fun _ h => by cases h)⟩)⟩)⟩) rfl (Nat.le_of_ble_eq_true rfl) rfl ?_)
       intro wd1156 hL
       refine ONS ?_
       refine CW.seqJ (fun (s_j3 : Bool) (F : Fr) (w : World) => F 1 = v3 ∧ F 2 = (.int .i64 a2) ∧ F 3 = (.pointer (some ⟨b6, 0, none⟩)) ∧ F 8 = (.int .i64 s_l1.1) ∧ F 9 = (.int .i64 s_l1.2.1) ∧ F 10 = (.int .i64 s_l1.2.2) ∧ F 11 = (.pointer (some ⟨b1155, 0, none⟩)) ∧ F 37 = (.bool s_j3) ∧ Hp w0 [Ent.blk b1155 103 #[(.int .i64 x1147.Boat), (.int .i64 x1147.Code), (.int .i64 x1147.Time)], Ent.blk b6 101 #[v1], Ent.snap w0 w0.heap.size] w) (fun s_j3 => M.spec_l26Place_j3 a0 a2 s_l1 x1147 s_j3 = some t817) ?_ ?_
       · refine CW.draw Try_mixed ?_
         have hL := hL.call (Mod.drew _)
         refine DW.pre (fuel := 0) (fin := bma 14 16383) (C := fun w' => Mod None_ _ w') [0, 1, 2, 3, 4, 5, 6, 7, 8, 9, 10, 11, 12, 13] (Mod.refl _ _) (by kernel_rfl) (by kernel_rfl) ?_
         refine QV (.agg #[(.int .i64 x1147.Boat), (.int .i64 x1147.Code), (.int .i64 x1147.Time)]) rfl rfl (fun w' hm' => x_loadN (cs := [(.int .i64 x1147.Boat), (.int .i64 x1147.Code), (.int .i64 x1147.Time)]) U103 Try_T103 rfl rfl ((hL.call hm').cellsB 0 rfl (o := 0) (l := [(.int .i64 x1147.Boat), (.int .i64 x1147.Code), (.int .i64 x1147.Time)]) (by intro j u hj; exact (by simpa using hj)))) ?_
         obtain ⟨x1223, hx1224, hm⟩ := bndE hm
         refine QW.cons rfl (QP.call (v := (.bool x1223)) rfl (fun w' hm' => x_call (vs := [(.agg #[(.int .i64 x1147.Boat), (.int .i64 x1147.Code), (.int .i64 x1147.Time)])]) Try_C145 ⟨rfl, trivial⟩) (fun w' hm' => (M.spec_l26Done_ok w' x1147 hx1224).mono (fun e w'' h => ⟨h.1, hm'.trans h.2.mod⟩)) ?_)
         refine QV (.bool (!x1223)) rfl rfl (fun w' hm' => x_not rfl) <| QV (.bool (!x1223)) rfl rfl (fun w' hm' => x_move) ?_
         refine ifB_elim hm (fun hb1225 hm => ?_) (fun hb1225 hm => ?_)
         · refine QW.cons rfl (QP.no' rfl rfl hb1225 rfl ?_)
           refine QW.cons rfl (QP.no' rfl rfl hb1225 rfl ?_)
           refine QW.cons rfl (QP.no' rfl rfl hb1225 rfl ?_)
           refine QW.cons rfl (QP.no' rfl rfl hb1225 rfl ?_)
           refine QW.cons rfl (QP.no' rfl rfl hb1225 rfl ?_)
           refine QW.cons rfl (QP.no' rfl rfl hb1225 rfl ?_)
           refine QW.cons rfl (QP.no' rfl rfl hb1225 rfl ?_)
           refine QW.cons rfl (QP.no' rfl rfl hb1225 rfl ?_)
           refine QW.cons rfl (QP.no' rfl rfl hb1225 rfl ?_)
           refine QV (.bool true) rfl rfl (fun w' hm' => x_pickT' rfl hb1225 rfl) ?_
           refine QW.nil ?_
           intro wd1226 hmod
           have hL := hL.call hmod
           refine DW.done (by kernel_rfl) ?_
           exact ⟨true, hm, ⟨f831, f832, f833, f834, f835, f836, rfl, rfl, hL⟩⟩
         refine QW.cons rfl (QP.yes' rfl rfl hb1225 (QP.val (v := v3) rfl (fun w' hm' => x_mv f831) ?_))
         refine QW.cons rfl (QP.yes' rfl rfl hb1225 (QP.val (v := (.int .i64 s_l1.2.2)) rfl (fun w' hm' => x_mv f836) ?_))
         obtain ⟨x1227, ha1228, hm⟩ := bndE hm
         obtain ⟨hz1229, ha1233⟩ := idxE ha1228
         obtain ⟨b1230, q1231, hix1232⟩ := rdL_ix (hL.rdS 2 rfl h4) hz1229 ha1233
         refine QW.cons rfl (QP.yes' rfl rfl hb1225 (QP.val (v := (.pointer (some ⟨b1230, q1231, none⟩))) rfl (fun w' hm' => x_ix U25 Try_T2 rfl rfl hix1232) ?_))
         refine QW.cons rfl (QP.yes' rfl rfl hb1225 (QP.val (v := (.int .i64 x1227)) rfl (fun w' hm' => x_load1 U2 rfl rfl (rdF_cells ((hL.call hm').rdS 2 rfl h4) hix1232 ha1233 0 _ rfl)) ?_))
         refine QW.cons rfl (QP.yes' rfl rfl hb1225 (QP.val (v := v3) rfl (fun w' hm' => x_mv f831) ?_))
         refine QW.cons rfl (QP.yes' rfl rfl hb1225 (QP.val (v := (.int .i64 a2)) rfl (fun w' hm' => x_mv f832) ?_))
         obtain ⟨x1234, ha1235, hm⟩ := bndE hm
         obtain ⟨hz1236, ha1240⟩ := idxE ha1235
         obtain ⟨b1237, q1238, hix1239⟩ := rdL_ix (hL.rdS 2 rfl h4) hz1236 ha1240
         refine QW.cons rfl (QP.yes' rfl rfl hb1225 (QP.val (v := (.pointer (some ⟨b1237, q1238, none⟩))) rfl (fun w' hm' => x_ix U25 Try_T2 rfl rfl hix1239) ?_))
         refine QW.cons rfl (QP.yes' rfl rfl hb1225 (QP.val (v := (.int .i64 x1234)) rfl (fun w' hm' => x_load1 U2 rfl rfl (rdF_cells ((hL.call hm').rdS 2 rfl h4) hix1239 ha1240 0 _ rfl)) ?_))
         refine QW.cons rfl (QP.yes' rfl rfl hb1225 (QP.val (v := (.bool (x1227 != x1234))) rfl (fun w' hm' => x_neq rfl rfl) ?_))
         refine QV (.bool (x1227 != x1234)) rfl rfl (fun w' hm' => x_pickF' rfl hb1225 rfl) ?_
         refine QW.nil ?_
         intro wd1241 hmod
         have hL := hL.call hmod
         refine DW.done (by kernel_rfl) ?_
         exact ⟨x1227 != x1234, hm, ⟨f831, f832, f833, f834, f835, f836, rfl, rfl, hL⟩⟩
       intro s_j3 F1176 wd1177 hJ hm
       unfold M.spec_l26Place_j3 at hm
       obtain ⟨f1178, f1179, f1180, f1181, f1182, f1183, f1184, f1185, hL⟩ := hJ
       refine CW.condM (t := s_j3) f1185 hm (fun hb1186 hm => ?_) (fun hb1186 hm => ?_)
       · refine CW.exit ?_
         refine XJ.hit ?_
         have hL := hL.sel [1, 2] (by decide) rfl
         exact ⟨(s_l1.1, s_l1.2.1), hm, ⟨f1178, f1179, f1180, f1181, f1182, f1183, hL⟩⟩
       refine CW.skip ?_
       refine CW.seqJ (fun (s_j4 : Int) (F : Fr) (w : World) => F 1 = v3 ∧ F 2 = (.int .i64 a2) ∧ F 3 = (.pointer (some ⟨b6, 0, none⟩)) ∧ F 8 = (.int .i64 s_j4) ∧ F 9 = (.int .i64 s_l1.2.1) ∧ F 10 = (.int .i64 s_l1.2.2) ∧ F 11 = (.pointer (some ⟨b1155, 0, none⟩)) ∧ Hp w0 [Ent.blk b1155 103 #[(.int .i64 x1147.Boat), (.int .i64 x1147.Code), (.int .i64 x1147.Time)], Ent.blk b6 101 #[v1], Ent.snap w0 w0.heap.size] w) (fun s_j4 => M.spec_l26Place_j4 a0 a2 s_l1 x1147 s_j4 = some t817) ?_ ?_
       · refine CW.seq ?_
         refine CW.draw Try_mixed ?_
         have hL := hL.call (Mod.drew _)
         refine DW.pre (fuel := 0) (fin := bma 9 511) (C := fun w' => Mod None_ _ w') [0, 1, 2, 3, 4, 5, 6, 7, 8] (Mod.refl _ _) (by kernel_rfl) (by kernel_rfl) ?_
         refine QV (.pointer (some ⟨b1155, 2, none⟩)) rfl rfl (fun w' hm' => x_fieldAddr (fsz := 1) 0 2 2 U103 rfl Try_T2 rfl f1184 rfl) <| QV (.int .i64 x1147.Time) rfl rfl (fun w' hm' => x_load1 U2 rfl rfl ((hL.call hm').cellB 0 rfl rfl)) <| QV (.pointer (some ⟨b6, 0, none⟩)) rfl rfl (fun w' hm' => x_fieldAddr (fsz := 1) 0 0 0 U101 rfl Try_T99 rfl f1180 rfl) <| QV v1 rfl rfl (fun w' hm' => x_load1 U99 rfl rfl ((hL.call hm').cellB 1 rfl rfl)) <| QV (.int .i64 a2) rfl rfl (fun w' hm' => x_mv f1179) ?_
         obtain ⟨x1214, ha1215, hm⟩ := bndE hm
         obtain ⟨hz1216, ha1220⟩ := idxE ha1215
         obtain ⟨b1217, q1218, hix1219⟩ := rdL_ix (hL.rdS 2 rfl h2) hz1216 ha1220
         refine QV (.pointer (some ⟨b1217, q1218, none⟩)) rfl rfl (fun w' hm' => x_ix U99 Try_T103 rfl rfl hix1219) <| QV (.pointer (some ⟨b1217, q1218 + 2, none⟩)) rfl rfl (fun w' hm' => x_fieldAddr (fsz := 1) q1218 2 (q1218 + 2) U103 rfl Try_T2 rfl rfl rfl) <| QV (.int .i64 x1214.Time) rfl rfl (fun w' hm' => x_load1 U2 rfl rfl (rdF_cells ((hL.call hm').rdS 2 rfl h2) hix1219 ha1220 2 _ rfl)) <| QV (.bool (decide (x1147.Time < x1214.Time))) rfl rfl (fun w' hm' => x_lss rfl rfl) ?_
         refine QW.nil ?_
         intro wd1221 hmod
         have hL := hL.call hmod
         refine DW.done (by kernel_rfl) ?_
         refine CW.condM (t := decide (x1147.Time < x1214.Time)) rfl hm (fun hb1222 hm => ?_) (fun hb1222 hm => ?_)
         · refine CW.regionL <| OV (.int .i64 s_l1.1) rfl (x_mv f1181) <| OV (.int .i64 (w64 (s_l1.1 + 1))) rfl (x_add rfl rfl) <| OV (.int .i64 (w64 (s_l1.1 + 1))) rfl (x_assign) <| OW.nil ?_
           exact ⟨w64 (s_l1.1 + 1), hm, ⟨f1178, f1179, f1180, rfl, f1182, f1183, f1184, hL⟩⟩
         refine CW.skip ?_
         exact ⟨s_l1.1, hm, ⟨f1178, f1179, f1180, f1181, f1182, f1183, f1184, hL⟩⟩
       intro s_j4 F1196 wd1197 hJ hm
       unfold M.spec_l26Place_j4 at hm
       obtain ⟨f1198, f1199, f1200, f1201, f1202, f1203, f1204, hL⟩ := hJ
       refine CW.seq ?_
       refine CW.draw Try_mixed ?_
       have hL := hL.call (Mod.drew _)
       refine DW.pre (fuel := 0) (fin := bma 9 511) (C := fun w' => Mod None_ _ w') [0, 1, 2, 3, 4, 5, 6, 7, 8] (Mod.refl _ _) (by kernel_rfl) (by kernel_rfl) ?_
       refine QV (.pointer (some ⟨b1155, 2, none⟩)) rfl rfl (fun w' hm' => x_fieldAddr (fsz := 1) 0 2 2 U103 rfl Try_T2 rfl f1204 rfl) <| QV (.int .i64 x1147.Time) rfl rfl (fun w' hm' => x_load1 U2 rfl rfl ((hL.call hm').cellB 0 rfl rfl)) <| QV (.pointer (some ⟨b6, 0, none⟩)) rfl rfl (fun w' hm' => x_fieldAddr (fsz := 1) 0 0 0 U101 rfl Try_T99 rfl f1200 rfl) <| QV v1 rfl rfl (fun w' hm' => x_load1 U99 rfl rfl ((hL.call hm').cellB 1 rfl rfl)) <| QV (.int .i64 a2) rfl rfl (fun w' hm' => x_mv f1199) ?_
       obtain ⟨x1205, ha1206, hm⟩ := bndE hm
       obtain ⟨hz1207, ha1211⟩ := idxE ha1206
       obtain ⟨b1208, q1209, hix1210⟩ := rdL_ix (hL.rdS 2 rfl h2) hz1207 ha1211
       refine QV (.pointer (some ⟨b1208, q1209, none⟩)) rfl rfl (fun w' hm' => x_ix U99 Try_T103 rfl rfl hix1210) <| QV (.pointer (some ⟨b1208, q1209 + 2, none⟩)) rfl rfl (fun w' hm' => x_fieldAddr (fsz := 1) q1209 2 (q1209 + 2) U103 rfl Try_T2 rfl rfl rfl) <| QV (.int .i64 x1205.Time) rfl rfl (fun w' hm' => x_load1 U2 rfl rfl (rdF_cells ((hL.call hm').rdS 2 rfl h2) hix1210 ha1211 2 _ rfl)) <| QV (.bool (x1147.Time == x1205.Time)) rfl rfl (fun w' hm' => x_eql rfl rfl) ?_
       refine QW.nil ?_
       intro wd1212 hmod
       have hL := hL.call hmod
       refine DW.done (by kernel_rfl) ?_
       refine CW.condM (t := x1147.Time == x1205.Time) rfl hm (fun hb1213 hm => ?_) (fun hb1213 hm => ?_)
       · refine CW.regionL <| OV (.int .i64 s_l1.2.1) rfl (x_mv f1202) <| OV (.int .i64 (w64 (s_l1.2.1 + 1))) rfl (x_add rfl rfl) <| OV (.int .i64 (w64 (s_l1.2.1 + 1))) rfl (x_assign) <| OW.nil ?_
         have hL := hL.sel [1, 2] (by decide) rfl
         exact ⟨(s_j4, w64 (s_l1.2.1 + 1)), hm, ⟨f1198, f1199, f1200, f1201, rfl, f1203, hL⟩⟩
       refine CW.skip ?_
       have hL := hL.sel [1, 2] (by decide) rfl
       exact ⟨(s_j4, s_l1.2.1), hm, ⟨f1198, f1199, f1200, f1201, f1202, f1203, hL⟩⟩
     intro s_j2 F1139 wd1140 hJ hm
     unfold M.spec_l26Place_j2 at hm
     obtain ⟨f1141, f1142, f1143, f1144, f1145, f1146, hL⟩ := hJ
     exact ⟨(s_j2.1, s_j2.2), hm, ⟨f1141, f1142, f1143, f1144, f1145, f1146, hL⟩⟩
   intro s_j1 F1036 wd1037 hJ hm
   unfold M.spec_l26Place_j1 at hm
   obtain ⟨f1038, f1039, f1040, f1041, f1042, f1043, hL⟩ := hJ
   refine CW.regionL <| OV (.int .i64 s_l1.2.2) rfl (x_mv f1043) <| OV (.int .i64 (w64 (s_l1.2.2 + 1))) rfl (x_add rfl rfl) <| OV (.int .i64 (w64 (s_l1.2.2 + 1))) rfl (x_assign) <| OW.nil ?_
   obtain rfl := Option.some.inj hm
   exact ⟨_, rfl, ⟨f1038, f1039, f1040, f1041, f1042, rfl, hL⟩⟩
 refine CW.exit ?_
 refine XJ.hit ?_
 obtain rfl := Option.some.inj hm
 exact ⟨_, rfl, ⟨f831, f832, f833, f834, f835, f836, hL⟩⟩

theorem M.spec_l26Points_ok (w0 : World) (a0 : Race) {v1 : Value} (h2 : rdL (· < w0.heap.size) w0 v1 a0.Finishes) (a1 : Int) {r : (List Int)} (hm : M.spec_l26Points a0 a1 = some r) :
    Calls Try.prog 123 #[(.agg #[v1]), (.int .i64 a1)] w0 fun e w' => ∃ (rv0 : Value) (rS0 : Nat → Prop), e = .returned rv0 ∧ Fresh w0 w' [Ent.own 2 rS0 rv0 r] := by
 unfold M.spec_l26Points at hm
 refine calls_CW (args := [(.agg #[v1]), (.int .i64 a1)]) Try.func123 rfl rfl rfl ?_
 have hL := Hp.start w0
 refine CSR ?_
 refine OW.cons (S_box (cs := #[v1]) hL rfl rfl rfl ?_)
 intro wd3 b4 hL
 refine OV (.slice none 0 0) rfl (x_assign) <| ONR <| OV (.pointer (some ⟨b4, 0, none⟩)) rfl (x_fieldAddr (fsz := 1) 0 0 0 U101 rfl Try_T99 rfl rfl rfl) <| OV v1 rfl (x_load1 U99 rfl rfl (hL.cellB 0 rfl rfl)) <| OV (.int .i64 (a0.Finishes.length : Int)) rfl (x_lenR U99 rfl (hL.rdS 1 rfl h2)) <| OV (.int .i64 (a0.Finishes.length : Int)) rfl (x_assign) <| ONR <| OV (.int .i64 0) rfl (x_assign) <| ONS <| CSR <| OV (.int .i64 0) rfl (x_assign) <| OW.nil ?_
 obtain ⟨o115, ho116, hm⟩ := bndE hm
 refine CW.loopB (fun (s_l1 : Int × Int) (F : Fr) (w : World) => F 1 = (.int .i64 a1) ∧ F 2 = (.pointer (some ⟨b4, 0, none⟩)) ∧ F 5 = (.int .i64 (a0.Finishes.length : Int)) ∧ F 6 = (.int .i64 s_l1.1) ∧ F 7 = (.int .i64 s_l1.2) ∧ Hp w0 [Ent.blk b4 101 #[v1], Ent.snap w0 w0.heap.size] w) (fun o => outc o (fun x => some x) (fun s => M.spec_l26Points_a1 a0 a1 s) = some r) ho116 hm ⟨rfl, rfl, rfl, rfl, rfl, hL⟩ ?_ ?_
 · intro s_l1 F117 wd118 hJ hm
   have hm := outcE hm
   have hm : M.spec_l26Points_a1 a0 a1 s_l1 = some r := hm
   unfold M.spec_l26Points_a1 at hm
   obtain ⟨f119, f120, f121, f122, f123, hL⟩ := hJ
   refine CSR <| OV (.int .i64 (a0.Finishes.length : Int)) rfl (x_mv f121) ?_
   obtain ⟨hc127, hm⟩ := chkE hm
   refine OW.cons (S_make (α := Int) 0 hL U25 Try_T2 rfl rfl rfl hc127 (by decide) rfl ?_)
   intro wd124 v125 S126 hL
   refine OV v125 rfl (x_assign) <| ONR <| OV (.int .i64 (a0.Finishes.length : Int)) rfl (x_mv f121) ?_
   obtain ⟨hc131, hm⟩ := chkE hm
   refine OW.cons (S_make (α := Int) 0 hL U25 Try_T2 rfl rfl rfl hc131 (by decide) rfl ?_)
   intro wd128 v129 S130 hL
   refine OV v129 rfl (x_assign) <| ONS <| CSR <| OV (.int .i64 0) rfl (x_assign) <| OW.nil ?_
   obtain ⟨o1038, ho1039, hm⟩ := bndE hm
   refine CW.loopB (fun (s_l2 : (List Int) × Int) (F : Fr) (w : World) => ∃ (S1035 : Nat → Prop), F 1 = (.int .i64 a1) ∧ F 2 = (.pointer (some ⟨b4, 0, none⟩)) ∧ F 5 = (.int .i64 (a0.Finishes.length : Int)) ∧ F 6 = (.int .i64 s_l1.1) ∧ F 8 = v125 ∧ F 9 = v129 ∧ F 10 = (.int .i64 s_l2.2) ∧ Hp w0 [Ent.own 2 S130 v129 (List.replicate ((a0.Finishes.length : Int)).toNat (0 : Int)), Ent.own 2 S1035 v125 s_l2.1, Ent.blk b4 101 #[v1], Ent.snap w0 w0.heap.size] w) (fun o => outc o (fun x => some x) (fun s => M.spec_l26Points_a2 s) = some r) ho1039 hm ⟨S126, f119, f120, f121, f122, rfl, rfl, rfl, hL⟩ ?_ ?_
   · intro s_l2 F1040 wd1041 hJ hm
     have hm := outcE hm
     have hm : M.spec_l26Points_a2 s_l2 = some r := hm
     unfold M.spec_l26Points_a2 at hm
     obtain ⟨S1035, f1042, f1043, f1044, f1045, f1046, f1047, f1048, hL⟩ := hJ
     refine CSR <| OV v125 rfl (x_mv f1046) <| OV v125 rfl (x_assign) <| OW.nil <| CW.ret ?_
     obtain rfl := Option.some.inj hm
     exact RR1 rfl rfl ⟨v125, S1035, rfl, hL.fresh 3 rfl [1] (by decide) (by decide) rfl⟩
   intro s_l2 F1049 wd1050 t1036 hJ hm hr1037
   unfold M.spec_l26Points_l2 at hm
   obtain ⟨S1035, f1051, f1052, f1053, f1054, f1055, f1056, f1057, hL⟩ := hJ
   refine CW.seq <| CSR <| OV (.int .i64 s_l2.2) rfl (x_mv f1057) <| OV v125 rfl (x_mv f1055) <| OV (.int .i64 (s_l2.1.length : Int)) rfl (x_lenR U25 rfl (hL.rdO 1 rfl)) <| OV (.bool (decide (s_l2.2 < (s_l2.1.length : Int)))) rfl (x_lss rfl rfl) <| OW.nil ?_
   refine CW.condM (t := decide (s_l2.2 < (s_l2.1.length : Int))) rfl hm (fun hb1058 hm => ?_) (fun hb1058 hm => ?_)
   · refine CW.skip ?_
     refine CW.seqJ (fun (s_j1 : (List Int)) (F : Fr) (w : World) => ∃ (S1279 : Nat → Prop), F 1 = (.int .i64 a1) ∧ F 2 = (.pointer (some ⟨b4, 0, none⟩)) ∧ F 5 = (.int .i64 (a0.Finishes.length : Int)) ∧ F 6 = (.int .i64 s_l1.1) ∧ F 8 = v125 ∧ F 9 = v129 ∧ F 10 = (.int .i64 s_l2.2) ∧ Hp w0 [Ent.own 2 S130 v129 (List.replicate ((a0.Finishes.length : Int)).toNat (0 : Int)), Ent.own 2 S1279 v125 s_j1, Ent.blk b4 101 #[v1], Ent.snap w0 w0.heap.size] w) (fun s_j1 => M.spec_l26Points_j1 s_l2 s_j1 = some t1036) ?_ ?_
     · refine CW.blockJ (fun (s_j2 : (List Int)) (F : Fr) (w : World) => ∃ (S1394 : Nat → Prop), F 1 = (.int .i64 a1) ∧ F 2 = (.pointer (some ⟨b4, 0, none⟩)) ∧ F 5 = (.int .i64 (a0.Finishes.length : Int)) ∧ F 6 = (.int .i64 s_l1.1) ∧ F 8 = v125 ∧ F 9 = v129 ∧ F 10 = (.int .i64 s_l2.2) ∧ Hp w0 [Ent.own 2 S130 v129 (List.replicate ((a0.Finishes.length : Int)).toNat (0 : Int)), Ent.own 2 S1394 v125 s_j2, Ent.blk b4 101 #[v1], Ent.snap w0 w0.heap.size] w) (fun s_j2 => M.spec_l26Points_j2 s_l2 s_j2 = some t1036) ?_ ?_
       · refine CSR <| OV (.pointer (some ⟨b4, 0, none⟩)) rfl (x_fieldAddr (fsz := 1) 0 0 0 U101 rfl Try_T99 rfl f1052 rfl) <| OV v1 rfl (x_load1 U99 rfl rfl (hL.cellB 2 rfl rfl)) <| OV (.int .i64 s_l2.2) rfl (x_mv f1057) ?_
         obtain ⟨x1404, ha1405, hm⟩ := bndE hm
         obtain ⟨hz1406, ha1410⟩ := idxE ha1405
         obtain ⟨b1407, q1408, hix1409⟩ := rdL_ix (hL.rdS 3 rfl h2) hz1406 ha1410
         refine OV (.pointer (some ⟨b1407, q1408, none⟩)) rfl (x_ix U99 Try_T103 rfl rfl hix1409) <| OV (.pointer (some ⟨b1407, q1408 + 1, none⟩)) rfl (x_fieldAddr (fsz := 1) q1408 1 (q1408 + 1) U103 rfl Try_T2 rfl rfl rfl) <| OV (.int .i64 x1404.Code) rfl (x_load1 U2 rfl rfl (rdF_cells (hL.rdS 3 rfl h2) hix1409 ha1410 1 _ rfl)) <| OV (.int .i64 x1404.Code) rfl (x_assign) <| OW.nil ?_
         refine CW.blockJ (fun (s_j3 : (List Int)) (F : Fr) (w : World) => ∃ (S1455 : Nat → Prop), F 1 = (.int .i64 a1) ∧ F 2 = (.pointer (some ⟨b4, 0, none⟩)) ∧ F 5 = (.int .i64 (a0.Finishes.length : Int)) ∧ F 6 = (.int .i64 s_l1.1) ∧ F 8 = v125 ∧ F 9 = v129 ∧ F 10 = (.int .i64 s_l2.2) ∧ Hp w0 [Ent.own 2 S130 v129 (List.replicate ((a0.Finishes.length : Int)).toNat (0 : Int)), Ent.own 2 S1455 v125 s_j3, Ent.blk b4 101 #[v1], Ent.snap w0 w0.heap.size] w) (fun s_j3 => M.spec_l26Points_j3 s_l2 s_j3 = some t1036) ?_ ?_
         · refine CSR <| OV (.int .i64 x1404.Code) rfl (x_move) <| OV (.bool (x1404.Code == 0)) rfl (x_eql rfl rfl) <| OV (.bool (x1404.Code == 0)) rfl (x_assign) <| OW.nil ?_
           refine CW.condM (t := x1404.Code == 0) rfl hm (fun hb1465 hm => ?_) (fun hb1465 hm => ?_)
           · refine CSR <| OV (.agg #[v1]) rfl (x_loadN (cs := [v1]) U101 Try_T101 rfl f1052 (hL.cellsB 2 rfl (o := 0) (l := [v1]) (by intro j u hj; exact (by simpa using hj)))) <| OV v129 rfl (x_mv f1056) <| OV (.int .i64 s_l2.2) rfl (x_mv f1057) ?_
             obtain ⟨x1466, hx1467, hm⟩ := bndE hm
             refine OW.cons (OP.call rfl (x_call (vs := [(.agg #[v1]), v129, (.int .i64 s_l2.2)]) Try_C137 ⟨rfl, rfl, rfl, trivial⟩) (M.spec_l26Place_ok _ a0 (hL.rdS 3 rfl h2) (List.replicate ((a0.Finishes.length : Int)).toNat (0 : Int)) (hL.rdO 0 rfl) s_l2.2 hx1467) ?_)
             rintro e1468 wd1469 ⟨rfl, hF1470⟩
             refine ⟨_, rfl, ?_⟩
             have hL := hL.pushAll hF1470
             simp only [lA, lB, lC, lD] at hL
             refine OV (.tuple #[(.int .i64 x1466.1), (.int .i64 x1466.2)]) rfl (x_move) <| OV (.int .i64 x1466.1) rfl (x_extract rfl rfl) <| OV (.int .i64 x1466.2) rfl (x_extract rfl rfl) <| OV (.int .i64 x1466.1) rfl (x_assign) <| OV (.int .i64 x1466.2) rfl (x_assign) <| OW.nil <| CW.regionL <| OV v125 rfl (x_mv f1055) <| OV (.int .i64 s_l2.2) rfl (x_mv f1057) <| OV (.int .i64 x1466.1) rfl (x_move) <| OV (.int .i64 (w64 (2 * x1466.1))) rfl (x_mul rfl rfl) <| OV (.int .i64 x1466.2) rfl (x_move) <| OV (.int .i64 (w64 ((w64 (2 * x1466.1)) + x1466.2))) rfl (x_add rfl rfl) <| OV (.int .i64 (w64 ((w64 ((w64 (2 * x1466.1)) + x1466.2)) - 1))) rfl (x_sub rfl rfl) <| OV (.int .i64 (w64 (5 * (w64 ((w64 ((w64 (2 * x1466.1)) + x1466.2)) - 1))))) rfl (x_mul rfl rfl) ?_
             obtain ⟨x1471, ha1472, hm⟩ := bndE hm
             obtain ⟨hz1473, ha1477⟩ := idxE ha1472
             obtain ⟨b1474, q1475, hix1476⟩ := rdL_ix (hL.rdO 1 rfl) hz1473 ha1477
             refine OV (.pointer (some ⟨b1474, q1475, none⟩)) rfl (x_ix U25 Try_T2 rfl rfl hix1476) ?_
             refine OW.cons (S_storeX (j := 0) (w64 (5 * (w64 ((w64 ((w64 (2 * x1466.1)) + x1466.2)) - 1)))) hL 1 rfl Try_T2 hix1476 ha1477 rfl rfl rfl rfl rfl rfl ?_)
             intro wd1478 hL
             refine OW.nil ?_
             exact ⟨s_l2.1.set (s_l2.2 : Int).toNat (w64 (5 * (w64 ((w64 ((w64 (2 * x1466.1)) + x1466.2)) - 1)))), hm, ⟨S1035, f1051, f1052, f1053, f1054, f1055, f1056, f1057, hL⟩⟩
           refine CSR <| OV (.int .i64 x1404.Code) rfl (x_move) <| OV (.bool (x1404.Code == 9)) rfl (x_eql rfl rfl) <| OV (.bool (x1404.Code == 9)) rfl (x_assign) <| OW.nil ?_
           refine CW.condM (t := x1404.Code == 9) rfl hm (fun hb1479 hm => ?_) (fun hb1479 hm => ?_)
           · refine CW.skip ?_
             exact ⟨s_l2.1, hm, ⟨S1035, f1051, f1052, f1053, f1054, f1055, f1056, f1057, hL⟩⟩
           refine CW.seqJ (fun (s_j4 : Bool) (F : Fr) (w : World) => F 1 = (.int .i64 a1) ∧ F 2 = (.pointer (some ⟨b4, 0, none⟩)) ∧ F 5 = (.int .i64 (a0.Finishes.length : Int)) ∧ F 6 = (.int .i64 s_l1.1) ∧ F 8 = v125 ∧ F 9 = v129 ∧ F 10 = (.int .i64 s_l2.2) ∧ F 77 = (.bool s_j4) ∧ Hp w0 [Ent.own 2 S130 v129 (List.replicate ((a0.Finishes.length : Int)).toNat (0 : Int)), Ent.own 2 S1035 v125 s_l2.1, Ent.blk b4 101 #[v1], Ent.snap w0 w0.heap.size] w) (fun s_j4 => M.spec_l26Points_j4 a0 s_l1 s_l2 s_j4 = some t1036) ?_ ?_
           · refine CW.regionL <| OV (.int .i64 x1404.Code) rfl (x_move) <| OV (.bool (x1404.Code == 1)) rfl (x_eql rfl rfl) <| OV (.bool (x1404.Code == 1)) rfl (x_move) ?_
             refine ifB_elim hm (fun hb1508 hm => ?_) (fun hb1508 hm => ?_)
             · refine OW.cons (OP.no' rfl rfl hb1508 rfl ?_)
               refine OW.cons (OP.no' rfl rfl hb1508 rfl ?_)
               refine OV (.bool true) rfl (x_pickT' rfl hb1508 rfl) <| OV (.bool true) rfl (x_assign) <| OW.nil ?_
               exact ⟨true, hm, ⟨f1051, f1052, f1053, f1054, f1055, f1056, f1057, rfl, hL⟩⟩
             refine OW.cons (OP.yes' rfl rfl hb1508 (OP.val (v := (.int .i64 a1)) rfl (x_mv f1051) ?_))
             refine OW.cons (OP.yes' rfl rfl hb1508 (OP.val (v := (.bool (a1 == 0))) rfl (x_eql rfl rfl) ?_))
             refine OV (.bool (a1 == 0)) rfl (x_pickF' rfl hb1508 rfl) <| OV (.bool (a1 == 0)) rfl (x_assign) <| OW.nil ?_
             exact ⟨a1 == 0, hm, ⟨f1051, f1052, f1053, f1054, f1055, f1056, f1057, rfl, hL⟩⟩
           intro s_j4 F1481 wd1482 hJ hm
           unfold M.spec_l26Points_j4 at hm
           obtain ⟨f1483, f1484, f1485, f1486, f1487, f1488, f1489, f1490, hL⟩ := hJ
           refine CW.condM (t := s_j4) f1490 hm (fun hb1491 hm => ?_) (fun hb1491 hm => ?_)
           · refine CW.regionL <| OV v125 rfl (x_mv f1487) <| OV (.int .i64 s_l2.2) rfl (x_mv f1489) <| OV (.int .i64 (a0.Finishes.length : Int)) rfl (x_mv f1485) <| OV (.int .i64 (w64 ((a0.Finishes.length : Int) + 1))) rfl (x_add rfl rfl) <| OV (.int .i64 (w64 (10 * (w64 ((a0.Finishes.length : Int) + 1))))) rfl (x_mul rfl rfl) ?_
             obtain ⟨x1492, ha1493, hm⟩ := bndE hm
             obtain ⟨hz1494, ha1498⟩ := idxE ha1493
             obtain ⟨b1495, q1496, hix1497⟩ := rdL_ix (hL.rdO 1 rfl) hz1494 ha1498
             refine OV (.pointer (some ⟨b1495, q1496, none⟩)) rfl (x_ix U25 Try_T2 rfl rfl hix1497) ?_
             refine OW.cons (S_storeX (j := 0) (w64 (10 * (w64 ((a0.Finishes.length : Int) + 1)))) hL 1 rfl Try_T2 hix1497 ha1498 rfl rfl rfl rfl rfl rfl ?_)
             intro wd1499 hL
             refine OW.nil ?_
             exact ⟨s_l2.1.set (s_l2.2 : Int).toNat (w64 (10 * (w64 ((a0.Finishes.length : Int) + 1)))), hm, ⟨S1035, f1483, f1484, f1485, f1486, f1487, f1488, f1489, hL⟩⟩
           refine CW.regionL <| OV v125 rfl (x_mv f1487) <| OV (.int .i64 s_l2.2) rfl (x_mv f1489) <| OV (.int .i64 s_l1.1) rfl (x_mv f1486) <| OV (.int .i64 (w64 (s_l1.1 + 1))) rfl (x_add rfl rfl) <| OV (.int .i64 (w64 (10 * (w64 (s_l1.1 + 1))))) rfl (x_mul rfl rfl) ?_
           obtain ⟨x1500, ha1501, hm⟩ := bndE hm
           obtain ⟨hz1502, ha1506⟩ := idxE ha1501
           obtain ⟨b1503, q1504, hix1505⟩ := rdL_ix (hL.rdO 1 rfl) hz1502 ha1506
           refine OV (.pointer (some ⟨b1503, q1504, none⟩)) rfl (x_ix U25 Try_T2 rfl rfl hix1505) ?_
           refine OW.cons (S_storeX (j := 0) (w64 (10 * (w64 (s_l1.1 + 1)))) hL 1 rfl Try_T2 hix1505 ha1506 rfl rfl rfl rfl rfl rfl ?_)
           intro wd1507 hL
           refine OW.nil ?_
           exact ⟨s_l2.1.set (s_l2.2 : Int).toNat (w64 (10 * (w64 (s_l1.1 + 1)))), hm, ⟨S1035, f1483, f1484, f1485, f1486, f1487, f1488, f1489, hL⟩⟩
         intro s_j3 F1456 wd1457 hJ hm
         unfold M.spec_l26Points_j3 at hm
         obtain ⟨S1455, f1458, f1459, f1460, f1461, f1462, f1463, f1464, hL⟩ := hJ
         exact ⟨s_j3, hm, ⟨S1455, f1458, f1459, f1460, f1461, f1462, f1463, f1464, hL⟩⟩
       intro s_j2 F1395 wd1396 hJ hm
       unfold M.spec_l26Points_j2 at hm
       obtain ⟨S1394, f1397, f1398, f1399, f1400, f1401, f1402, f1403, hL⟩ := hJ
       exact ⟨s_j2, hm, ⟨S1394, f1397, f1398, f1399, f1400, f1401, f1402, f1403, hL⟩⟩
     intro s_j1 F1280 wd1281 hJ hm
     unfold M.spec_l26Points_j1 at hm
     obtain ⟨S1279, f1282, f1283, f1284, f1285, f1286, f1287, f1288, hL⟩ := hJ
     refine CW.regionL <| OV (.int .i64 s_l2.2) rfl (x_mv f1288) <| OV (.int .i64 (w64 (s_l2.2 + 1))) rfl (x_add rfl rfl) <| OV (.int .i64 (w64 (s_l2.2 + 1))) rfl (x_assign) <| OW.nil ?_
     obtain rfl := Option.some.inj hm
     exact ⟨_, rfl, ⟨S1279, f1282, f1283, f1284, f1285, f1286, f1287, rfl, hL⟩⟩
   refine CW.exit ?_
   refine XJ.hit ?_
   obtain rfl := Option.some.inj hm
   exact ⟨_, rfl, ⟨S1035, f1051, f1052, f1053, f1054, f1055, f1056, f1057, hL⟩⟩
 intro s_l1 F1509 wd1510 t113 hJ hm hr114
 unfold M.spec_l26Points_l1 at hm
 obtain ⟨f1511, f1512, f1513, f1514, f1515, hL⟩ := hJ
 refine CW.seq <| CSR <| OV (.int .i64 s_l1.2) rfl (x_mv f1515) <| OV (.pointer (some ⟨b4, 0, none⟩)) rfl (x_fieldAddr (fsz := 1) 0 0 0 U101 rfl Try_T99 rfl f1512 rfl) <| OV v1 rfl (x_load1 U99 rfl rfl (hL.cellB 0 rfl rfl)) <| OV (.int .i64 (a0.Finishes.length : Int)) rfl (x_lenR U99 rfl (hL.rdS 1 rfl h2)) <| OV (.bool (decide (s_l1.2 < (a0.Finishes.length : Int)))) rfl (x_lss rfl rfl) <| OW.nil ?_
 refine CW.condM (t := decide (s_l1.2 < (a0.Finishes.length : Int))) rfl hm (fun hb1516 hm => ?_) (fun hb1516 hm => ?_)
 · refine CW.skip ?_
   refine CW.seqJ (fun (s_j5 : Int) (F : Fr) (w : World) => F 1 = (.int .i64 a1) ∧ F 2 = (.pointer (some ⟨b4, 0, none⟩)) ∧ F 5 = (.int .i64 (a0.Finishes.length : Int)) ∧ F 6 = (.int .i64 s_j5) ∧ F 7 = (.int .i64 s_l1.2) ∧ Hp w0 [Ent.blk b4 101 #[v1], Ent.snap w0 w0.heap.size] w) (fun s_j5 => M.spec_l26Points_j5 s_l1 s_j5 = some t113) ?_ ?_
   · refine CW.blockJ (fun (s_j6 : Int) (F : Fr) (w : World) => F 1 = (.int .i64 a1) ∧ F 2 = (.pointer (some ⟨b4, 0, none⟩)) ∧ F 5 = (.int .i64 (a0.Finishes.length : Int)) ∧ F 6 = (.int .i64 s_j6) ∧ F 7 = (.int .i64 s_l1.2) ∧ Hp w0 [Ent.blk b4 101 #[v1], Ent.snap w0 w0.heap.size] w) (fun s_j6 => M.spec_l26Points_j6 s_l1 s_j6 = some t113) ?_ ?_
     · refine CSR <| OV (.pointer (some ⟨b4, 0, none⟩)) rfl (x_fieldAddr (fsz := 1) 0 0 0 U101 rfl Try_T99 rfl f1512 rfl) <| OV v1 rfl (x_load1 U99 rfl rfl (hL.cellB 0 rfl rfl)) <| OV (.int .i64 s_l1.2) rfl (x_mv f1515) ?_
       obtain ⟨x1562, ha1563, hm⟩ := bndE hm
       obtain ⟨hz1564, ha1568⟩ := idxE ha1563
       obtain ⟨b1565, q1566, hix1567⟩ := rdL_ix (hL.rdS 1 rfl h2) hz1564 ha1568
       refine OV (.pointer (some ⟨b1565, q1566, none⟩)) rfl (x_ix U99 Try_T103 rfl rfl hix1567) <| OV (.pointer (some ⟨b1565, q1566 + 1, none⟩)) rfl (x_fieldAddr (fsz := 1) q1566 1 (q1566 + 1) U103 rfl Try_T2 rfl rfl rfl) <| OV (.int .i64 x1562.Code) rfl (x_load1 U2 rfl rfl (rdF_cells (hL.rdS 1 rfl h2) hix1567 ha1568 1 _ rfl)) <| OV (.bool (x1562.Code != 1)) rfl (x_neq rfl rfl) <| OW.nil ?_
       refine CW.condM (t := x1562.Code != 1) rfl hm (fun hb1569 hm => ?_) (fun hb1569 hm => ?_)
       · refine CW.regionL <| OV (.int .i64 s_l1.1) rfl (x_mv f1514) <| OV (.int .i64 (w64 (s_l1.1 + 1))) rfl (x_add rfl rfl) <| OV (.int .i64 (w64 (s_l1.1 + 1))) rfl (x_assign) <| OW.nil ?_
         exact ⟨w64 (s_l1.1 + 1), hm, ⟨f1511, f1512, f1513, rfl, f1515, hL⟩⟩
       refine CW.skip ?_
       exact ⟨s_l1.1, hm, ⟨f1511, f1512, f1513, f1514, f1515, hL⟩⟩
     intro s_j6 F1555 wd1556 hJ hm
     unfold M.spec_l26Points_j6 at hm
     obtain ⟨f1557, f1558, f1559, f1560, f1561, hL⟩ := hJ
     exact ⟨s_j6, hm, ⟨f1557, f1558, f1559, f1560, f1561, hL⟩⟩
   intro s_j5 F1540 wd1541 hJ hm
   unfold M.spec_l26Points_j5 at hm
   obtain ⟨f1542, f1543, f1544, f1545, f1546, hL⟩ := hJ
   refine CW.regionL <| OV (.int .i64 s_l1.2) rfl (x_mv f1546) <| OV (.int .i64 (w64 (s_l1.2 + 1))) rfl (x_add rfl rfl) <| OV (.int .i64 (w64 (s_l1.2 + 1))) rfl (x_assign) <| OW.nil ?_
   obtain rfl := Option.some.inj hm
   exact ⟨_, rfl, ⟨f1542, f1543, f1544, f1545, rfl, hL⟩⟩
 refine CW.exit ?_
 refine XJ.hit ?_
 obtain rfl := Option.some.inj hm
 exact ⟨_, rfl, ⟨f1511, f1512, f1513, f1514, f1515, hL⟩⟩

theorem M.spec_TableOf_ok (w0 : World) (a0 : Series) {v1 : Value} (h2 : rdL (· < w0.heap.size) w0 v1 a0.Races) {r : Table × Int} (hm : M.spec_TableOf a0 = some r) :
    Calls Try.prog 114 #[(.agg #[(.int .i64 a0.Boats), (.int .i64 a0.Scheme), v1])] w0 fun e w' => ∃ (rv0 : Value) (rS0 : Nat → Prop), ∃ (rv1 : Value) (rS1 : Nat → Prop), e = .returned (.tuple #[(.agg #[(.int .i64 r.1.Boats), rv0, rv1]), (.int .i64 r.2)]) ∧ Fresh w0 w' [Ent.own 25 rS0 rv0 r.1.Points, Ent.own 25 rS1 rv1 r.1.Codes] := by
 unfold M.spec_TableOf at hm
 refine calls_CW (args := [(.agg #[(.int .i64 a0.Boats), (.int .i64 a0.Scheme), v1])]) Try.func114 rfl rfl rfl ?_
 have hL := Hp.start w0
 refine CSR ?_
 refine OW.cons (S_box (cs := #[(.int .i64 a0.Boats), (.int .i64 a0.Scheme), v1]) hL rfl rfl rfl ?_)
 intro wd3 b4 hL
 refine OW.cons (S_alloc (cs := #[(.int .i64 0), (.slice none 0 0), (.slice none 0 0)]) hL Try_T29 rfl rfl ?_)
 intro wd5 b6 hL
 refine OV (.int .i64 0) rfl (x_assign) <| ONS <| CSR <| OV (.agg #[(.int .i64 a0.Boats), (.int .i64 a0.Scheme), v1]) rfl (x_loadN (cs := [(.int .i64 a0.Boats), (.int .i64 a0.Scheme), v1]) U97 Try_T97 rfl rfl (hL.cellsB 1 rfl (o := 0) (l := [(.int .i64 a0.Boats), (.int .i64 a0.Scheme), v1]) (by intro j u hj; exact (by simpa using hj)))) ?_
 obtain ⟨x7, hx8, hm⟩ := bndE hm
 refine OW.cons (OP.call rfl (x_call (vs := [(.agg #[(.int .i64 a0.Boats), (.int .i64 a0.Scheme), v1])]) Try_C122 ⟨rfl, trivial⟩) (M.spec_IsSeries_ok _ a0 (hL.rdS 2 rfl h2) hx8) ?_)
 rintro e9 wd10 ⟨rfl, hF11⟩
 refine ⟨_, rfl, ?_⟩
 have hL := hL.pushAll hF11
 simp only [lA, lB, lC, lD] at hL
 refine OV (.bool (!x7)) rfl (x_not rfl) <| OW.nil ?_
 refine CW.condM (t := !x7) rfl hm (fun hb12 hm => ?_) (fun hb12 hm => ?_)
 · refine CSR <| OV (.agg #[(.int .i64 0), (.slice none 0 0), (.slice none 0 0)]) rfl (x_build Try_B29 (ps := []) trivial (by simp [Instr.fill, cells_int, cells_bool, cells_string, cells_agg, cells_slice, cells_pointer])) ?_
   refine OW.cons (S_storeN (l := [(.int .i64 0), (.slice none 0 0), (.slice none 0 0)]) (cs' := #[(.int .i64 0), (.slice none 0 0), (.slice none 0 0)]) hL 0 rfl Try_T29 rfl rfl (List.forall_mem_cons.2 ⟨rfl, (List.forall_mem_cons.2 ⟨rfl, (List.forall_mem_cons.2 ⟨rfl, (fun _ h => by cases h)⟩)⟩)⟩) rfl (Nat.le_of_ble_eq_true rfl) rfl ?_)
   intro wd13 hL
   refine OV (.int .i64 1) rfl (x_assign) <| OW.nil <| CW.ret ?_
   have hL := hL.pushNil (List Int) 25
   have hL := hL.pushNil (List Int) 25
   obtain rfl := Option.some.inj hm
   exact RRct rfl rfl (run_loadBlk U29 Try_T29 (hL.get 2 rfl) rfl) rfl ⟨(.slice none 0 0), None_, (.slice none 0 0), None_, rfl, hL.fresh 4 rfl [1, 0] (by decide) (by decide) rfl⟩
 refine CW.skip <| CSR <| OV (.pointer (some ⟨b4, 0, none⟩)) rfl (x_fieldAddr (fsz := 1) 0 0 0 U97 rfl Try_T2 rfl rfl rfl) <| OV (.int .i64 a0.Boats) rfl (x_load1 U2 rfl rfl (hL.cellB 1 rfl rfl)) ?_
 refine OW.cons (S_lit0 (α := Int) (List Int) hL U22 Try_T25 rfl ?_)
 intro wd14 v15 S16 hL
 refine OW.cons (S_lit0 (α := Int) (List Int) hL U22 Try_T25 rfl ?_)
 intro wd17 v18 S19 hL
 refine OV (.agg #[(.int .i64 a0.Boats), v15, v18]) rfl (x_build Try_B29 (ps := [(0, (.int .i64 a0.Boats)), (1, v15), (2, v18)]) ⟨⟨rfl, rfl⟩, ⟨rfl, rfl⟩, ⟨rfl, rfl⟩, trivial⟩ (by simp [Instr.fill, cells_int, cells_bool, cells_string, cells_agg, cells_slice, cells_pointer, (rdL_cells (hL.rdO 1 rfl)), (rdL_cells (hL.rdO 0 rfl))])) ?_
 refine OW.cons (S_alloc (cs := #[(.int .i64 0), (.slice none 0 0), (.slice none 0 0)]) hL Try_T29 rfl rfl ?_)
 intro wd20 b21 hL
 refine OW.cons (S_storeN (l := [(.int .i64 a0.Boats), v15, v18]) (cs' := #[(.int .i64 a0.Boats), v15, v18]) hL 0 rfl Try_T29 rfl rfl (List.forall_mem_cons.2 ⟨rfl, (List.forall_mem_cons.2 ⟨rdL_one (hL.rdO 2 rfl), (List.forall_mem_cons.2 ⟨rdL_one (hL.rdO 1 rfl), (fun _ h => by cases h)⟩)⟩)⟩) rfl (Nat.le_of_ble_eq_true rfl) rfl ?_)
 intro wd22 hL
 refine ONS <| CSR <| OV (.int .i64 0) rfl (x_assign) <| OW.nil ?_
 obtain ⟨o451, ho452, hm⟩ := bndE hm
 have hL := hL.sel [2, 1, 0, 3, 4, 5] (by decide) rfl
 refine CW.loopB (fun (s_l1 : (List (List Int)) × (List (List Int)) × Int) (F : Fr) (w : World) => ∃ (v445 : Value) (S446 : Nat → Prop) (v447 : Value) (S448 : Nat → Prop), F 1 = (.pointer (some ⟨b4, 0, none⟩)) ∧ F 2 = (.pointer (some ⟨b6, 0, none⟩)) ∧ F 4 = (.pointer (some ⟨b21, 0, none⟩)) ∧ F 5 = (.int .i64 s_l1.2.2) ∧ Hp w0 [Ent.own 25 S446 v445 s_l1.1, Ent.own 25 S448 v447 s_l1.2.1, Ent.blk b21 29 #[(.int .i64 a0.Boats), v445, v447], Ent.blk b6 29 #[(.int .i64 0), (.slice none 0 0), (.slice none 0 0)], Ent.blk b4 97 #[(.int .i64 a0.Boats), (.int .i64 a0.Scheme), v1], Ent.snap w0 w0.heap.size] w) (fun o => outc o (fun x => some x) (fun s => M.spec_TableOf_a1 a0 s) = some r) ho452 hm ⟨v15, S16, v18, S19, rfl, rfl, rfl, rfl, hL⟩ ?_ ?_
 · intro s_l1 F453 wd454 hJ hm
   have hm := outcE hm
   have hm : M.spec_TableOf_a1 a0 s_l1 = some r := hm
   unfold M.spec_TableOf_a1 at hm
   obtain ⟨v445, S446, v447, S448, f455, f456, f457, f458, hL⟩ := hJ
   refine CSR <| OV (.agg #[(.int .i64 a0.Boats), v445, v447]) rfl (x_loadN (cs := [(.int .i64 a0.Boats), v445, v447]) U29 Try_T29 rfl f457 (hL.cellsB 2 rfl (o := 0) (l := [(.int .i64 a0.Boats), v445, v447]) (by intro j u hj; exact (by simpa using hj)))) ?_
   refine OW.cons (S_storeN (l := [(.int .i64 a0.Boats), v445, v447]) (cs' := #[(.int .i64 a0.Boats), v445, v447]) hL 3 rfl Try_T29 f456 rfl (List.forall_mem_cons.2 ⟨rfl, (List.forall_mem_cons.2 ⟨rdL_one (hL.rdO 0 rfl), (List.forall_mem_cons.2 ⟨rdL_one (hL.rdO 1 rfl), (fun _ h => by cases h)⟩)⟩)⟩) rfl (Nat.le_of_ble_eq_true rfl) rfl ?_)
   intro wd459 hL
   refine OV (.int .i64 0) rfl (x_assign) <| OW.nil <| CW.ret ?_
   obtain rfl := Option.some.inj hm
   exact RRct rfl f456 (run_loadBlk U29 Try_T29 (hL.get 3 rfl) rfl) rfl ⟨v445, S446, v447, S448, rfl, hL.fresh 5 rfl [0, 1] (by decide) (by decide) rfl⟩
 intro s_l1 F460 wd461 t449 hJ hm hr450
 unfold M.spec_TableOf_l1 at hm
 obtain ⟨v445, S446, v447, S448, f462, f463, f464, f465, hL⟩ := hJ
 refine CW.seq <| CSR <| OV (.int .i64 s_l1.2.2) rfl (x_mv f465) <| OV (.pointer (some ⟨b4, 2, none⟩)) rfl (x_fieldAddr (fsz := 1) 0 2 2 U97 rfl Try_T95 rfl f462 rfl) <| OV v1 rfl (x_load1 U95 rfl rfl (hL.cellB 4 rfl rfl)) <| OV (.int .i64 (a0.Races.length : Int)) rfl (x_lenR U95 rfl (hL.rdS 5 rfl h2)) <| OV (.bool (decide (s_l1.2.2 < (a0.Races.length : Int)))) rfl (x_lss rfl rfl) <| OW.nil ?_
 refine CW.condM (t := decide (s_l1.2.2 < (a0.Races.length : Int))) rfl hm (fun hb466 hm => ?_) (fun hb466 hm => ?_)
 · refine CW.skip <| CW.seq <| CW.block <| CSR ?_
   refine OW.cons (S_lit ([] : List Int) hL U25 Try_T2 rfl (by decide) (by first | (simp [Instr.fill, madeCells, Value.cells, ev, upd, Flat.enc, Flat.sz]; done) | rfl | kernel_rfl) rfl rfl ?_)
   intro wd467 v468 S469 hL
   refine OV v468 rfl (x_assign) <| ONS <| CSR <| OV (.int .i64 0) rfl (x_assign) <| OW.nil ?_
   obtain ⟨o550, ho551, hm⟩ := bndE hm
   refine CW.loopB (fun (s_l2 : (List Int) × Int) (F : Fr) (w : World) => ∃ (v546 : Value) (S547 : Nat → Prop), F 1 = (.pointer (some ⟨b4, 0, none⟩)) ∧ F 2 = (.pointer (some ⟨b6, 0, none⟩)) ∧ F 4 = (.pointer (some ⟨b21, 0, none⟩)) ∧ F 5 = (.int .i64 s_l1.2.2) ∧ F 6 = v546 ∧ F 7 = (.int .i64 s_l2.2) ∧ Hp w0 [Ent.own 2 S547 v546 s_l2.1, Ent.own 25 S446 v445 s_l1.1, Ent.own 25 S448 v447 s_l1.2.1, Ent.blk b21 29 #[(.int .i64 a0.Boats), v445, v447], Ent.blk b6 29 #[(.int .i64 0), (.slice none 0 0), (.slice none 0 0)], Ent.blk b4 97 #[(.int .i64 a0.Boats), (.int .i64 a0.Scheme), v1], Ent.snap w0 w0.heap.size] w) (fun o => outc o (fun x => some (.ret x)) (fun s => M.spec_TableOf_a2 a0 s_l1 s) = some t449) ho551 hm ⟨v468, S469, f462, f463, f464, f465, rfl, rfl, hL⟩ ?_ ?_
   · intro s_l2 F552 wd553 hJ hm
     have hm := outcE hm
     have hm : M.spec_TableOf_a2 a0 s_l1 s_l2 = some t449 := hm
     unfold M.spec_TableOf_a2 at hm
     obtain ⟨v546, S547, f554, f555, f556, f557, f558, f559, hL⟩ := hJ
     obtain ⟨wz560, hL, ho561⟩ := hL.freeze 1 rfl
     simp only [lC, lD] at hL
     obtain ⟨wz562, hL, ho563⟩ := hL.freeze 2 rfl
     simp only [lC, lD] at hL
     refine CW.drawH (fun w' => Hp w0 [Ent.blk b6 29 #[(.int .i64 0), (.slice none 0 0), (.slice none 0 0)], Ent.blk b4 97 #[(.int .i64 a0.Boats), (.int .i64 a0.Scheme), v1], Ent.snap w0 w0.heap.size] w') Try_mixed ?_
     have hL := hL.call (Mod.drew _)
     have hS := (hL.sel [4, 5, 6] (by decide) rfl)
     refine DH.take 0 rfl (by kernel_rfl) (by kernel_rfl) (by kernel_rfl) rfl rfl hS (YH.val (v := (.pointer (some ⟨b4, 0, none⟩))) (fun w' hS' => x_fieldAddr (fsz := 1) 0 0 0 U97 rfl Try_T2 rfl f554 rfl)) ?_
     have hS := (hL.sel [4, 5, 6] (by decide) rfl)
     refine DH.take 1 rfl (by kernel_rfl) (by kernel_rfl) (by kernel_rfl) rfl rfl hS (YH.val (v := (.int .i64 a0.Boats)) (fun w' hS' => x_load1 U2 rfl rfl (hS'.cellB 1 rfl rfl))) ?_
     have hS := (hL.sel [4, 5, 6] (by decide) rfl)
     refine DH.take 2 rfl (by kernel_rfl) (by kernel_rfl) (by kernel_rfl) rfl rfl hS (YH.val (v := (.pointer (some ⟨b21, 1, none⟩))) (fun w' hS' => x_fieldAddr (fsz := 1) 0 1 1 U29 rfl Try_T22 rfl f556 rfl)) ?_
     have hS := (hL.sel [4, 5, 6] (by decide) rfl)
     refine DH.take 4 rfl (by kernel_rfl) (by kernel_rfl) (by kernel_rfl) rfl rfl hS (YH.val (v := (.pointer (some ⟨b4, 2, none⟩))) (fun w' hS' => x_fieldAddr (fsz := 1) 0 2 2 U97 rfl Try_T95 rfl f554 rfl)) ?_
     have hS := (hL.sel [4, 5, 6] (by decide) rfl)
     refine DH.take 5 rfl (by kernel_rfl) (by kernel_rfl) (by kernel_rfl) rfl rfl hS (YH.val (v := v1) (fun w' hS' => x_load1 U95 rfl rfl (hS'.cellB 1 rfl rfl))) ?_
     have hS := (hL.sel [4, 5, 6] (by decide) rfl)
     refine DH.take 6 rfl (by kernel_rfl) (by kernel_rfl) (by kernel_rfl) rfl rfl hS (YH.val (v := (.int .i64 s_l1.2.2)) (fun w' hS' => x_mv f557)) ?_
     have hS := (hL.sel [4, 5, 6] (by decide) rfl)
     obtain ⟨x597, ha598, hm⟩ := bndE hm
     obtain ⟨hz599, ha607⟩ := idxE ha598
     obtain ⟨b600, q601, v602, hix603, hs604, hc605, hr606⟩ := rdN_at h2 hz599 ha607
     refine DH.take 7 rfl (by kernel_rfl) (by kernel_rfl) (by kernel_rfl) rfl rfl hS (YH.val (v := (.pointer (some ⟨b600, q601, none⟩))) (fun w' hS' => x_ix U95 Try_T101 rfl rfl hix603)) ?_
     have hS := (hL.sel [4, 5, 6] (by decide) rfl)
     refine DH.take 8 rfl (by kernel_rfl) (by kernel_rfl) (by kernel_rfl) rfl rfl hS (YH.val (v := (.agg #[v602])) (fun w' hS' => x_loadN (cs := [v602]) U101 Try_T101 rfl rfl (by intro j u hj; match j, hj with | 0, hj => (simp at hj; subst hj; exact (hS'.cellS 2 rfl hs604 hc605))))) ?_
     have hS := (hL.sel [4, 5, 6] (by decide) rfl)
     refine DH.take 9 rfl (by kernel_rfl) (by kernel_rfl) (by kernel_rfl) rfl rfl hS (YH.val (v := (.pointer (some ⟨b4, 1, none⟩))) (fun w' hS' => x_fieldAddr (fsz := 1) 0 1 1 U97 rfl Try_T2 rfl f554 rfl)) ?_
     have hS := (hL.sel [4, 5, 6] (by decide) rfl)
     refine DH.take 10 rfl (by kernel_rfl) (by kernel_rfl) (by kernel_rfl) rfl rfl hS (YH.val (v := (.int .i64 a0.Scheme)) (fun w' hS' => x_load1 U2 rfl rfl (hS'.cellB 1 rfl rfl))) ?_
     have hS := (hL.sel [4, 5, 6] (by decide) rfl)
     refine DH.take 14 rfl (by kernel_rfl) (by kernel_rfl) (by kernel_rfl) rfl rfl hS (YH.val (v := (.pointer (some ⟨b21, 2, none⟩))) (fun w' hS' => x_fieldAddr (fsz := 1) 0 2 2 U29 rfl Try_T22 rfl f556 rfl)) ?_
     have hS := (hL.sel [4, 5, 6] (by decide) rfl)
     refine DH.take 16 rfl (by kernel_rfl) (by kernel_rfl) (by kernel_rfl) rfl rfl hS (YH.val (v := v546) (fun w' hS' => x_mv f558)) ?_
     obtain ⟨x608, hx609, hm⟩ := bndE hm
     obtain ⟨hc621, hm⟩ := chkE hm
     obtain ⟨hc628, hm⟩ := chkE hm
     refine DH.node (listed' := (bma 21 2097151)) (fuel' := 0) (fun (F : Fr) (w : World) => ∃ (v781 : Value) (S782 : Nat → Prop) (v783 : Value) (S784 : Nat → Prop), F 1 = (.pointer (some ⟨b4, 0, none⟩)) ∧ F 2 = (.pointer (some ⟨b6, 0, none⟩)) ∧ F 4 = (.pointer (some ⟨b21, 0, none⟩)) ∧ F 5 = (.int .i64 s_l1.2.2) ∧ Hp w0 [Ent.own 25 S782 v781 (s_l1.2.1 ++ ([s_l2.1] : List (List Int))), Ent.own 25 S784 v783 (s_l1.1 ++ ([x608] : List (List Int))), Ent.blk b21 29 #[(.int .i64 a0.Boats), v783, v781], Ent.blk b6 29 #[(.int .i64 0), (.slice none 0 0), (.slice none 0 0)], Ent.blk b4 97 #[(.int .i64 a0.Boats), (.int .i64 a0.Scheme), v1], Ent.snap w0 w0.heap.size] w) ?_ (fun hN752 => ?_)
     · intro F857 wd858 hJ
       obtain ⟨v781, S782, v783, S784, f859, f860, f861, f862, hL⟩ := hJ
       refine DH.done (by kernel_rfl) ?_
       refine CW.regionL <| OV (.int .i64 s_l1.2.2) rfl (x_mv f862) <| OV (.int .i64 (w64 (s_l1.2.2 + 1))) rfl (x_add rfl rfl) <| OV (.int .i64 (w64 (s_l1.2.2 + 1))) rfl (x_assign) <| OW.nil ?_
       have hL := hL.sel [1, 0, 2, 3, 4, 5] (by decide) rfl
       obtain rfl := Option.some.inj hm
       exact ⟨_, rfl, ⟨v783, S784, v781, S782, f859, f860, f861, rfl, hL⟩⟩
     refine DH.node (listed' := (bma 21 1048575)) (fuel' := 1) (fun (F : Fr) (w : World) => ∃ (v785 : Value) (S786 : Nat → Prop) (v787 : Value) (S788 : Nat → Prop), F 1 = (.pointer (some ⟨b4, 0, none⟩)) ∧ F 2 = (.pointer (some ⟨b6, 0, none⟩)) ∧ F 4 = (.pointer (some ⟨b21, 0, none⟩)) ∧ F 5 = (.int .i64 s_l1.2.2) ∧ F 68 = (.agg #[(.int .i64 a0.Boats), v787, v785]) ∧ Hp w0 [Ent.own 25 S786 v785 (s_l1.2.1 ++ ([s_l2.1] : List (List Int))), Ent.own 25 S788 v787 (s_l1.1 ++ ([x608] : List (List Int))), Ent.blk b21 29 #[(.int .i64 a0.Boats), v445, v447], Ent.blk b6 29 #[(.int .i64 0), (.slice none 0 0), (.slice none 0 0)], Ent.blk b4 97 #[(.int .i64 a0.Boats), (.int .i64 a0.Scheme), v1], Ent.snap w0 w0.heap.size] w) ?_ (fun hN753 => ?_)
     · intro F863 wd864 hJ
       obtain ⟨v785, S786, v787, S788, f865, f866, f867, f868, f869, hL⟩ := hJ
       refine DH.only 20 rfl (by kernel_rfl) (S_storeN (l := [(.int .i64 a0.Boats), v787, v785]) (cs' := #[(.int .i64 a0.Boats), v787, v785]) hL 2 rfl Try_T29 f867 rfl (List.forall_mem_cons.2 ⟨rfl, (List.forall_mem_cons.2 ⟨rdL_one (hL.rdO 1 rfl), (List.forall_mem_cons.2 ⟨rdL_one (hL.rdO 0 rfl), (fun _ h => by cases h)⟩)⟩)⟩) f869 (Nat.le_of_ble_eq_true rfl) rfl ?_)
       intro wd870 hL
       refine ⟨(hL.sel [3, 4, 5] (by decide) rfl), ?_⟩
       exact DH.relist (listed' := (bma 21 2097151)) (by kernel_rfl) (hN752 _ _ ⟨v785, S786, v787, S788, f865, f866, f867, f868, hL⟩)
     refine DH.node (listed' := (bma 21 262143)) (fuel' := 3) (fun (F : Fr) (w : World) => ∃ (v789 : Value) (S790 : Nat → Prop) (v791 : Value) (S792 : Nat → Prop), F 1 = (.pointer (some ⟨b4, 0, none⟩)) ∧ F 2 = (.pointer (some ⟨b6, 0, none⟩)) ∧ F 4 = (.pointer (some ⟨b21, 0, none⟩)) ∧ F 5 = (.int .i64 s_l1.2.2) ∧ F 50 = (.int .i64 a0.Boats) ∧ F 62 = v791 ∧ F 64 = v447 ∧ F 66 = v789 ∧ Hp w0 [Ent.own 25 S790 v789 ([s_l2.1] : List (List Int)), Ent.own 25 S792 v791 (s_l1.1 ++ ([x608] : List (List Int))), Ent.frzS wz562 S448, Ent.blk b21 29 #[(.int .i64 a0.Boats), v445, v447], Ent.blk b6 29 #[(.int .i64 0), (.slice none 0 0), (.slice none 0 0)], Ent.blk b4 97 #[(.int .i64 a0.Boats), (.int .i64 a0.Scheme), v1], Ent.snap w0 w0.heap.size] w) ?_ (fun hN754 => ?_)
     · intro F871 wd872 hJ
       obtain ⟨v789, S790, v791, S792, f873, f874, f875, f876, f877, f878, f879, f880, hL⟩ := hJ
       have hL := hL.thaw 2 rfl ho563
       have hL := hL.sel [2, 0, 1, 3, 4, 5, 6] (by decide) rfl
       refine DH.only 18 rfl (by kernel_rfl) (S_appendN Int hL U22 Try_T25 rfl f879 f880 hc628 (by decide) rfl ?_)
       intro wd881 v882 S883 hL
       refine ⟨(hL.sel [3, 4, 5] (by decide) rfl), ?_⟩
       have hS := (hL.sel [3, 4, 5] (by decide) rfl)
       refine DH.take 19 rfl (by kernel_rfl) (by kernel_rfl) (by kernel_rfl) rfl rfl hS (YH.val (v := (.agg #[(.int .i64 a0.Boats), v791, v882])) (fun w' hS' => x_build Try_B29 (ps := [(0, (.int .i64 a0.Boats)), (1, v791), (2, v882)]) ⟨⟨rfl, f877⟩, ⟨rfl, f878⟩, ⟨rfl, rfl⟩, trivial⟩ (by simp [Instr.fill, cells_int, cells_bool, cells_string, cells_agg, cells_slice, cells_pointer, (rdL_cells (hL.rdO 1 rfl)), (rdL_cells (hL.rdO 0 rfl))]))) ?_
       exact DH.relist (listed' := (bma 21 1048575)) (by kernel_rfl) (hN753 _ _ ⟨v882, S883, v791, S792, f873, f874, f875, f876, rfl, hL⟩)
     refine DH.node (listed' := (bma 21 131071)) (fuel' := 4) (fun (F : Fr) (w : World) => ∃ (v793 : Value) (S794 : Nat → Prop), F 1 = (.pointer (some ⟨b4, 0, none⟩)) ∧ F 2 = (.pointer (some ⟨b6, 0, none⟩)) ∧ F 4 = (.pointer (some ⟨b21, 0, none⟩)) ∧ F 5 = (.int .i64 s_l1.2.2) ∧ F 50 = (.int .i64 a0.Boats) ∧ F 62 = v793 ∧ F 64 = v447 ∧ F 65 = v546 ∧ Hp w0 [Ent.own 25 S794 v793 (s_l1.1 ++ ([x608] : List (List Int))), Ent.own 2 S547 v546 s_l2.1, Ent.frzS wz562 S448, Ent.blk b21 29 #[(.int .i64 a0.Boats), v445, v447], Ent.blk b6 29 #[(.int .i64 0), (.slice none 0 0), (.slice none 0 0)], Ent.blk b4 97 #[(.int .i64 a0.Boats), (.int .i64 a0.Scheme), v1], Ent.snap w0 w0.heap.size] w) ?_ (fun hN755 => ?_)
     · intro F884 wd885 hJ
       obtain ⟨v793, S794, f886, f887, f888, f889, f890, f891, f892, f893, hL⟩ := hJ
       have hL := hL.sel [1, 0, 2, 3, 4, 5, 6] (by decide) rfl
       refine DH.only 17 rfl (by kernel_rfl) (S_lit1 s_l2.1 rfl hL U22 Try_T25 ((congrArg Value.cells f893).trans (rdL_cells (hL.rdO 0 rfl))) rfl ?_)
       intro wd894 v895 S896 hL
       refine ⟨(hL.sel [4, 5, 6] (by decide) rfl), ?_⟩
       exact DH.relist (listed' := (bma 21 262143)) (by kernel_rfl) (hN754 _ _ ⟨v895, S896, v793, S794, f886, f887, f888, f889, f890, f891, f892, rfl, hL⟩)
     refine DH.node (listed' := (bma 21 229375)) (fuel' := 4) (fun (F : Fr) (w : World) => ∃ (v795 : Value) (S796 : Nat → Prop) (v797 : Value) (S798 : Nat → Prop), F 1 = (.pointer (some ⟨b4, 0, none⟩)) ∧ F 2 = (.pointer (some ⟨b6, 0, none⟩)) ∧ F 4 = (.pointer (some ⟨b21, 0, none⟩)) ∧ F 5 = (.int .i64 s_l1.2.2) ∧ F 50 = (.int .i64 a0.Boats) ∧ F 62 = v797 ∧ F 63 = (.pointer (some ⟨b21, 2, none⟩)) ∧ F 66 = v795 ∧ Hp w0 [Ent.own 25 S796 v795 ([s_l2.1] : List (List Int)), Ent.own 25 S798 v797 (s_l1.1 ++ ([x608] : List (List Int))), Ent.frzS wz562 S448, Ent.blk b21 29 #[(.int .i64 a0.Boats), v445, v447], Ent.blk b6 29 #[(.int .i64 0), (.slice none 0 0), (.slice none 0 0)], Ent.blk b4 97 #[(.int .i64 a0.Boats), (.int .i64 a0.Scheme), v1], Ent.snap w0 w0.heap.size] w) ?_ (fun hN756 => ?_)
     · intro F897 wd898 hJ
       obtain ⟨v795, S796, v797, S798, f899, f900, f901, f902, f903, f904, f905, f906, hL⟩ := hJ
       refine DH.only 15 rfl (by kernel_rfl) (OP.val (v := v447) rfl (x_load1 U22 rfl f905 (hL.cellB 3 rfl rfl)) ?_)
       refine ⟨(hL.sel [4, 5, 6] (by decide) rfl), ?_⟩
       exact DH.relist (listed' := (bma 21 262143)) (by kernel_rfl) (hN754 _ _ ⟨v795, S796, v797, S798, f899, f900, f901, f902, f903, f904, rfl, f906, hL⟩)
     refine DH.node (listed' := (bma 21 253951)) (fuel' := 4) (fun (F : Fr) (w : World) => ∃ (v799 : Value) (S800 : Nat → Prop) (v801 : Value) (S802 : Nat → Prop), F 1 = (.pointer (some ⟨b4, 0, none⟩)) ∧ F 2 = (.pointer (some ⟨b6, 0, none⟩)) ∧ F 4 = (.pointer (some ⟨b21, 0, none⟩)) ∧ F 5 = (.int .i64 s_l1.2.2) ∧ F 50 = (.int .i64 a0.Boats) ∧ F 52 = v445 ∧ F 61 = v801 ∧ F 64 = v447 ∧ F 66 = v799 ∧ Hp w0 [Ent.own 25 S800 v799 ([s_l2.1] : List (List Int)), Ent.own 25 S802 v801 ([x608] : List (List Int)), Ent.frzS wz560 S446, Ent.frzS wz562 S448, Ent.blk b21 29 #[(.int .i64 a0.Boats), v445, v447], Ent.blk b6 29 #[(.int .i64 0), (.slice none 0 0), (.slice none 0 0)], Ent.blk b4 97 #[(.int .i64 a0.Boats), (.int .i64 a0.Scheme), v1], Ent.snap w0 w0.heap.size] w) ?_ (fun hN757 => ?_)
     · intro F907 wd908 hJ
       obtain ⟨v799, S800, v801, S802, f909, f910, f911, f912, f913, f914, f915, f916, f917, hL⟩ := hJ
       have hL := hL.thaw 2 rfl ho561
       have hL := hL.sel [2, 1, 0, 3, 4, 5, 6, 7] (by decide) rfl
       refine DH.only 13 rfl (by kernel_rfl) (S_appendN Int hL U22 Try_T25 rfl f914 f915 hc621 (by decide) rfl ?_)
       intro wd918 v919 S920 hL
       refine ⟨(hL.sel [4, 5, 6] (by decide) rfl), ?_⟩
       have hL := hL.sel [1, 0, 2, 3, 4, 5, 6] (by decide) rfl
       exact DH.relist (listed' := (bma 21 262143)) (by kernel_rfl) (hN754 _ _ ⟨v799, S800, v919, S920, f909, f910, f911, f912, f913, rfl, f916, f917, hL⟩)
     refine DH.node (listed' := (bma 21 98303)) (fuel' := 5) (fun (F : Fr) (w : World) => ∃ (v803 : Value) (S804 : Nat → Prop), F 1 = (.pointer (some ⟨b4, 0, none⟩)) ∧ F 2 = (.pointer (some ⟨b6, 0, none⟩)) ∧ F 4 = (.pointer (some ⟨b21, 0, none⟩)) ∧ F 5 = (.int .i64 s_l1.2.2) ∧ F 50 = (.int .i64 a0.Boats) ∧ F 62 = v803 ∧ F 63 = (.pointer (some ⟨b21, 2, none⟩)) ∧ F 65 = v546 ∧ Hp w0 [Ent.own 25 S804 v803 (s_l1.1 ++ ([x608] : List (List Int))), Ent.own 2 S547 v546 s_l2.1, Ent.frzS wz562 S448, Ent.blk b21 29 #[(.int .i64 a0.Boats), v445, v447], Ent.blk b6 29 #[(.int .i64 0), (.slice none 0 0), (.slice none 0 0)], Ent.blk b4 97 #[(.int .i64 a0.Boats), (.int .i64 a0.Scheme), v1], Ent.snap w0 w0.heap.size] w) ?_ (fun hN758 => ?_)
     · intro F921 wd922 hJ
       obtain ⟨v803, S804, f923, f924, f925, f926, f927, f928, f929, f930, hL⟩ := hJ
       refine DH.all (rs := [15, 17]) (by kernel_rfl) (by simp) ?_
       intro i931 hi932
       simp only [List.mem_cons, List.not_mem_nil, or_false] at hi932
       rcases hi932 with rfl | rfl
       · refine ⟨_, rfl, ?_⟩
         refine OP.val (v := v447) rfl (x_load1 U22 rfl f929 (hL.cellB 3 rfl rfl)) ?_
         refine ⟨(hL.sel [4, 5, 6] (by decide) rfl), ?_⟩
         exact DH.relist (listed' := (bma 21 131071)) (by kernel_rfl) (hN755 _ _ ⟨v803, S804, f923, f924, f925, f926, f927, f928, rfl, f930, hL⟩)
       refine ⟨_, rfl, ?_⟩
       have hL := hL.sel [1, 0, 2, 3, 4, 5, 6] (by decide) rfl
       refine S_lit1 s_l2.1 rfl hL U22 Try_T25 ((congrArg Value.cells f930).trans (rdL_cells (hL.rdO 0 rfl))) rfl ?_
       intro wd933 v934 S935 hL
       refine ⟨(hL.sel [4, 5, 6] (by decide) rfl), ?_⟩
       exact DH.relist (listed' := (bma 21 229375)) (by kernel_rfl) (hN756 _ _ ⟨v934, S935, v803, S804, f923, f924, f925, f926, f927, f928, f929, rfl, hL⟩)
     refine DH.node (listed' := (bma 21 122879)) (fuel' := 5) (fun (F : Fr) (w : World) => ∃ (v805 : Value) (S806 : Nat → Prop), F 1 = (.pointer (some ⟨b4, 0, none⟩)) ∧ F 2 = (.pointer (some ⟨b6, 0, none⟩)) ∧ F 4 = (.pointer (some ⟨b21, 0, none⟩)) ∧ F 5 = (.int .i64 s_l1.2.2) ∧ F 50 = (.int .i64 a0.Boats) ∧ F 52 = v445 ∧ F 61 = v805 ∧ F 64 = v447 ∧ F 65 = v546 ∧ Hp w0 [Ent.own 25 S806 v805 ([x608] : List (List Int)), Ent.own 2 S547 v546 s_l2.1, Ent.frzS wz560 S446, Ent.frzS wz562 S448, Ent.blk b21 29 #[(.int .i64 a0.Boats), v445, v447], Ent.blk b6 29 #[(.int .i64 0), (.slice none 0 0), (.slice none 0 0)], Ent.blk b4 97 #[(.int .i64 a0.Boats), (.int .i64 a0.Scheme), v1], Ent.snap w0 w0.heap.size] w) ?_ (fun hN759 => ?_)
     · intro F936 wd937 hJ
       obtain ⟨v805, S806, f938, f939, f940, f941, f942, f943, f944, f945, f946, hL⟩ := hJ
       refine DH.all (rs := [13, 17]) (by kernel_rfl) (by simp) ?_
       intro i947 hi948
       simp only [List.mem_cons, List.not_mem_nil, or_false] at hi948
       rcases hi948 with rfl | rfl
       · refine ⟨_, rfl, ?_⟩
         have hL := hL.thaw 2 rfl ho561
         have hL := hL.sel [2, 0, 1, 3, 4, 5, 6, 7] (by decide) rfl
         refine S_appendN Int hL U22 Try_T25 rfl f943 f944 hc621 (by decide) rfl ?_
         intro wd949 v950 S951 hL
         refine ⟨(hL.sel [4, 5, 6] (by decide) rfl), ?_⟩
         exact DH.relist (listed' := (bma 21 131071)) (by kernel_rfl) (hN755 _ _ ⟨v950, S951, f938, f939, f940, f941, f942, rfl, f945, f946, hL⟩)
       refine ⟨_, rfl, ?_⟩
       have hL := hL.sel [1, 0, 2, 3, 4, 5, 6, 7] (by decide) rfl
       refine S_lit1 s_l2.1 rfl hL U22 Try_T25 ((congrArg Value.cells f946).trans (rdL_cells (hL.rdO 0 rfl))) rfl ?_
       intro wd952 v953 S954 hL
       refine ⟨(hL.sel [5, 6, 7] (by decide) rfl), ?_⟩
       exact DH.relist (listed' := (bma 21 253951)) (by kernel_rfl) (hN757 _ _ ⟨v953, S954, v805, S806, f938, f939, f940, f941, f942, f943, f944, f945, rfl, hL⟩)
     refine DH.node (listed' := (bma 21 221183)) (fuel' := 5) (fun (F : Fr) (w : World) => ∃ (v807 : Value) (S808 : Nat → Prop) (v809 : Value) (S810 : Nat → Prop), F 1 = (.pointer (some ⟨b4, 0, none⟩)) ∧ F 2 = (.pointer (some ⟨b6, 0, none⟩)) ∧ F 4 = (.pointer (some ⟨b21, 0, none⟩)) ∧ F 5 = (.int .i64 s_l1.2.2) ∧ F 50 = (.int .i64 a0.Boats) ∧ F 52 = v445 ∧ F 61 = v809 ∧ F 63 = (.pointer (some ⟨b21, 2, none⟩)) ∧ F 66 = v807 ∧ Hp w0 [Ent.own 25 S808 v807 ([s_l2.1] : List (List Int)), Ent.own 25 S810 v809 ([x608] : List (List Int)), Ent.frzS wz560 S446, Ent.frzS wz562 S448, Ent.blk b21 29 #[(.int .i64 a0.Boats), v445, v447], Ent.blk b6 29 #[(.int .i64 0), (.slice none 0 0), (.slice none 0 0)], Ent.blk b4 97 #[(.int .i64 a0.Boats), (.int .i64 a0.Scheme), v1], Ent.snap w0 w0.heap.size] w) ?_ (fun hN760 => ?_)
     · intro F955 wd956 hJ
       obtain ⟨v807, S808, v809, S810, f957, f958, f959, f960, f961, f962, f963, f964, f965, hL⟩ := hJ
       refine DH.all (rs := [13, 15]) (by kernel_rfl) (by simp) ?_
       intro i966 hi967
       simp only [List.mem_cons, List.not_mem_nil, or_false] at hi967
       rcases hi967 with rfl | rfl
       · refine ⟨_, rfl, ?_⟩
         have hL := hL.thaw 2 rfl ho561
         have hL := hL.sel [2, 1, 0, 3, 4, 5, 6, 7] (by decide) rfl
         refine S_appendN Int hL U22 Try_T25 rfl f962 f963 hc621 (by decide) rfl ?_
         intro wd968 v969 S970 hL
         refine ⟨(hL.sel [4, 5, 6] (by decide) rfl), ?_⟩
         have hL := hL.sel [1, 0, 2, 3, 4, 5, 6] (by decide) rfl
         exact DH.relist (listed' := (bma 21 229375)) (by kernel_rfl) (hN756 _ _ ⟨v807, S808, v969, S970, f957, f958, f959, f960, f961, rfl, f964, f965, hL⟩)
       refine ⟨_, rfl, ?_⟩
       refine OP.val (v := v447) rfl (x_load1 U22 rfl f964 (hL.cellB 4 rfl rfl)) ?_
       refine ⟨(hL.sel [5, 6, 7] (by decide) rfl), ?_⟩
       exact DH.relist (listed' := (bma 21 253951)) (by kernel_rfl) (hN757 _ _ ⟨v807, S808, v809, S810, f957, f958, f959, f960, f961, f962, f963, rfl, f965, hL⟩)
     refine DH.node (listed' := (bma 21 249855)) (fuel' := 5) (fun (F : Fr) (w : World) => ∃ (v811 : Value) (S812 : Nat → Prop) (v813 : Value) (S814 : Nat → Prop), F 1 = (.pointer (some ⟨b4, 0, none⟩)) ∧ F 2 = (.pointer (some ⟨b6, 0, none⟩)) ∧ F 4 = (.pointer (some ⟨b21, 0, none⟩)) ∧ F 5 = (.int .i64 s_l1.2.2) ∧ F 50 = (.int .i64 a0.Boats) ∧ F 52 = v445 ∧ F 60 = v813 ∧ F 64 = v447 ∧ F 66 = v811 ∧ Hp w0 [Ent.own 25 S812 v811 ([s_l2.1] : List (List Int)), Ent.own 2 S814 v813 x608, Ent.frzS wz560 S446, Ent.frzS wz562 S448, Ent.blk b21 29 #[(.int .i64 a0.Boats), v445, v447], Ent.blk b6 29 #[(.int .i64 0), (.slice none 0 0), (.slice none 0 0)], Ent.blk b4 97 #[(.int .i64 a0.Boats), (.int .i64 a0.Scheme), v1], Ent.snap w0 w0.heap.size] w) ?_ (fun hN761 => ?_)
     · intro F971 wd972 hJ
       obtain ⟨v811, S812, v813, S814, f973, f974, f975, f976, f977, f978, f979, f980, f981, hL⟩ := hJ
       have hL := hL.sel [1, 0, 2, 3, 4, 5, 6, 7] (by decide) rfl
       refine DH.only 12 rfl (by kernel_rfl) (S_lit1 x608 rfl hL U22 Try_T25 ((congrArg Value.cells f979).trans (rdL_cells (hL.rdO 0 rfl))) rfl ?_)
       intro wd982 v983 S984 hL
       refine ⟨(hL.sel [5, 6, 7] (by decide) rfl), ?_⟩
       have hL := hL.sel [1, 0, 2, 3, 4, 5, 6, 7] (by decide) rfl
       exact DH.relist (listed' := (bma 21 253951)) (by kernel_rfl) (hN757 _ _ ⟨v811, S812, v983, S984, f973, f974, f975, f976, f977, f978, rfl, f980, f981, hL⟩)
     refine DH.node (listed' := (bma 21 253943)) (fuel' := 5) (fun (F : Fr) (w : World) => ∃ (v815 : Value) (S816 : Nat → Prop) (v817 : Value) (S818 : Nat → Prop), F 1 = (.pointer (some ⟨b4, 0, none⟩)) ∧ F 2 = (.pointer (some ⟨b6, 0, none⟩)) ∧ F 4 = (.pointer (some ⟨b21, 0, none⟩)) ∧ F 5 = (.int .i64 s_l1.2.2) ∧ F 50 = (.int .i64 a0.Boats) ∧ F 51 = (.pointer (some ⟨b21, 1, none⟩)) ∧ F 61 = v817 ∧ F 64 = v447 ∧ F 66 = v815 ∧ Hp w0 [Ent.own 25 S816 v815 ([s_l2.1] : List (List Int)), Ent.own 25 S818 v817 ([x608] : List (List Int)), Ent.frzS wz560 S446, Ent.frzS wz562 S448, Ent.blk b21 29 #[(.int .i64 a0.Boats), v445, v447], Ent.blk b6 29 #[(.int .i64 0), (.slice none 0 0), (.slice none 0 0)], Ent.blk b4 97 #[(.int .i64 a0.Boats), (.int .i64 a0.Scheme), v1], Ent.snap w0 w0.heap.size] w) ?_ (fun hN762 => ?_)
     · intro F985 wd986 hJ
       obtain ⟨v815, S816, v817, S818, f987, f988, f989, f990, f991, f992, f993, f994, f995, hL⟩ := hJ
       refine DH.only 3 rfl (by kernel_rfl) (OP.val (v := v445) rfl (x_load1 U22 rfl f992 (hL.cellB 4 rfl rfl)) ?_)
       refine ⟨(hL.sel [5, 6, 7] (by decide) rfl), ?_⟩
       exact DH.relist (listed' := (bma 21 253951)) (by kernel_rfl) (hN757 _ _ ⟨v815, S816, v817, S818, f987, f988, f989, f990, f991, rfl, f993, f994, f995, hL⟩)
     refine DH.node (listed' := (bma 21 90111)) (fuel' := 6) (fun (F : Fr) (w : World) => ∃ (v819 : Value) (S820 : Nat → Prop), F 1 = (.pointer (some ⟨b4, 0, none⟩)) ∧ F 2 = (.pointer (some ⟨b6, 0, none⟩)) ∧ F 4 = (.pointer (some ⟨b21, 0, none⟩)) ∧ F 5 = (.int .i64 s_l1.2.2) ∧ F 50 = (.int .i64 a0.Boats) ∧ F 52 = v445 ∧ F 61 = v819 ∧ F 63 = (.pointer (some ⟨b21, 2, none⟩)) ∧ F 65 = v546 ∧ Hp w0 [Ent.own 25 S820 v819 ([x608] : List (List Int)), Ent.own 2 S547 v546 s_l2.1, Ent.frzS wz560 S446, Ent.frzS wz562 S448, Ent.blk b21 29 #[(.int .i64 a0.Boats), v445, v447], Ent.blk b6 29 #[(.int .i64 0), (.slice none 0 0), (.slice none 0 0)], Ent.blk b4 97 #[(.int .i64 a0.Boats), (.int .i64 a0.Scheme), v1], Ent.snap w0 w0.heap.size] w) ?_ (fun hN763 => ?_)
     · intro F996 wd997 hJ
       obtain ⟨v819, S820, f998, f999, f1000, f1001, f1002, f1003, f1004, f1005, f1006, hL⟩ := hJ
       refine DH.all (rs := [13, 15, 17]) (by kernel_rfl) (by simp) ?_
       intro i1007 hi1008
       simp only [List.mem_cons, List.not_mem_nil, or_false] at hi1008
       rcases hi1008 with rfl | rfl | rfl
       · refine ⟨_, rfl, ?_⟩
         have hL := hL.thaw 2 rfl ho561
         have hL := hL.sel [2, 0, 1, 3, 4, 5, 6, 7] (by decide) rfl
         refine S_appendN Int hL U22 Try_T25 rfl f1003 f1004 hc621 (by decide) rfl ?_
         intro wd1009 v1010 S1011 hL
         refine ⟨(hL.sel [4, 5, 6] (by decide) rfl), ?_⟩
         exact DH.relist (listed' := (bma 21 98303)) (by kernel_rfl) (hN758 _ _ ⟨v1010, S1011, f998, f999, f1000, f1001, f1002, rfl, f1005, f1006, hL⟩)
       · refine ⟨_, rfl, ?_⟩
         refine OP.val (v := v447) rfl (x_load1 U22 rfl f1005 (hL.cellB 4 rfl rfl)) ?_
         refine ⟨(hL.sel [5, 6, 7] (by decide) rfl), ?_⟩
         exact DH.relist (listed' := (bma 21 122879)) (by kernel_rfl) (hN759 _ _ ⟨v819, S820, f998, f999, f1000, f1001, f1002, f1003, f1004, rfl, f1006, hL⟩)
       refine ⟨_, rfl, ?_⟩
       have hL := hL.sel [1, 0, 2, 3, 4, 5, 6, 7] (by decide) rfl
       refine S_lit1 s_l2.1 rfl hL U22 Try_T25 ((congrArg Value.cells f1006).trans (rdL_cells (hL.rdO 0 rfl))) rfl ?_
       intro wd1012 v1013 S1014 hL
       refine ⟨(hL.sel [5, 6, 7] (by decide) rfl), ?_⟩
       exact DH.relist (listed' := (bma 21 221183)) (by kernel_rfl) (hN760 _ _ ⟨v1013, S1014, v819, S820, f998, f999, f1000, f1001, f1002, f1003, f1004, f1005, rfl, hL⟩)
     refine DH.node (listed' := (bma 21 118783)) (fuel' := 6) (fun (F : Fr) (w : World) => ∃ (v821 : Value) (S822 : Nat → Prop), F 1 = (.pointer (some ⟨b4, 0, none⟩)) ∧ F 2 = (.pointer (some ⟨b6, 0, none⟩)) ∧ F 4 = (.pointer (some ⟨b21, 0, none⟩)) ∧ F 5 = (.int .i64 s_l1.2.2) ∧ F 50 = (.int .i64 a0.Boats) ∧ F 52 = v445 ∧ F 60 = v821 ∧ F 64 = v447 ∧ F 65 = v546 ∧ Hp w0 [Ent.own 2 S822 v821 x608, Ent.own 2 S547 v546 s_l2.1, Ent.frzS wz560 S446, Ent.frzS wz562 S448, Ent.blk b21 29 #[(.int .i64 a0.Boats), v445, v447], Ent.blk b6 29 #[(.int .i64 0), (.slice none 0 0), (.slice none 0 0)], Ent.blk b4 97 #[(.int .i64 a0.Boats), (.int .i64 a0.Scheme), v1], Ent.snap w0 w0.heap.size] w) ?_ (fun hN764 => ?_)
     · intro F1015 wd1016 hJ
       obtain ⟨v821, S822, f1017, f1018, f1019, f1020, f1021, f1022, f1023, f1024, f1025, hL⟩ := hJ
       refine DH.all (rs := [12, 17]) (by kernel_rfl) (by simp) ?_
       intro i1026 hi1027
       simp only [List.mem_cons, List.not_mem_nil, or_false] at hi1027
       rcases hi1027 with rfl | rfl
       · refine ⟨_, rfl, ?_⟩
         refine S_lit1 x608 rfl hL U22 Try_T25 ((congrArg Value.cells f1023).trans (rdL_cells (hL.rdO 0 rfl))) rfl ?_
         intro wd1028 v1029 S1030 hL
         refine ⟨(hL.sel [5, 6, 7] (by decide) rfl), ?_⟩
         exact DH.relist (listed' := (bma 21 122879)) (by kernel_rfl) (hN759 _ _ ⟨v1029, S1030, f1017, f1018, f1019, f1020, f1021, f1022, rfl, f1024, f1025, hL⟩)
       refine ⟨_, rfl, ?_⟩
       have hL := hL.sel [1, 0, 2, 3, 4, 5, 6, 7] (by decide) rfl
       refine S_lit1 s_l2.1 rfl hL U22 Try_T25 ((congrArg Value.cells f1025).trans (rdL_cells (hL.rdO 0 rfl))) rfl ?_
       intro wd1031 v1032 S1033 hL
       refine ⟨(hL.sel [5, 6, 7] (by decide) rfl), ?_⟩
       exact DH.relist (listed' := (bma 21 249855)) (by kernel_rfl) (hN761 _ _ ⟨v1032, S1033, v821, S822, f1017, f1018, f1019, f1020, f1021, f1022, f1023, f1024, rfl, hL⟩)
     refine DH.node (listed' := (bma 21 217087)) (fuel' := 6) (fun (F : Fr) (w : World) => ∃ (v823 : Value) (S824 : Nat → Prop) (v825 : Value) (S826 : Nat → Prop), F 1 = (.pointer (some ⟨b4, 0, none⟩)) ∧ F 2 = (.pointer (some ⟨b6, 0, none⟩)) ∧ F 4 = (.pointer (some ⟨b21, 0, none⟩)) ∧ F 5 = (.int .i64 s_l1.2.2) ∧ F 50 = (.int .i64 a0.Boats) ∧ F 52 = v445 ∧ F 60 = v825 ∧ F 63 = (.pointer (some ⟨b21, 2, none⟩)) ∧ F 66 = v823 ∧ Hp w0 [Ent.own 25 S824 v823 ([s_l2.1] : List (List Int)), Ent.own 2 S826 v825 x608, Ent.frzS wz560 S446, Ent.frzS wz562 S448, Ent.blk b21 29 #[(.int .i64 a0.Boats), v445, v447], Ent.blk b6 29 #[(.int .i64 0), (.slice none 0 0), (.slice none 0 0)], Ent.blk b4 97 #[(.int .i64 a0.Boats), (.int .i64 a0.Scheme), v1], Ent.snap w0 w0.heap.size] w) ?_ (fun hN765 => ?_)
     · intro F1034 wd1035 hJ
       obtain ⟨v823, S824, v825, S826, f1036, f1037, f1038, f1039, f1040, f1041, f1042, f1043, f1044, hL⟩ := hJ
       refine DH.all (rs := [12, 15]) (by kernel_rfl) (by simp) ?_
       intro i1045 hi1046
       simp only [List.mem_cons, List.not_mem_nil, or_false] at hi1046
       rcases hi1046 with rfl | rfl
       · refine ⟨_, rfl, ?_⟩
         have hL := hL.sel [1, 0, 2, 3, 4, 5, 6, 7] (by decide) rfl
         refine S_lit1 x608 rfl hL U22 Try_T25 ((congrArg Value.cells f1042).trans (rdL_cells (hL.rdO 0 rfl))) rfl ?_
         intro wd1047 v1048 S1049 hL
         refine ⟨(hL.sel [5, 6, 7] (by decide) rfl), ?_⟩
         have hL := hL.sel [1, 0, 2, 3, 4, 5, 6, 7] (by decide) rfl
         exact DH.relist (listed' := (bma 21 221183)) (by kernel_rfl) (hN760 _ _ ⟨v823, S824, v1048, S1049, f1036, f1037, f1038, f1039, f1040, f1041, rfl, f1043, f1044, hL⟩)
       refine ⟨_, rfl, ?_⟩
       refine OP.val (v := v447) rfl (x_load1 U22 rfl f1043 (hL.cellB 4 rfl rfl)) ?_
       refine ⟨(hL.sel [5, 6, 7] (by decide) rfl), ?_⟩
       exact DH.relist (listed' := (bma 21 249855)) (by kernel_rfl) (hN761 _ _ ⟨v823, S824, v825, S826, f1036, f1037, f1038, f1039, f1040, f1041, f1042, rfl, f1044, hL⟩)
     refine DH.node (listed' := (bma 21 247807)) (fuel' := 6) (fun (F : Fr) (w : World) => ∃ (v827 : Value) (S828 : Nat → Prop), F 1 = (.pointer (some ⟨b4, 0, none⟩)) ∧ F 2 = (.pointer (some ⟨b6, 0, none⟩)) ∧ F 4 = (.pointer (some ⟨b21, 0, none⟩)) ∧ F 5 = (.int .i64 s_l1.2.2) ∧ F 50 = (.int .i64 a0.Boats) ∧ F 52 = v445 ∧ F 57 = (.agg #[v602]) ∧ F 59 = (.int .i64 a0.Scheme) ∧ F 64 = v447 ∧ F 66 = v827 ∧ Hp w0 [Ent.own 25 S828 v827 ([s_l2.1] : List (List Int)), Ent.frzS wz560 S446, Ent.frzS wz562 S448, Ent.blk b21 29 #[(.int .i64 a0.Boats), v445, v447], Ent.blk b6 29 #[(.int .i64 0), (.slice none 0 0), (.slice none 0 0)], Ent.blk b4 97 #[(.int .i64 a0.Boats), (.int .i64 a0.Scheme), v1], Ent.snap w0 w0.heap.size] w) ?_ (fun hN766 => ?_)
     · intro F1050 wd1051 hJ
       obtain ⟨v827, S828, f1052, f1053, f1054, f1055, f1056, f1057, f1058, f1059, f1060, f1061, hL⟩ := hJ
       refine DH.only 11 rfl (by kernel_rfl) (OP.call rfl (x_call (vs := [(.agg #[v602]), (.int .i64 a0.Scheme)]) Try_C123 ⟨f1058, f1059, trivial⟩) (M.spec_l26Points_ok _ x597 (hL.rdS 6 rfl hr606) a0.Scheme hx609) ?_)
       rintro e1064 wd1065 ⟨v1063, S1062, rfl, hF1066⟩
       refine ⟨_, rfl, ?_⟩
       have hL := hL.pushAll hF1066
       simp only [lA, lB, lC, lD] at hL
       refine ⟨(hL.sel [5, 6, 7] (by decide) rfl), ?_⟩
       have hL := hL.sel [1, 0, 2, 3, 4, 5, 6, 7] (by decide) rfl
       exact DH.relist (listed' := (bma 21 249855)) (by kernel_rfl) (hN761 _ _ ⟨v827, S828, v1063, S1062, f1052, f1053, f1054, f1055, f1056, f1057, rfl, f1060, f1061, hL⟩)
     refine DH.node (listed' := (bma 21 122871)) (fuel' := 6) (fun (F : Fr) (w : World) => ∃ (v829 : Value) (S830 : Nat → Prop), F 1 = (.pointer (some ⟨b4, 0, none⟩)) ∧ F 2 = (.pointer (some ⟨b6, 0, none⟩)) ∧ F 4 = (.pointer (some ⟨b21, 0, none⟩)) ∧ F 5 = (.int .i64 s_l1.2.2) ∧ F 50 = (.int .i64 a0.Boats) ∧ F 51 = (.pointer (some ⟨b21, 1, none⟩)) ∧ F 61 = v829 ∧ F 64 = v447 ∧ F 65 = v546 ∧ Hp w0 [Ent.own 25 S830 v829 ([x608] : List (List Int)), Ent.own 2 S547 v546 s_l2.1, Ent.frzS wz560 S446, Ent.frzS wz562 S448, Ent.blk b21 29 #[(.int .i64 a0.Boats), v445, v447], Ent.blk b6 29 #[(.int .i64 0), (.slice none 0 0), (.slice none 0 0)], Ent.blk b4 97 #[(.int .i64 a0.Boats), (.int .i64 a0.Scheme), v1], Ent.snap w0 w0.heap.size] w) ?_ (fun hN767 => ?_)
     · intro F1067 wd1068 hJ
       obtain ⟨v829, S830, f1069, f1070, f1071, f1072, f1073, f1074, f1075, f1076, f1077, hL⟩ := hJ
       refine DH.all (rs := [3, 17]) (by kernel_rfl) (by simp) ?_
       intro i1078 hi1079
       simp only [List.mem_cons, List.not_mem_nil, or_false] at hi1079
       rcases hi1079 with rfl | rfl
       · refine ⟨_, rfl, ?_⟩
         refine OP.val (v := v445) rfl (x_load1 U22 rfl f1074 (hL.cellB 4 rfl rfl)) ?_
         refine ⟨(hL.sel [5, 6, 7] (by decide) rfl), ?_⟩
         exact DH.relist (listed' := (bma 21 122879)) (by kernel_rfl) (hN759 _ _ ⟨v829, S830, f1069, f1070, f1071, f1072, f1073, rfl, f1075, f1076, f1077, hL⟩)
       refine ⟨_, rfl, ?_⟩
       have hL := hL.sel [1, 0, 2, 3, 4, 5, 6, 7] (by decide) rfl
       refine S_lit1 s_l2.1 rfl hL U22 Try_T25 ((congrArg Value.cells f1077).trans (rdL_cells (hL.rdO 0 rfl))) rfl ?_
       intro wd1080 v1081 S1082 hL
       refine ⟨(hL.sel [5, 6, 7] (by decide) rfl), ?_⟩
       exact DH.relist (listed' := (bma 21 253943)) (by kernel_rfl) (hN762 _ _ ⟨v1081, S1082, v829, S830, f1069, f1070, f1071, f1072, f1073, f1074, f1075, f1076, rfl, hL⟩)
     refine DH.node (listed' := (bma 21 221175)) (fuel' := 6) (fun (F : Fr) (w : World) => ∃ (v831 : Value) (S832 : Nat → Prop) (v833 : Value) (S834 : Nat → Prop), F 1 = (.pointer (some ⟨b4, 0, none⟩)) ∧ F 2 = (.pointer (some ⟨b6, 0, none⟩)) ∧ F 4 = (.pointer (some ⟨b21, 0, none⟩)) ∧ F 5 = (.int .i64 s_l1.2.2) ∧ F 50 = (.int .i64 a0.Boats) ∧ F 51 = (.pointer (some ⟨b21, 1, none⟩)) ∧ F 61 = v833 ∧ F 63 = (.pointer (some ⟨b21, 2, none⟩)) ∧ F 66 = v831 ∧ Hp w0 [Ent.own 25 S832 v831 ([s_l2.1] : List (List Int)), Ent.own 25 S834 v833 ([x608] : List (List Int)), Ent.frzS wz560 S446, Ent.frzS wz562 S448, Ent.blk b21 29 #[(.int .i64 a0.Boats), v445, v447], Ent.blk b6 29 #[(.int .i64 0), (.slice none 0 0), (.slice none 0 0)], Ent.blk b4 97 #[(.int .i64 a0.Boats), (.int .i64 a0.Scheme), v1], Ent.snap w0 w0.heap.size] w) ?_ (fun hN768 => ?_)
     · intro F1083 wd1084 hJ
       obtain ⟨v831, S832, v833, S834, f1085, f1086, f1087, f1088, f1089, f1090, f1091, f1092, f1093, hL⟩ := hJ
       refine DH.all (rs := [3, 15]) (by kernel_rfl) (by simp) ?_
       intro i1094 hi1095
       simp only [List.mem_cons, List.not_mem_nil, or_false] at hi1095
       rcases hi1095 with rfl | rfl
       · refine ⟨_, rfl, ?_⟩
         refine OP.val (v := v445) rfl (x_load1 U22 rfl f1090 (hL.cellB 4 rfl rfl)) ?_
         refine ⟨(hL.sel [5, 6, 7] (by decide) rfl), ?_⟩
         exact DH.relist (listed' := (bma 21 221183)) (by kernel_rfl) (hN760 _ _ ⟨v831, S832, v833, S834, f1085, f1086, f1087, f1088, f1089, rfl, f1091, f1092, f1093, hL⟩)
       refine ⟨_, rfl, ?_⟩
       refine OP.val (v := v447) rfl (x_load1 U22 rfl f1092 (hL.cellB 4 rfl rfl)) ?_
       refine ⟨(hL.sel [5, 6, 7] (by decide) rfl), ?_⟩
       exact DH.relist (listed' := (bma 21 253943)) (by kernel_rfl) (hN762 _ _ ⟨v831, S832, v833, S834, f1085, f1086, f1087, f1088, f1089, f1090, f1091, rfl, f1093, hL⟩)
     refine DH.node (listed' := (bma 21 249847)) (fuel' := 6) (fun (F : Fr) (w : World) => ∃ (v835 : Value) (S836 : Nat → Prop) (v837 : Value) (S838 : Nat → Prop), F 1 = (.pointer (some ⟨b4, 0, none⟩)) ∧ F 2 = (.pointer (some ⟨b6, 0, none⟩)) ∧ F 4 = (.pointer (some ⟨b21, 0, none⟩)) ∧ F 5 = (.int .i64 s_l1.2.2) ∧ F 50 = (.int .i64 a0.Boats) ∧ F 51 = (.pointer (some ⟨b21, 1, none⟩)) ∧ F 60 = v837 ∧ F 64 = v447 ∧ F 66 = v835 ∧ Hp w0 [Ent.own 25 S836 v835 ([s_l2.1] : List (List Int)), Ent.own 2 S838 v837 x608, Ent.frzS wz560 S446, Ent.frzS wz562 S448, Ent.blk b21 29 #[(.int .i64 a0.Boats), v445, v447], Ent.blk b6 29 #[(.int .i64 0), (.slice none 0 0), (.slice none 0 0)], Ent.blk b4 97 #[(.int .i64 a0.Boats), (.int .i64 a0.Scheme), v1], Ent.snap w0 w0.heap.size] w) ?_ (fun hN769 => ?_)
     · intro F1096 wd1097 hJ
       obtain ⟨v835, S836, v837, S838, f1098, f1099, f1100, f1101, f1102, f1103, f1104, f1105, f1106, hL⟩ := hJ
       refine DH.all (rs := [3, 12]) (by kernel_rfl) (by simp) ?_
       intro i1107 hi1108
       simp only [List.mem_cons, List.not_mem_nil, or_false] at hi1108
       rcases hi1108 with rfl | rfl
       · refine ⟨_, rfl, ?_⟩
         refine OP.val (v := v445) rfl (x_load1 U22 rfl f1103 (hL.cellB 4 rfl rfl)) ?_
         refine ⟨(hL.sel [5, 6, 7] (by decide) rfl), ?_⟩
         exact DH.relist (listed' := (bma 21 249855)) (by kernel_rfl) (hN761 _ _ ⟨v835, S836, v837, S838, f1098, f1099, f1100, f1101, f1102, rfl, f1104, f1105, f1106, hL⟩)
       refine ⟨_, rfl, ?_⟩
       have hL := hL.sel [1, 0, 2, 3, 4, 5, 6, 7] (by decide) rfl
       refine S_lit1 x608 rfl hL U22 Try_T25 ((congrArg Value.cells f1104).trans (rdL_cells (hL.rdO 0 rfl))) rfl ?_
       intro wd1109 v1110 S1111 hL
       refine ⟨(hL.sel [5, 6, 7] (by decide) rfl), ?_⟩
       have hL := hL.sel [1, 0, 2, 3, 4, 5, 6, 7] (by decide) rfl
       exact DH.relist (listed' := (bma 21 253943)) (by kernel_rfl) (hN762 _ _ ⟨v835, S836, v1110, S1111, f1098, f1099, f1100, f1101, f1102, f1103, rfl, f1105, f1106, hL⟩)
     refine DH.node (listed' := (bma 21 86015)) (fuel' := 7) (fun (F : Fr) (w : World) => ∃ (v839 : Value) (S840 : Nat → Prop), F 1 = (.pointer (some ⟨b4, 0, none⟩)) ∧ F 2 = (.pointer (some ⟨b6, 0, none⟩)) ∧ F 4 = (.pointer (some ⟨b21, 0, none⟩)) ∧ F 5 = (.int .i64 s_l1.2.2) ∧ F 50 = (.int .i64 a0.Boats) ∧ F 52 = v445 ∧ F 60 = v839 ∧ F 63 = (.pointer (some ⟨b21, 2, none⟩)) ∧ F 65 = v546 ∧ Hp w0 [Ent.own 2 S840 v839 x608, Ent.own 2 S547 v546 s_l2.1, Ent.frzS wz560 S446, Ent.frzS wz562 S448, Ent.blk b21 29 #[(.int .i64 a0.Boats), v445, v447], Ent.blk b6 29 #[(.int .i64 0), (.slice none 0 0), (.slice none 0 0)], Ent.blk b4 97 #[(.int .i64 a0.Boats), (.int .i64 a0.Scheme), v1], Ent.snap w0 w0.heap.size] w) ?_ (fun hN770 => ?_)
     · intro F1112 wd1113 hJ
       obtain ⟨v839, S840, f1114, f1115, f1116, f1117, f1118, f1119, f1120, f1121, f1122, hL⟩ := hJ
       refine DH.all (rs := [12, 15, 17]) (by kernel_rfl) (by simp) ?_
       intro i1123 hi1124
       simp only [List.mem_cons, List.not_mem_nil, or_false] at hi1124
       rcases hi1124 with rfl | rfl | rfl
       · refine ⟨_, rfl, ?_⟩
         refine S_lit1 x608 rfl hL U22 Try_T25 ((congrArg Value.cells f1120).trans (rdL_cells (hL.rdO 0 rfl))) rfl ?_
         intro wd1125 v1126 S1127 hL
         refine ⟨(hL.sel [5, 6, 7] (by decide) rfl), ?_⟩
         exact DH.relist (listed' := (bma 21 90111)) (by kernel_rfl) (hN763 _ _ ⟨v1126, S1127, f1114, f1115, f1116, f1117, f1118, f1119, rfl, f1121, f1122, hL⟩)
       · refine ⟨_, rfl, ?_⟩
         refine OP.val (v := v447) rfl (x_load1 U22 rfl f1121 (hL.cellB 4 rfl rfl)) ?_
         refine ⟨(hL.sel [5, 6, 7] (by decide) rfl), ?_⟩
         exact DH.relist (listed' := (bma 21 118783)) (by kernel_rfl) (hN764 _ _ ⟨v839, S840, f1114, f1115, f1116, f1117, f1118, f1119, f1120, rfl, f1122, hL⟩)
       refine ⟨_, rfl, ?_⟩
       have hL := hL.sel [1, 0, 2, 3, 4, 5, 6, 7] (by decide) rfl
       refine S_lit1 s_l2.1 rfl hL U22 Try_T25 ((congrArg Value.cells f1122).trans (rdL_cells (hL.rdO 0 rfl))) rfl ?_
       intro wd1128 v1129 S1130 hL
       refine ⟨(hL.sel [5, 6, 7] (by decide) rfl), ?_⟩
       exact DH.relist (listed' := (bma 21 217087)) (by kernel_rfl) (hN765 _ _ ⟨v1129, S1130, v839, S840, f1114, f1115, f1116, f1117, f1118, f1119, f1120, f1121, rfl, hL⟩)
     refine DH.node (listed' := (bma 21 116735)) (fuel' := 7) (fun (F : Fr) (w : World) => F 1 = (.pointer (some ⟨b4, 0, none⟩)) ∧ F 2 = (.pointer (some ⟨b6, 0, none⟩)) ∧ F 4 = (.pointer (some ⟨b21, 0, none⟩)) ∧ F 5 = (.int .i64 s_l1.2.2) ∧ F 50 = (.int .i64 a0.Boats) ∧ F 52 = v445 ∧ F 57 = (.agg #[v602]) ∧ F 59 = (.int .i64 a0.Scheme) ∧ F 64 = v447 ∧ F 65 = v546 ∧ Hp w0 [Ent.own 2 S547 v546 s_l2.1, Ent.frzS wz560 S446, Ent.frzS wz562 S448, Ent.blk b21 29 #[(.int .i64 a0.Boats), v445, v447], Ent.blk b6 29 #[(.int .i64 0), (.slice none 0 0), (.slice none 0 0)], Ent.blk b4 97 #[(.int .i64 a0.Boats), (.int .i64 a0.Scheme), v1], Ent.snap w0 w0.heap.size] w) ?_ (fun hN771 => ?_)
     · intro F1131 wd1132 hJ
       obtain ⟨f1133, f1134, f1135, f1136, f1137, f1138, f1139, f1140, f1141, f1142, hL⟩ := hJ
       refine DH.all (rs := [11, 17]) (by kernel_rfl) (by simp) ?_
       intro i1143 hi1144
       simp only [List.mem_cons, List.not_mem_nil, or_false] at hi1144
       rcases hi1144 with rfl | rfl
       · refine ⟨_, rfl, ?_⟩
         refine OP.call rfl (x_call (vs := [(.agg #[v602]), (.int .i64 a0.Scheme)]) Try_C123 ⟨f1139, f1140, trivial⟩) (M.spec_l26Points_ok _ x597 (hL.rdS 6 rfl hr606) a0.Scheme hx609) ?_
         rintro e1147 wd1148 ⟨v1146, S1145, rfl, hF1149⟩
         refine ⟨_, rfl, ?_⟩
         have hL := hL.pushAll hF1149
         simp only [lA, lB, lC, lD] at hL
         refine ⟨(hL.sel [5, 6, 7] (by decide) rfl), ?_⟩
         exact DH.relist (listed' := (bma 21 118783)) (by kernel_rfl) (hN764 _ _ ⟨v1146, S1145, f1133, f1134, f1135, f1136, f1137, f1138, rfl, f1141, f1142, hL⟩)
       refine ⟨_, rfl, ?_⟩
       refine S_lit1 s_l2.1 rfl hL U22 Try_T25 ((congrArg Value.cells f1142).trans (rdL_cells (hL.rdO 0 rfl))) rfl ?_
       intro wd1150 v1151 S1152 hL
       refine ⟨(hL.sel [4, 5, 6] (by decide) rfl), ?_⟩
       exact DH.relist (listed' := (bma 21 247807)) (by kernel_rfl) (hN766 _ _ ⟨v1151, S1152, f1133, f1134, f1135, f1136, f1137, f1138, f1139, f1140, f1141, rfl, hL⟩)
     refine DH.node (listed' := (bma 21 215039)) (fuel' := 7) (fun (F : Fr) (w : World) => ∃ (v841 : Value) (S842 : Nat → Prop), F 1 = (.pointer (some ⟨b4, 0, none⟩)) ∧ F 2 = (.pointer (some ⟨b6, 0, none⟩)) ∧ F 4 = (.pointer (some ⟨b21, 0, none⟩)) ∧ F 5 = (.int .i64 s_l1.2.2) ∧ F 50 = (.int .i64 a0.Boats) ∧ F 52 = v445 ∧ F 57 = (.agg #[v602]) ∧ F 59 = (.int .i64 a0.Scheme) ∧ F 63 = (.pointer (some ⟨b21, 2, none⟩)) ∧ F 66 = v841 ∧ Hp w0 [Ent.own 25 S842 v841 ([s_l2.1] : List (List Int)), Ent.frzS wz560 S446, Ent.frzS wz562 S448, Ent.blk b21 29 #[(.int .i64 a0.Boats), v445, v447], Ent.blk b6 29 #[(.int .i64 0), (.slice none 0 0), (.slice none 0 0)], Ent.blk b4 97 #[(.int .i64 a0.Boats), (.int .i64 a0.Scheme), v1], Ent.snap w0 w0.heap.size] w) ?_ (fun hN772 => ?_)
     · intro F1153 wd1154 hJ
       obtain ⟨v841, S842, f1155, f1156, f1157, f1158, f1159, f1160, f1161, f1162, f1163, f1164, hL⟩ := hJ
       refine DH.all (rs := [11, 15]) (by kernel_rfl) (by simp) ?_
       intro i1165 hi1166
       simp only [List.mem_cons, List.not_mem_nil, or_false] at hi1166
       rcases hi1166 with rfl | rfl
       · refine ⟨_, rfl, ?_⟩
         refine OP.call rfl (x_call (vs := [(.agg #[v602]), (.int .i64 a0.Scheme)]) Try_C123 ⟨f1161, f1162, trivial⟩) (M.spec_l26Points_ok _ x597 (hL.rdS 6 rfl hr606) a0.Scheme hx609) ?_
         rintro e1169 wd1170 ⟨v1168, S1167, rfl, hF1171⟩
         refine ⟨_, rfl, ?_⟩
         have hL := hL.pushAll hF1171
         simp only [lA, lB, lC, lD] at hL
         refine ⟨(hL.sel [5, 6, 7] (by decide) rfl), ?_⟩
         have hL := hL.sel [1, 0, 2, 3, 4, 5, 6, 7] (by decide) rfl
         exact DH.relist (listed' := (bma 21 217087)) (by kernel_rfl) (hN765 _ _ ⟨v841, S842, v1168, S1167, f1155, f1156, f1157, f1158, f1159, f1160, rfl, f1163, f1164, hL⟩)
       refine ⟨_, rfl, ?_⟩
       refine OP.val (v := v447) rfl (x_load1 U22 rfl f1163 (hL.cellB 3 rfl rfl)) ?_
       refine ⟨(hL.sel [4, 5, 6] (by decide) rfl), ?_⟩
       exact DH.relist (listed' := (bma 21 247807)) (by kernel_rfl) (hN766 _ _ ⟨v841, S842, f1155, f1156, f1157, f1158, f1159, f1160, f1161, f1162, rfl, f1164, hL⟩)
     refine DH.node (listed' := (bma 21 90103)) (fuel' := 7) (fun (F : Fr) (w : World) => ∃ (v843 : Value) (S844 : Nat → Prop), F 1 = (.pointer (some ⟨b4, 0, none⟩)) ∧ F 2 = (.pointer (some ⟨b6, 0, none⟩)) ∧ F 4 = (.pointer (some ⟨b21, 0, none⟩)) ∧ F 5 = (.int .i64 s_l1.2.2) ∧ F 50 = (.int .i64 a0.Boats) ∧ F 51 = (.pointer (some ⟨b21, 1, none⟩)) ∧ F 61 = v843 ∧ F 63 = (.pointer (some ⟨b21, 2, none⟩)) ∧ F 65 = v546 ∧ Hp w0 [Ent.own 25 S844 v843 ([x608] : List (List Int)), Ent.own 2 S547 v546 s_l2.1, Ent.frzS wz560 S446, Ent.frzS wz562 S448, Ent.blk b21 29 #[(.int .i64 a0.Boats), v445, v447], Ent.blk b6 29 #[(.int .i64 0), (.slice none 0 0), (.slice none 0 0)], Ent.blk b4 97 #[(.int .i64 a0.Boats), (.int .i64 a0.Scheme), v1], Ent.snap w0 w0.heap.size] w) ?_ (fun hN773 => ?_)
     · intro F1172 wd1173 hJ
       obtain ⟨v843, S844, f1174, f1175, f1176, f1177, f1178, f1179, f1180, f1181, f1182, hL⟩ := hJ
       refine DH.all (rs := [3, 15, 17]) (by kernel_rfl) (by simp) ?_
       intro i1183 hi1184
       simp only [List.mem_cons, List.not_mem_nil, or_false] at hi1184
       rcases hi1184 with rfl | rfl | rfl
       · refine ⟨_, rfl, ?_⟩
         refine OP.val (v := v445) rfl (x_load1 U22 rfl f1179 (hL.cellB 4 rfl rfl)) ?_
         refine ⟨(hL.sel [5, 6, 7] (by decide) rfl), ?_⟩
         exact DH.relist (listed' := (bma 21 90111)) (by kernel_rfl) (hN763 _ _ ⟨v843, S844, f1174, f1175, f1176, f1177, f1178, rfl, f1180, f1181, f1182, hL⟩)
       · refine ⟨_, rfl, ?_⟩
         refine OP.val (v := v447) rfl (x_load1 U22 rfl f1181 (hL.cellB 4 rfl rfl)) ?_
         refine ⟨(hL.sel [5, 6, 7] (by decide) rfl), ?_⟩
         exact DH.relist (listed' := (bma 21 122871)) (by kernel_rfl) (hN767 _ _ ⟨v843, S844, f1174, f1175, f1176, f1177, f1178, f1179, f1180, rfl, f1182, hL⟩)
       refine ⟨_, rfl, ?_⟩
       have hL := hL.sel [1, 0, 2, 3, 4, 5, 6, 7] (by decide) rfl
       refine S_lit1 s_l2.1 rfl hL U22 Try_T25 ((congrArg Value.cells f1182).trans (rdL_cells (hL.rdO 0 rfl))) rfl ?_
       intro wd1185 v1186 S1187 hL
       refine ⟨(hL.sel [5, 6, 7] (by decide) rfl), ?_⟩
       exact DH.relist (listed' := (bma 21 221175)) (by kernel_rfl) (hN768 _ _ ⟨v1186, S1187, v843, S844, f1174, f1175, f1176, f1177, f1178, f1179, f1180, f1181, rfl, hL⟩)
     refine DH.node (listed' := (bma 21 118775)) (fuel' := 7) (fun (F : Fr) (w : World) => ∃ (v845 : Value) (S846 : Nat → Prop), F 1 = (.pointer (some ⟨b4, 0, none⟩)) ∧ F 2 = (.pointer (some ⟨b6, 0, none⟩)) ∧ F 4 = (.pointer (some ⟨b21, 0, none⟩)) ∧ F 5 = (.int .i64 s_l1.2.2) ∧ F 50 = (.int .i64 a0.Boats) ∧ F 51 = (.pointer (some ⟨b21, 1, none⟩)) ∧ F 60 = v845 ∧ F 64 = v447 ∧ F 65 = v546 ∧ Hp w0 [Ent.own 2 S846 v845 x608, Ent.own 2 S547 v546 s_l2.1, Ent.frzS wz560 S446, Ent.frzS wz562 S448, Ent.blk b21 29 #[(.int .i64 a0.Boats), v445, v447], Ent.blk b6 29 #[(.int .i64 0), (.slice none 0 0), (.slice none 0 0)], Ent.blk b4 97 #[(.int .i64 a0.Boats), (.int .i64 a0.Scheme), v1], Ent.snap w0 w0.heap.size] w) ?_ (fun hN774 => ?_)
     · intro F1188 wd1189 hJ
       obtain ⟨v845, S846, f1190, f1191, f1192, f1193, f1194, f1195, f1196, f1197, f1198, hL⟩ := hJ
       refine DH.all (rs := [3, 12, 17]) (by kernel_rfl) (by simp) ?_
       intro i1199 hi1200
       simp only [List.mem_cons, List.not_mem_nil, or_false] at hi1200
       rcases hi1200 with rfl | rfl | rfl
       · refine ⟨_, rfl, ?_⟩
         refine OP.val (v := v445) rfl (x_load1 U22 rfl f1195 (hL.cellB 4 rfl rfl)) ?_
         refine ⟨(hL.sel [5, 6, 7] (by decide) rfl), ?_⟩
         exact DH.relist (listed' := (bma 21 118783)) (by kernel_rfl) (hN764 _ _ ⟨v845, S846, f1190, f1191, f1192, f1193, f1194, rfl, f1196, f1197, f1198, hL⟩)
       · refine ⟨_, rfl, ?_⟩
         refine S_lit1 x608 rfl hL U22 Try_T25 ((congrArg Value.cells f1196).trans (rdL_cells (hL.rdO 0 rfl))) rfl ?_
         intro wd1201 v1202 S1203 hL
         refine ⟨(hL.sel [5, 6, 7] (by decide) rfl), ?_⟩
         exact DH.relist (listed' := (bma 21 122871)) (by kernel_rfl) (hN767 _ _ ⟨v1202, S1203, f1190, f1191, f1192, f1193, f1194, f1195, rfl, f1197, f1198, hL⟩)
       refine ⟨_, rfl, ?_⟩
       have hL := hL.sel [1, 0, 2, 3, 4, 5, 6, 7] (by decide) rfl
       refine S_lit1 s_l2.1 rfl hL U22 Try_T25 ((congrArg Value.cells f1198).trans (rdL_cells (hL.rdO 0 rfl))) rfl ?_
       intro wd1204 v1205 S1206 hL
       refine ⟨(hL.sel [5, 6, 7] (by decide) rfl), ?_⟩
       exact DH.relist (listed' := (bma 21 249847)) (by kernel_rfl) (hN769 _ _ ⟨v1205, S1206, v845, S846, f1190, f1191, f1192, f1193, f1194, f1195, f1196, f1197, rfl, hL⟩)
     refine DH.node (listed' := (bma 21 217079)) (fuel' := 7) (fun (F : Fr) (w : World) => ∃ (v847 : Value) (S848 : Nat → Prop) (v849 : Value) (S850 : Nat → Prop), F 1 = (.pointer (some ⟨b4, 0, none⟩)) ∧ F 2 = (.pointer (some ⟨b6, 0, none⟩)) ∧ F 4 = (.pointer (some ⟨b21, 0, none⟩)) ∧ F 5 = (.int .i64 s_l1.2.2) ∧ F 50 = (.int .i64 a0.Boats) ∧ F 51 = (.pointer (some ⟨b21, 1, none⟩)) ∧ F 60 = v849 ∧ F 63 = (.pointer (some ⟨b21, 2, none⟩)) ∧ F 66 = v847 ∧ Hp w0 [Ent.own 25 S848 v847 ([s_l2.1] : List (List Int)), Ent.own 2 S850 v849 x608, Ent.frzS wz560 S446, Ent.frzS wz562 S448, Ent.blk b21 29 #[(.int .i64 a0.Boats), v445, v447], Ent.blk b6 29 #[(.int .i64 0), (.slice none 0 0), (.slice none 0 0)], Ent.blk b4 97 #[(.int .i64 a0.Boats), (.int .i64 a0.Scheme), v1], Ent.snap w0 w0.heap.size] w) ?_ (fun hN775 => ?_)
     · intro F1207 wd1208 hJ
       obtain ⟨v847, S848, v849, S850, f1209, f1210, f1211, f1212, f1213, f1214, f1215, f1216, f1217, hL⟩ := hJ
       refine DH.all (rs := [3, 12, 15]) (by kernel_rfl) (by simp) ?_
       intro i1218 hi1219
       simp only [List.mem_cons, List.not_mem_nil, or_false] at hi1219
       rcases hi1219 with rfl | rfl | rfl
       · refine ⟨_, rfl, ?_⟩
         refine OP.val (v := v445) rfl (x_load1 U22 rfl f1214 (hL.cellB 4 rfl rfl)) ?_
         refine ⟨(hL.sel [5, 6, 7] (by decide) rfl), ?_⟩
         exact DH.relist (listed' := (bma 21 217087)) (by kernel_rfl) (hN765 _ _ ⟨v847, S848, v849, S850, f1209, f1210, f1211, f1212, f1213, rfl, f1215, f1216, f1217, hL⟩)
       · refine ⟨_, rfl, ?_⟩
         have hL := hL.sel [1, 0, 2, 3, 4, 5, 6, 7] (by decide) rfl
         refine S_lit1 x608 rfl hL U22 Try_T25 ((congrArg Value.cells f1215).trans (rdL_cells (hL.rdO 0 rfl))) rfl ?_
         intro wd1220 v1221 S1222 hL
         refine ⟨(hL.sel [5, 6, 7] (by decide) rfl), ?_⟩
         have hL := hL.sel [1, 0, 2, 3, 4, 5, 6, 7] (by decide) rfl
         exact DH.relist (listed' := (bma 21 221175)) (by kernel_rfl) (hN768 _ _ ⟨v847, S848, v1221, S1222, f1209, f1210, f1211, f1212, f1213, f1214, rfl, f1216, f1217, hL⟩)
       refine ⟨_, rfl, ?_⟩
       refine OP.val (v := v447) rfl (x_load1 U22 rfl f1216 (hL.cellB 4 rfl rfl)) ?_
       refine ⟨(hL.sel [5, 6, 7] (by decide) rfl), ?_⟩
       exact DH.relist (listed' := (bma 21 249847)) (by kernel_rfl) (hN769 _ _ ⟨v847, S848, v849, S850, f1209, f1210, f1211, f1212, f1213, f1214, f1215, rfl, f1217, hL⟩)
     refine DH.node (listed' := (bma 21 247799)) (fuel' := 7) (fun (F : Fr) (w : World) => ∃ (v851 : Value) (S852 : Nat → Prop), F 1 = (.pointer (some ⟨b4, 0, none⟩)) ∧ F 2 = (.pointer (some ⟨b6, 0, none⟩)) ∧ F 4 = (.pointer (some ⟨b21, 0, none⟩)) ∧ F 5 = (.int .i64 s_l1.2.2) ∧ F 50 = (.int .i64 a0.Boats) ∧ F 51 = (.pointer (some ⟨b21, 1, none⟩)) ∧ F 57 = (.agg #[v602]) ∧ F 59 = (.int .i64 a0.Scheme) ∧ F 64 = v447 ∧ F 66 = v851 ∧ Hp w0 [Ent.own 25 S852 v851 ([s_l2.1] : List (List Int)), Ent.frzS wz560 S446, Ent.frzS wz562 S448, Ent.blk b21 29 #[(.int .i64 a0.Boats), v445, v447], Ent.blk b6 29 #[(.int .i64 0), (.slice none 0 0), (.slice none 0 0)], Ent.blk b4 97 #[(.int .i64 a0.Boats), (.int .i64 a0.Scheme), v1], Ent.snap w0 w0.heap.size] w) ?_ (fun hN776 => ?_)
     · intro F1223 wd1224 hJ
       obtain ⟨v851, S852, f1225, f1226, f1227, f1228, f1229, f1230, f1231, f1232, f1233, f1234, hL⟩ := hJ
       refine DH.all (rs := [3, 11]) (by kernel_rfl) (by simp) ?_
       intro i1235 hi1236
       simp only [List.mem_cons, List.not_mem_nil, or_false] at hi1236
       rcases hi1236 with rfl | rfl
       · refine ⟨_, rfl, ?_⟩
         refine OP.val (v := v445) rfl (x_load1 U22 rfl f1230 (hL.cellB 3 rfl rfl)) ?_
         refine ⟨(hL.sel [4, 5, 6] (by decide) rfl), ?_⟩
         exact DH.relist (listed' := (bma 21 247807)) (by kernel_rfl) (hN766 _ _ ⟨v851, S852, f1225, f1226, f1227, f1228, f1229, rfl, f1231, f1232, f1233, f1234, hL⟩)
       refine ⟨_, rfl, ?_⟩
       refine OP.call rfl (x_call (vs := [(.agg #[v602]), (.int .i64 a0.Scheme)]) Try_C123 ⟨f1231, f1232, trivial⟩) (M.spec_l26Points_ok _ x597 (hL.rdS 6 rfl hr606) a0.Scheme hx609) ?_
       rintro e1239 wd1240 ⟨v1238, S1237, rfl, hF1241⟩
       refine ⟨_, rfl, ?_⟩
       have hL := hL.pushAll hF1241
       simp only [lA, lB, lC, lD] at hL
       refine ⟨(hL.sel [5, 6, 7] (by decide) rfl), ?_⟩
       have hL := hL.sel [1, 0, 2, 3, 4, 5, 6, 7] (by decide) rfl
       exact DH.relist (listed' := (bma 21 249847)) (by kernel_rfl) (hN769 _ _ ⟨v851, S852, v1238, S1237, f1225, f1226, f1227, f1228, f1229, f1230, rfl, f1233, f1234, hL⟩)
     refine DH.node (listed' := (bma 21 83967)) (fuel' := 8) (fun (F : Fr) (w : World) => F 1 = (.pointer (some ⟨b4, 0, none⟩)) ∧ F 2 = (.pointer (some ⟨b6, 0, none⟩)) ∧ F 4 = (.pointer (some ⟨b21, 0, none⟩)) ∧ F 5 = (.int .i64 s_l1.2.2) ∧ F 50 = (.int .i64 a0.Boats) ∧ F 52 = v445 ∧ F 57 = (.agg #[v602]) ∧ F 59 = (.int .i64 a0.Scheme) ∧ F 63 = (.pointer (some ⟨b21, 2, none⟩)) ∧ F 65 = v546 ∧ Hp w0 [Ent.own 2 S547 v546 s_l2.1, Ent.frzS wz560 S446, Ent.frzS wz562 S448, Ent.blk b21 29 #[(.int .i64 a0.Boats), v445, v447], Ent.blk b6 29 #[(.int .i64 0), (.slice none 0 0), (.slice none 0 0)], Ent.blk b4 97 #[(.int .i64 a0.Boats), (.int .i64 a0.Scheme), v1], Ent.snap w0 w0.heap.size] w) ?_ (fun hN777 => ?_)
     · intro F1242 wd1243 hJ
       obtain ⟨f1244, f1245, f1246, f1247, f1248, f1249, f1250, f1251, f1252, f1253, hL⟩ := hJ
       refine DH.all (rs := [11, 15, 17]) (by kernel_rfl) (by simp) ?_
       intro i1254 hi1255
       simp only [List.mem_cons, List.not_mem_nil, or_false] at hi1255
       rcases hi1255 with rfl | rfl | rfl
       · refine ⟨_, rfl, ?_⟩
         refine OP.call rfl (x_call (vs := [(.agg #[v602]), (.int .i64 a0.Scheme)]) Try_C123 ⟨f1250, f1251, trivial⟩) (M.spec_l26Points_ok _ x597 (hL.rdS 6 rfl hr606) a0.Scheme hx609) ?_
         rintro e1258 wd1259 ⟨v1257, S1256, rfl, hF1260⟩
         refine ⟨_, rfl, ?_⟩
         have hL := hL.pushAll hF1260
         simp only [lA, lB, lC, lD] at hL
         refine ⟨(hL.sel [5, 6, 7] (by decide) rfl), ?_⟩
         exact DH.relist (listed' := (bma 21 86015)) (by kernel_rfl) (hN770 _ _ ⟨v1257, S1256, f1244, f1245, f1246, f1247, f1248, f1249, rfl, f1252, f1253, hL⟩)
       · refine ⟨_, rfl, ?_⟩
         refine OP.val (v := v447) rfl (x_load1 U22 rfl f1252 (hL.cellB 3 rfl rfl)) ?_
         refine ⟨(hL.sel [4, 5, 6] (by decide) rfl), ?_⟩
         exact DH.relist (listed' := (bma 21 116735)) (by kernel_rfl) (hN771 _ _ ⟨f1244, f1245, f1246, f1247, f1248, f1249, f1250, f1251, rfl, f1253, hL⟩)
       refine ⟨_, rfl, ?_⟩
       refine S_lit1 s_l2.1 rfl hL U22 Try_T25 ((congrArg Value.cells f1253).trans (rdL_cells (hL.rdO 0 rfl))) rfl ?_
       intro wd1261 v1262 S1263 hL
       refine ⟨(hL.sel [4, 5, 6] (by decide) rfl), ?_⟩
       exact DH.relist (listed' := (bma 21 215039)) (by kernel_rfl) (hN772 _ _ ⟨v1262, S1263, f1244, f1245, f1246, f1247, f1248, f1249, f1250, f1251, f1252, rfl, hL⟩)
     refine DH.node (listed' := (bma 21 86007)) (fuel' := 8) (fun (F : Fr) (w : World) => ∃ (v853 : Value) (S854 : Nat → Prop), F 1 = (.pointer (some ⟨b4, 0, none⟩)) ∧ F 2 = (.pointer (some ⟨b6, 0, none⟩)) ∧ F 4 = (.pointer (some ⟨b21, 0, none⟩)) ∧ F 5 = (.int .i64 s_l1.2.2) ∧ F 50 = (.int .i64 a0.Boats) ∧ F 51 = (.pointer (some ⟨b21, 1, none⟩)) ∧ F 60 = v853 ∧ F 63 = (.pointer (some ⟨b21, 2, none⟩)) ∧ F 65 = v546 ∧ Hp w0 [Ent.own 2 S854 v853 x608, Ent.own 2 S547 v546 s_l2.1, Ent.frzS wz560 S446, Ent.frzS wz562 S448, Ent.blk b21 29 #[(.int .i64 a0.Boats), v445, v447], Ent.blk b6 29 #[(.int .i64 0), (.slice none 0 0), (.slice none 0 0)], Ent.blk b4 97 #[(.int .i64 a0.Boats), (.int .i64 a0.Scheme), v1], Ent.snap w0 w0.heap.size] w) ?_ (fun hN778 => ?_)
     · intro F1264 wd1265 hJ
       obtain ⟨v853, S854, f1266, f1267, f1268, f1269, f1270, f1271, f1272, f1273, f1274, hL⟩ := hJ
       refine DH.all (rs := [3, 12, 15, 17]) (by kernel_rfl) (by simp) ?_
       intro i1275 hi1276
       simp only [List.mem_cons, List.not_mem_nil, or_false] at hi1276
       rcases hi1276 with rfl | rfl | rfl | rfl
       · refine ⟨_, rfl, ?_⟩
         refine OP.val (v := v445) rfl (x_load1 U22 rfl f1271 (hL.cellB 4 rfl rfl)) ?_
         refine ⟨(hL.sel [5, 6, 7] (by decide) rfl), ?_⟩
         exact DH.relist (listed' := (bma 21 86015)) (by kernel_rfl) (hN770 _ _ ⟨v853, S854, f1266, f1267, f1268, f1269, f1270, rfl, f1272, f1273, f1274, hL⟩)
       · refine ⟨_, rfl, ?_⟩
         refine S_lit1 x608 rfl hL U22 Try_T25 ((congrArg Value.cells f1272).trans (rdL_cells (hL.rdO 0 rfl))) rfl ?_
         intro wd1277 v1278 S1279 hL
         refine ⟨(hL.sel [5, 6, 7] (by decide) rfl), ?_⟩
         exact DH.relist (listed' := (bma 21 90103)) (by kernel_rfl) (hN773 _ _ ⟨v1278, S1279, f1266, f1267, f1268, f1269, f1270, f1271, rfl, f1273, f1274, hL⟩)
       · refine ⟨_, rfl, ?_⟩
         refine OP.val (v := v447) rfl (x_load1 U22 rfl f1273 (hL.cellB 4 rfl rfl)) ?_
         refine ⟨(hL.sel [5, 6, 7] (by decide) rfl), ?_⟩
         exact DH.relist (listed' := (bma 21 118775)) (by kernel_rfl) (hN774 _ _ ⟨v853, S854, f1266, f1267, f1268, f1269, f1270, f1271, f1272, rfl, f1274, hL⟩)
       refine ⟨_, rfl, ?_⟩
       have hL := hL.sel [1, 0, 2, 3, 4, 5, 6, 7] (by decide) rfl
       refine S_lit1 s_l2.1 rfl hL U22 Try_T25 ((congrArg Value.cells f1274).trans (rdL_cells (hL.rdO 0 rfl))) rfl ?_
       intro wd1280 v1281 S1282 hL
       refine ⟨(hL.sel [5, 6, 7] (by decide) rfl), ?_⟩
       exact DH.relist (listed' := (bma 21 217079)) (by kernel_rfl) (hN775 _ _ ⟨v1281, S1282, v853, S854, f1266, f1267, f1268, f1269, f1270, f1271, f1272, f1273, rfl, hL⟩)
     refine DH.node (listed' := (bma 21 116727)) (fuel' := 8) (fun (F : Fr) (w : World) => F 1 = (.pointer (some ⟨b4, 0, none⟩)) ∧ F 2 = (.pointer (some ⟨b6, 0, none⟩)) ∧ F 4 = (.pointer (some ⟨b21, 0, none⟩)) ∧ F 5 = (.int .i64 s_l1.2.2) ∧ F 50 = (.int .i64 a0.Boats) ∧ F 51 = (.pointer (some ⟨b21, 1, none⟩)) ∧ F 57 = (.agg #[v602]) ∧ F 59 = (.int .i64 a0.Scheme) ∧ F 64 = v447 ∧ F 65 = v546 ∧ Hp w0 [Ent.own 2 S547 v546 s_l2.1, Ent.frzS wz560 S446, Ent.frzS wz562 S448, Ent.blk b21 29 #[(.int .i64 a0.Boats), v445, v447], Ent.blk b6 29 #[(.int .i64 0), (.slice none 0 0), (.slice none 0 0)], Ent.blk b4 97 #[(.int .i64 a0.Boats), (.int .i64 a0.Scheme), v1], Ent.snap w0 w0.heap.size] w) ?_ (fun hN779 => ?_)
     · intro F1283 wd1284 hJ
       obtain ⟨f1285, f1286, f1287, f1288, f1289, f1290, f1291, f1292, f1293, f1294, hL⟩ := hJ
       refine DH.all (rs := [3, 11, 17]) (by kernel_rfl) (by simp) ?_
       intro i1295 hi1296
       simp only [List.mem_cons, List.not_mem_nil, or_false] at hi1296
       rcases hi1296 with rfl | rfl | rfl
       · refine ⟨_, rfl, ?_⟩
         refine OP.val (v := v445) rfl (x_load1 U22 rfl f1290 (hL.cellB 3 rfl rfl)) ?_
         refine ⟨(hL.sel [4, 5, 6] (by decide) rfl), ?_⟩
         exact DH.relist (listed' := (bma 21 116735)) (by kernel_rfl) (hN771 _ _ ⟨f1285, f1286, f1287, f1288, f1289, rfl, f1291, f1292, f1293, f1294, hL⟩)
       · refine ⟨_, rfl, ?_⟩
         refine OP.call rfl (x_call (vs := [(.agg #[v602]), (.int .i64 a0.Scheme)]) Try_C123 ⟨f1291, f1292, trivial⟩) (M.spec_l26Points_ok _ x597 (hL.rdS 6 rfl hr606) a0.Scheme hx609) ?_
         rintro e1299 wd1300 ⟨v1298, S1297, rfl, hF1301⟩
         refine ⟨_, rfl, ?_⟩
         have hL := hL.pushAll hF1301
         simp only [lA, lB, lC, lD] at hL
         refine ⟨(hL.sel [5, 6, 7] (by decide) rfl), ?_⟩
         exact DH.relist (listed' := (bma 21 118775)) (by kernel_rfl) (hN774 _ _ ⟨v1298, S1297, f1285, f1286, f1287, f1288, f1289, f1290, rfl, f1293, f1294, hL⟩)
       refine ⟨_, rfl, ?_⟩
       refine S_lit1 s_l2.1 rfl hL U22 Try_T25 ((congrArg Value.cells f1294).trans (rdL_cells (hL.rdO 0 rfl))) rfl ?_
       intro wd1302 v1303 S1304 hL
       refine ⟨(hL.sel [4, 5, 6] (by decide) rfl), ?_⟩
       exact DH.relist (listed' := (bma 21 247799)) (by kernel_rfl) (hN776 _ _ ⟨v1303, S1304, f1285, f1286, f1287, f1288, f1289, f1290, f1291, f1292, f1293, rfl, hL⟩)
     refine DH.node (listed' := (bma 21 215031)) (fuel' := 8) (fun (F : Fr) (w : World) => ∃ (v855 : Value) (S856 : Nat → Prop), F 1 = (.pointer (some ⟨b4, 0, none⟩)) ∧ F 2 = (.pointer (some ⟨b6, 0, none⟩)) ∧ F 4 = (.pointer (some ⟨b21, 0, none⟩)) ∧ F 5 = (.int .i64 s_l1.2.2) ∧ F 50 = (.int .i64 a0.Boats) ∧ F 51 = (.pointer (some ⟨b21, 1, none⟩)) ∧ F 57 = (.agg #[v602]) ∧ F 59 = (.int .i64 a0.Scheme) ∧ F 63 = (.pointer (some ⟨b21, 2, none⟩)) ∧ F 66 = v855 ∧ Hp w0 [Ent.own 25 S856 v855 ([s_l2.1] : List (List Int)), Ent.frzS wz560 S446, Ent.frzS wz562 S448, Ent.blk b21 29 #[(.int .i64 a0.Boats), v445, v447], Ent.blk b6 29 #[(.int .i64 0), (.slice none 0 0), (.slice none 0 0)], Ent.blk b4 97 #[(.int .i64 a0.Boats), (.int .i64 a0.Scheme), v1], Ent.snap w0 w0.heap.size] w) ?_ (fun hN780 => ?_)
     · intro F1305 wd1306 hJ
       obtain ⟨v855, S856, f1307, f1308, f1309, f1310, f1311, f1312, f1313, f1314, f1315, f1316, hL⟩ := hJ
       refine DH.all (rs := [3, 11, 15]) (by kernel_rfl) (by simp) ?_
       intro i1317 hi1318
       simp only [List.mem_cons, List.not_mem_nil, or_false] at hi1318
       rcases hi1318 with rfl | rfl | rfl
       · refine ⟨_, rfl, ?_⟩
         refine OP.val (v := v445) rfl (x_load1 U22 rfl f1312 (hL.cellB 3 rfl rfl)) ?_
         refine ⟨(hL.sel [4, 5, 6] (by decide) rfl), ?_⟩
         exact DH.relist (listed' := (bma 21 215039)) (by kernel_rfl) (hN772 _ _ ⟨v855, S856, f1307, f1308, f1309, f1310, f1311, rfl, f1313, f1314, f1315, f1316, hL⟩)
       · refine ⟨_, rfl, ?_⟩
         refine OP.call rfl (x_call (vs := [(.agg #[v602]), (.int .i64 a0.Scheme)]) Try_C123 ⟨f1313, f1314, trivial⟩) (M.spec_l26Points_ok _ x597 (hL.rdS 6 rfl hr606) a0.Scheme hx609) ?_
         rintro e1321 wd1322 ⟨v1320, S1319, rfl, hF1323⟩
         refine ⟨_, rfl, ?_⟩
         have hL := hL.pushAll hF1323
         simp only [lA, lB, lC, lD] at hL
         refine ⟨(hL.sel [5, 6, 7] (by decide) rfl), ?_⟩
         have hL := hL.sel [1, 0, 2, 3, 4, 5, 6, 7] (by decide) rfl
         exact DH.relist (listed' := (bma 21 217079)) (by kernel_rfl) (hN775 _ _ ⟨v855, S856, v1320, S1319, f1307, f1308, f1309, f1310, f1311, f1312, rfl, f1315, f1316, hL⟩)
       refine ⟨_, rfl, ?_⟩
       refine OP.val (v := v447) rfl (x_load1 U22 rfl f1315 (hL.cellB 3 rfl rfl)) ?_
       refine ⟨(hL.sel [4, 5, 6] (by decide) rfl), ?_⟩
       exact DH.relist (listed' := (bma 21 247799)) (by kernel_rfl) (hN776 _ _ ⟨v855, S856, f1307, f1308, f1309, f1310, f1311, f1312, f1313, f1314, rfl, f1316, hL⟩)
     refine DH.all (rs := [3, 11, 15, 17]) (by kernel_rfl) (by simp) ?_
     intro i1324 hi1325
     simp only [List.mem_cons, List.not_mem_nil, or_false] at hi1325
     rcases hi1325 with rfl | rfl | rfl | rfl
     · refine ⟨_, rfl, ?_⟩
       refine OP.val (v := v445) rfl (x_load1 U22 rfl rfl (hL.cellB 3 rfl rfl)) ?_
       refine ⟨(hL.sel [4, 5, 6] (by decide) rfl), ?_⟩
       exact DH.relist (listed' := (bma 21 83967)) (by kernel_rfl) (hN777 _ _ ⟨f554, f555, f556, f557, rfl, rfl, rfl, rfl, rfl, rfl, hL⟩)
     · refine ⟨_, rfl, ?_⟩
       refine OP.call rfl (x_call (vs := [(.agg #[v602]), (.int .i64 a0.Scheme)]) Try_C123 ⟨rfl, rfl, trivial⟩) (M.spec_l26Points_ok _ x597 (hL.rdS 6 rfl hr606) a0.Scheme hx609) ?_
       rintro e1328 wd1329 ⟨v1327, S1326, rfl, hF1330⟩
       refine ⟨_, rfl, ?_⟩
       have hL := hL.pushAll hF1330
       simp only [lA, lB, lC, lD] at hL
       refine ⟨(hL.sel [5, 6, 7] (by decide) rfl), ?_⟩
       exact DH.relist (listed' := (bma 21 86007)) (by kernel_rfl) (hN778 _ _ ⟨v1327, S1326, f554, f555, f556, f557, rfl, rfl, rfl, rfl, rfl, hL⟩)
     · refine ⟨_, rfl, ?_⟩
       refine OP.val (v := v447) rfl (x_load1 U22 rfl rfl (hL.cellB 3 rfl rfl)) ?_
       refine ⟨(hL.sel [4, 5, 6] (by decide) rfl), ?_⟩
       exact DH.relist (listed' := (bma 21 116727)) (by kernel_rfl) (hN779 _ _ ⟨f554, f555, f556, f557, rfl, rfl, rfl, rfl, rfl, rfl, hL⟩)
     refine ⟨_, rfl, ?_⟩
     refine S_lit1 s_l2.1 rfl hL U22 Try_T25 ((congrArg Value.cells (show _ = v546 from rfl)).trans (rdL_cells (hL.rdO 0 rfl))) rfl ?_
     intro wd1331 v1332 S1333 hL
     refine ⟨(hL.sel [4, 5, 6] (by decide) rfl), ?_⟩
     exact DH.relist (listed' := (bma 21 215031)) (by kernel_rfl) (hN780 _ _ ⟨v1332, S1333, f554, f555, f556, f557, rfl, rfl, rfl, rfl, rfl, rfl, hL⟩)
   intro s_l2 F1334 wd1335 t548 hJ hm hr549
   unfold M.spec_TableOf_l2 at hm
   obtain ⟨v546, S547, f1336, f1337, f1338, f1339, f1340, f1341, hL⟩ := hJ
   refine CW.seq <| CSR <| OV (.int .i64 s_l2.2) rfl (x_mv f1341) <| OV (.pointer (some ⟨b4, 2, none⟩)) rfl (x_fieldAddr (fsz := 1) 0 2 2 U97 rfl Try_T95 rfl f1336 rfl) <| OV v1 rfl (x_load1 U95 rfl rfl (hL.cellB 5 rfl rfl)) <| OV (.int .i64 s_l1.2.2) rfl (x_mv f1339) ?_
   obtain ⟨x1342, ha1343, hm⟩ := bndE hm
   obtain ⟨hz1344, ha1352⟩ := idxE ha1343
   obtain ⟨b1345, q1346, v1347, hix1348, hs1349, hc1350, hr1351⟩ := rdN_at h2 hz1344 ha1352
   refine OV (.pointer (some ⟨b1345, q1346, none⟩)) rfl (x_ix U95 Try_T101 rfl rfl hix1348) <| OV (.pointer (some ⟨b1345, q1346, none⟩)) rfl (x_fieldAddr (fsz := 1) q1346 0 q1346 U101 rfl Try_T99 rfl rfl rfl) <| OV v1347 rfl (x_load1 U99 rfl rfl (hL.cellS 6 rfl hs1349 hc1350)) <| OV (.int .i64 (x1342.Finishes.length : Int)) rfl (x_lenR U99 rfl (hL.rdS 6 rfl hr1351)) <| OV (.bool (decide (s_l2.2 < (x1342.Finishes.length : Int)))) rfl (x_lss rfl rfl) <| OW.nil ?_
   refine CW.condM (t := decide (s_l2.2 < (x1342.Finishes.length : Int))) rfl hm (fun hb1353 hm => ?_) (fun hb1353 hm => ?_)
   · refine CW.skip <| CW.seq <| CW.block <| CW.regionL <| OV v546 rfl (x_mv f1340) <| OV (.pointer (some ⟨b4, 2, none⟩)) rfl (x_fieldAddr (fsz := 1) 0 2 2 U97 rfl Try_T95 rfl f1336 rfl) <| OV v1 rfl (x_load1 U95 rfl rfl (hL.cellB 5 rfl rfl)) <| OV (.int .i64 s_l1.2.2) rfl (x_mv f1339) ?_
     obtain ⟨x1354, ha1355, hm⟩ := bndE hm
     obtain ⟨hz1356, ha1364⟩ := idxE ha1355
     obtain ⟨b1357, q1358, v1359, hix1360, hs1361, hc1362, hr1363⟩ := rdN_at h2 hz1356 ha1364
     refine OV (.pointer (some ⟨b1357, q1358, none⟩)) rfl (x_ix U95 Try_T101 rfl rfl hix1360) <| OV (.pointer (some ⟨b1357, q1358, none⟩)) rfl (x_fieldAddr (fsz := 1) q1358 0 q1358 U101 rfl Try_T99 rfl rfl rfl) <| OV v1359 rfl (x_load1 U99 rfl rfl (hL.cellS 6 rfl hs1361 hc1362)) <| OV (.int .i64 s_l2.2) rfl (x_mv f1341) ?_
     obtain ⟨x1365, ha1366, hm⟩ := bndE hm
     obtain ⟨hz1367, ha1371⟩ := idxE ha1366
     obtain ⟨b1368, q1369, hix1370⟩ := rdL_ix (hL.rdS 6 rfl hr1363) hz1367 ha1371
     refine OV (.pointer (some ⟨b1368, q1369, none⟩)) rfl (x_ix U99 Try_T103 rfl rfl hix1370) <| OV (.pointer (some ⟨b1368, q1369 + 1, none⟩)) rfl (x_fieldAddr (fsz := 1) q1369 1 (q1369 + 1) U103 rfl Try_T2 rfl rfl rfl) <| OV (.int .i64 x1365.Code) rfl (x_load1 U2 rfl rfl (rdF_cells (hL.rdS 6 rfl hr1363) hix1370 ha1371 1 _ rfl)) ?_
     refine OW.cons (S_lit ([x1365.Code] : List Int) hL U25 Try_T2 rfl (by decide) (by first | (simp [Instr.fill, madeCells, Value.cells, ev, upd, Flat.enc, Flat.sz]; done) | rfl | kernel_rfl) rfl rfl ?_)
     intro wd1372 v1373 S1374 hL
     obtain ⟨hc1378, hm⟩ := chkE hm
     refine OW.cons (S_append (ys := ([x1365.Code] : List Int)) hL 1 rfl U25 Try_T2 rfl rfl rfl (hL.rdO 0 rfl) hc1378 (by decide) rfl ?_)
     intro wd1375 v1376 S1377 hL
     refine OV v1376 rfl (x_assign) <| OW.nil <| CW.regionL <| OV (.int .i64 s_l2.2) rfl (x_mv f1341) <| OV (.int .i64 (w64 (s_l2.2 + 1))) rfl (x_add rfl rfl) <| OV (.int .i64 (w64 (s_l2.2 + 1))) rfl (x_assign) <| OW.nil ?_
     have hL := hL.sel [1, 2, 3, 4, 5, 6, 7] (by decide) rfl
     obtain rfl := Option.some.inj hm
     exact ⟨_, rfl, ⟨v1376, S1377, f1336, f1337, f1338, f1339, rfl, rfl, hL⟩⟩
   refine CW.exit ?_
   refine XJ.hit ?_
   obtain rfl := Option.some.inj hm
   exact ⟨_, rfl, ⟨v546, S547, f1336, f1337, f1338, f1339, f1340, f1341, hL⟩⟩
 refine CW.exit ?_
 refine XJ.hit ?_
 obtain rfl := Option.some.inj hm
 exact ⟨_, rfl, ⟨v445, S446, v447, S448, f462, f463, f464, f465, hL⟩⟩

theorem M.spec_l26DrawTable_ok (w0 : World) {b1 : Nat} {v2 : Value} (a0 : Src) (h3 : rdL (fun k => k < w0.heap.size ∧ ¬ (Ent.blk b1 90 #[v2, .int .i64 a0.at_, .int .i64 a0.seed]).S k) w0 v2 a0.code) (he4 : (Ent.blk b1 90 #[v2, .int .i64 a0.at_, .int .i64 a0.seed]).H w0) {r : (Table) × (Int × Int)} (hm : M.spec_l26DrawTable a0 = some r) :
    Calls Try.prog 104 #[(.pointer (some ⟨b1, 0, none⟩))] w0 fun e w' => ∃ (rv0 : Value) (rS0 : Nat → Prop), ∃ (rv1 : Value) (rS1 : Nat → Prop), e = .returned (.agg #[(.int .i64 r.1.Boats), rv0, rv1]) ∧ Mut w0 w' (Ent.blk b1 90 #[v2, .int .i64 a0.at_, .int .i64 a0.seed]).S [Ent.blk b1 90 #[v2, .int .i64 r.2.1, .int .i64 r.2.2], Ent.cnd (M.spec_IsTable r.1 = some true) 25 rS0 rv0 r.1.Points, Ent.rdx rS1 rv1 r.1.Codes] := by
 unfold M.spec_l26DrawTable at hm
 refine calls_CW (args := [(.pointer (some ⟨b1, 0, none⟩))]) Try.func104 rfl rfl rfl ?_
 have hL := Hp.startIO he4
 refine CSR ?_
 refine OW.cons (S_alloc (cs := #[(.int .i64 0), (.slice none 0 0), (.slice none 0 0)]) hL Try_T29 rfl rfl ?_)
 intro wd5 b6 hL
 refine ONR <| OV (.pointer (some ⟨b1, 0, none⟩)) rfl (x_move) ?_
 obtain ⟨x7, hx8, hm⟩ := bndE hm
 refine OW.cons (OP.call rfl (x_call (vs := [(.pointer (some ⟨b1, 0, none⟩))]) Try_C113 ⟨rfl, trivial⟩) (M.spec_l26DrawSeries_ok _ (Src.mk a0.code a0.at_ a0.seed) (hL.exZ 2 1 (by decide) rfl rfl h3) (hL.get 1 rfl) hx8) ?_)
 rintro e11 wd12 ⟨v10, S9, rfl, hF13⟩
 refine ⟨_, rfl, ?_⟩
 have hL := hL.mut 1 rfl hF13
 simp only [lA, lB, lC, lD] at hL
 refine OW.cons (S_alloc (cs := #[(.int .i64 0), (.int .i64 0), (.slice none 0 0)]) hL Try_T97 rfl rfl ?_)
 intro wd14 b15 hL
 refine OW.cons (S_storeN (l := [(.int .i64 x7.1.Boats), (.int .i64 x7.1.Scheme), v10]) (cs' := #[(.int .i64 x7.1.Boats), (.int .i64 x7.1.Scheme), v10]) hL 0 rfl Try_T97 rfl rfl (List.forall_mem_cons.2 ⟨rfl, (List.forall_mem_cons.2 ⟨rfl, (List.forall_mem_cons.2 ⟨rdL_one (hL.rdO 1 rfl), (fun _ h => by cases h)⟩)⟩)⟩) rfl (Nat.le_of_ble_eq_true rfl) rfl ?_)
 intro wd16 hL
 refine ONS <| CSR <| OV (.int .i64 0) rfl (x_assign) <| OW.nil ?_
 obtain ⟨o2115, ho2116, hm⟩ := bndE hm
 refine CW.loopB (fun (s_l1 : Int × Int × (List Race) × Int) (F : Fr) (w : World) => ∃ (S2112 : Nat → Prop), F 0 = (.pointer (some ⟨b1, 0, none⟩)) ∧ F 2 = (.pointer (some ⟨b6, 0, none⟩)) ∧ F 3 = (.pointer (some ⟨b15, 0, none⟩)) ∧ F 4 = (.int .i64 s_l1.2.2.2) ∧ Hp w0 [Ent.blk b15 97 #[(.int .i64 x7.1.Boats), (.int .i64 x7.1.Scheme), v10], Ent.own 101 S2112 v10 s_l1.2.2.1, Ent.blk b6 29 #[(.int .i64 0), (.slice none 0 0), (.slice none 0 0)], Ent.blk b1 90 #[v2, (.int .i64 s_l1.1), (.int .i64 s_l1.2.1)], Ent.frz w0 (Ent.blk b1 90 #[v2, .int .i64 a0.at_, .int .i64 a0.seed]).S] w) (fun o => outc o (fun x => some x) (fun s => M.spec_l26DrawTable_a1 a0 x7 s) = some r) ho2116 hm ⟨S9, rfl, rfl, rfl, rfl, hL⟩ ?_ ?_
 · intro s_l1 F2117 wd2118 hJ hm
   have hm := outcE hm
   have hm : M.spec_l26DrawTable_a1 a0 x7 s_l1 = some r := hm
   unfold M.spec_l26DrawTable_a1 at hm
   obtain ⟨S2112, f2119, f2120, f2121, f2122, hL⟩ := hJ
   refine CSR <| OV (.agg #[(.int .i64 x7.1.Boats), (.int .i64 x7.1.Scheme), v10]) rfl (x_loadN (cs := [(.int .i64 x7.1.Boats), (.int .i64 x7.1.Scheme), v10]) U97 Try_T97 rfl f2121 (hL.cellsB 0 rfl (o := 0) (l := [(.int .i64 x7.1.Boats), (.int .i64 x7.1.Scheme), v10]) (by intro j u hj; exact (by simpa using hj)))) ?_
   obtain ⟨x2123, hx2124, hm⟩ := bndE hm
   refine OW.cons (OP.call rfl (x_call (vs := [(.agg #[(.int .i64 x7.1.Boats), (.int .i64 x7.1.Scheme), v10])]) Try_C114 ⟨rfl, trivial⟩) (M.spec_TableOf_ok _ (Series.mk x7.1.Boats x7.1.Scheme s_l1.2.2.1) (hL.rdO 1 rfl) hx2124) ?_)
   rintro e2129 wd2130 ⟨v2126, S2125, v2128, S2127, rfl, hF2131⟩
   refine ⟨_, rfl, ?_⟩
   have hL := hL.pushAll hF2131
   simp only [lA, lB, lC, lD] at hL
   refine OV (.tuple #[(.agg #[(.int .i64 x2123.1.Boats), v2126, v2128]), (.int .i64 x2123.2)]) rfl (x_move) <| OV (.agg #[(.int .i64 x2123.1.Boats), v2126, v2128]) rfl (x_extract rfl rfl) <| OV (.int .i64 x2123.2) rfl (x_extract rfl rfl) ?_
   refine OW.cons (S_alloc (cs := #[(.int .i64 0), (.slice none 0 0), (.slice none 0 0)]) hL Try_T29 rfl rfl ?_)
   intro wd2132 b2133 hL
   refine OW.cons (S_storeN (l := [(.int .i64 x2123.1.Boats), v2126, v2128]) (cs' := #[(.int .i64 x2123.1.Boats), v2126, v2128]) hL 0 rfl Try_T29 rfl rfl (List.forall_mem_cons.2 ⟨rfl, (List.forall_mem_cons.2 ⟨rdL_one (hL.rdO 1 rfl), (List.forall_mem_cons.2 ⟨rdL_one (hL.rdO 2 rfl), (fun _ h => by cases h)⟩)⟩)⟩) rfl (Nat.le_of_ble_eq_true rfl) rfl ?_)
   intro wd2134 hL
   refine OV (.int .i64 x2123.2) rfl (x_assign) <| ONS ?_
   refine CW.seqJ (fun (s_j1 : Bool) (F : Fr) (w : World) => F 0 = (.pointer (some ⟨b1, 0, none⟩)) ∧ F 2 = (.pointer (some ⟨b6, 0, none⟩)) ∧ F 7 = (.pointer (some ⟨b2133, 0, none⟩)) ∧ F 72 = (.bool s_j1) ∧ Hp w0 [Ent.blk b2133 29 #[(.int .i64 x2123.1.Boats), v2126, v2128], Ent.own 25 S2125 v2126 x2123.1.Points, Ent.own 25 S2127 v2128 x2123.1.Codes, Ent.blk b15 97 #[(.int .i64 x7.1.Boats), (.int .i64 x7.1.Scheme), v10], Ent.own 101 S2112 v10 s_l1.2.2.1, Ent.blk b6 29 #[(.int .i64 0), (.slice none 0 0), (.slice none 0 0)], Ent.blk b1 90 #[v2, (.int .i64 s_l1.1), (.int .i64 s_l1.2.1)], Ent.frz w0 (Ent.blk b1 90 #[v2, .int .i64 a0.at_, .int .i64 a0.seed]).S] w) (fun s_j1 => M.spec_l26DrawTable_j1 a0 s_l1 x2123 s_j1 = some r) ?_ ?_
   · refine CW.regionL <| OV (.pointer (some ⟨b2133, 1, none⟩)) rfl (x_fieldAddr (fsz := 1) 0 1 1 U29 rfl Try_T22 rfl rfl rfl) <| OV v2126 rfl (x_load1 U22 rfl rfl (hL.cellB 0 rfl rfl)) <| OV (.int .i64 (x2123.1.Points.length : Int)) rfl (x_lenR U22 rfl (hL.rdO 1 rfl)) <| OV (.bool ((x2123.1.Points.length : Int) == 0)) rfl (x_eql rfl rfl) <| OV (.bool ((x2123.1.Points.length : Int) == 0)) rfl (x_move) ?_
     refine ifB_elim hm (fun hb3505 hm => ?_) (fun hb3505 hm => ?_)
     · refine OW.cons (OP.no' rfl rfl hb3505 rfl ?_)
       refine OW.cons (OP.no' rfl rfl hb3505 rfl ?_)
       refine OW.cons (OP.no' rfl rfl hb3505 rfl ?_)
       refine OV (.bool true) rfl (x_pickT' rfl hb3505 rfl) <| OW.nil ?_
       exact ⟨true, hm, ⟨f2119, f2120, rfl, rfl, hL⟩⟩
     refine OW.cons (OP.yes' rfl rfl hb3505 (OP.val (v := (.pointer (some ⟨b2133, 0, none⟩))) rfl (x_fieldAddr (fsz := 1) 0 0 0 U29 rfl Try_T2 rfl rfl rfl) ?_))
     refine OW.cons (OP.yes' rfl rfl hb3505 (OP.val (v := (.int .i64 x2123.1.Boats)) rfl (x_load1 U2 rfl rfl (hL.cellB 0 rfl rfl)) ?_))
     refine OW.cons (OP.yes' rfl rfl hb3505 (OP.val (v := (.bool (x2123.1.Boats == 0))) rfl (x_eql rfl rfl) ?_))
     refine OV (.bool (x2123.1.Boats == 0)) rfl (x_pickF' rfl hb3505 rfl) <| OW.nil ?_
     exact ⟨x2123.1.Boats == 0, hm, ⟨f2119, f2120, rfl, rfl, hL⟩⟩
   intro s_j1 F2136 wd2137 hJ hm
   unfold M.spec_l26DrawTable_j1 at hm
   obtain ⟨f2138, f2139, f2140, f2141, hL⟩ := hJ
   refine CW.condM (t := s_j1) f2141 hm (fun hb2142 hm => ?_) (fun hb2142 hm => ?_)
   · refine CSR <| OV (.agg #[(.int .i64 x2123.1.Boats), v2126, v2128]) rfl (x_loadN (cs := [(.int .i64 x2123.1.Boats), v2126, v2128]) U29 Try_T29 rfl f2140 (hL.cellsB 0 rfl (o := 0) (l := [(.int .i64 x2123.1.Boats), v2126, v2128]) (by intro j u hj; exact (by simpa using hj)))) ?_
     refine OW.cons (S_storeN (l := [(.int .i64 x2123.1.Boats), v2126, v2128]) (cs' := #[(.int .i64 x2123.1.Boats), v2126, v2128]) hL 5 rfl Try_T29 f2139 rfl (List.forall_mem_cons.2 ⟨rfl, (List.forall_mem_cons.2 ⟨rdL_one (hL.rdO 1 rfl), (List.forall_mem_cons.2 ⟨rdL_one (hL.rdO 2 rfl), (fun _ h => by cases h)⟩)⟩)⟩) rfl (Nat.le_of_ble_eq_true rfl) rfl ?_)
     intro wd2143 hL
     refine OW.nil <| CW.ret ?_
     have hL := hL.cndIn 1 rfl (M.spec_IsTable x2123.1 = some true)
     simp only [lC, lD] at hL
     have hL := hL.rdxIn 2 rfl
     simp only [lC, lD] at hL
     obtain rfl := Option.some.inj hm
     exact RRc rfl f2139 (run_loadBlk U29 Try_T29 (hL.get 5 rfl) rfl) ⟨v2126, S2125, v2128, S2127, rfl, hL.mutOut 7 rfl [6, 1, 2] (by decide) (by decide) rfl⟩
   refine CW.skip <| CSR <| OV (.pointer (some ⟨b1, 0, none⟩)) rfl (x_mv f2138) <| OV (.pointer (some ⟨b2133, 1, none⟩)) rfl (x_fieldAddr (fsz := 1) 0 1 1 U29 rfl Try_T22 rfl f2140 rfl) <| OV v2126 rfl (x_load1 U22 rfl rfl (hL.cellB 0 rfl rfl)) <| OV (.int .i64 (x2123.1.Points.length : Int)) rfl (x_lenR U22 rfl (hL.rdO 1 rfl)) ?_
   obtain ⟨x2144, hx2145, hm⟩ := bndE hm
   refine OW.cons (OP.call rfl (x_call (vs := [(.pointer (some ⟨b1, 0, none⟩)), (.int .i64 (x2123.1.Points.length : Int))]) Try_C86 ⟨rfl, rfl, trivial⟩) (M.spec_l01Next_ok _ (Src.mk a0.code s_l1.1 s_l1.2.1) (hL.exZ 7 6 (by decide) rfl rfl h3) (hL.get 6 rfl) (x2123.1.Points.length : Int) hx2145) ?_)
   rintro e2146 wd2147 ⟨rfl, hF2148⟩
   refine ⟨_, rfl, ?_⟩
   have hL := hL.mut 6 rfl hF2148
   simp only [lA, lB, lC, lD] at hL
   refine OV (.int .i64 x2144.1) rfl (x_assign) <| ONR <| OV (.pointer (some ⟨b1, 0, none⟩)) rfl (x_mv f2138) <| OV (.pointer (some ⟨b2133, 0, none⟩)) rfl (x_fieldAddr (fsz := 1) 0 0 0 U29 rfl Try_T2 rfl f2140 rfl) <| OV (.int .i64 x2123.1.Boats) rfl (x_load1 U2 rfl rfl (hL.cellB 0 rfl rfl)) ?_
   obtain ⟨x2149, hx2150, hm⟩ := bndE hm
   refine OW.cons (OP.call rfl (x_call (vs := [(.pointer (some ⟨b1, 0, none⟩)), (.int .i64 x2123.1.Boats)]) Try_C86 ⟨rfl, rfl, trivial⟩) (M.spec_l01Next_ok _ (Src.mk a0.code x2144.2.1 x2144.2.2) (hL.exZ 7 6 (by decide) rfl rfl h3) (hL.get 6 rfl) x2123.1.Boats hx2150) ?_)
   rintro e2151 wd2152 ⟨rfl, hF2153⟩
   refine ⟨_, rfl, ?_⟩
   have hL := hL.mut 6 rfl hF2153
   simp only [lA, lB, lC, lD] at hL
   refine OV (.int .i64 x2149.1) rfl (x_assign) <| OW.nil ?_
   refine CW.seqJ (fun (s_j2 : Int × Int × (List (List Int)) × (List (List Int))) (F : Fr) (w : World) => ∃ (v2711 : Value) (S2712 : Nat → Prop) (v2713 : Value) (S2714 : Nat → Prop), F 2 = (.pointer (some ⟨b6, 0, none⟩)) ∧ F 7 = (.pointer (some ⟨b2133, 0, none⟩)) ∧ Hp w0 [Ent.cnd (M.spec_IsTable (Table.mk x2123.1.Boats s_j2.2.2.1 s_j2.2.2.2) = some true) 25 S2712 v2711 s_j2.2.2.1, Ent.rdx S2714 v2713 s_j2.2.2.2, Ent.blk b2133 29 #[(.int .i64 x2123.1.Boats), v2711, v2713], Ent.blk b15 97 #[(.int .i64 x7.1.Boats), (.int .i64 x7.1.Scheme), v10], Ent.own 101 S2112 v10 s_l1.2.2.1, Ent.blk b6 29 #[(.int .i64 0), (.slice none 0 0), (.slice none 0 0)], Ent.blk b1 90 #[v2, (.int .i64 s_j2.1), (.int .i64 s_j2.2.1)], Ent.frz w0 (Ent.blk b1 90 #[v2, .int .i64 a0.at_, .int .i64 a0.seed]).S] w) (fun s_j2 => M.spec_l26DrawTable_j2 x2123 s_j2 = some r) ?_ ?_
   · refine CSR <| OV (.pointer (some ⟨b1, 0, none⟩)) rfl (x_mv f2138) ?_
     obtain ⟨x2720, hx2721, hm⟩ := bndE hm
     refine OW.cons (OP.call rfl (x_call (vs := [(.pointer (some ⟨b1, 0, none⟩)), (.int .i64 20)]) Try_C86 ⟨rfl, rfl, trivial⟩) (M.spec_l01Next_ok _ (Src.mk a0.code x2149.2.1 x2149.2.2) (hL.exZ 7 6 (by decide) rfl rfl h3) (hL.get 6 rfl) 20 hx2721) ?_)
     rintro e2722 wd2723 ⟨rfl, hF2724⟩
     refine ⟨_, rfl, ?_⟩
     have hL := hL.mut 6 rfl hF2724
     simp only [lA, lB, lC, lD] at hL
     refine OW.nil ?_
     refine CW.blockJ (fun (s_j3 : Int × Int × (List (List Int)) × (List (List Int))) (F : Fr) (w : World) => ∃ (v2997 : Value) (S2998 : Nat → Prop) (v2999 : Value) (S3000 : Nat → Prop), F 2 = (.pointer (some ⟨b6, 0, none⟩)) ∧ F 7 = (.pointer (some ⟨b2133, 0, none⟩)) ∧ Hp w0 [Ent.cnd (M.spec_IsTable (Table.mk x2123.1.Boats s_j3.2.2.1 s_j3.2.2.2) = some true) 25 S2998 v2997 s_j3.2.2.1, Ent.rdx S3000 v2999 s_j3.2.2.2, Ent.blk b2133 29 #[(.int .i64 x2123.1.Boats), v2997, v2999], Ent.blk b15 97 #[(.int .i64 x7.1.Boats), (.int .i64 x7.1.Scheme), v10], Ent.own 101 S2112 v10 s_l1.2.2.1, Ent.blk b6 29 #[(.int .i64 0), (.slice none 0 0), (.slice none 0 0)], Ent.blk b1 90 #[v2, (.int .i64 s_j3.1), (.int .i64 s_j3.2.1)], Ent.frz w0 (Ent.blk b1 90 #[v2, .int .i64 a0.at_, .int .i64 a0.seed]).S] w) (fun s_j3 => M.spec_l26DrawTable_j3 x2123 s_j3 = some r) ?_ ?_
     · refine CSR <| OV (.bool (x2720.1 == 0)) rfl (x_eql rfl rfl) <| OV (.bool (x2720.1 == 0)) rfl (x_assign) <| OW.nil ?_
       refine CW.condM (t := x2720.1 == 0) rfl hm (fun hb3005 hm => ?_) (fun hb3005 hm => ?_)
       · obtain ⟨wz3006, hL, ho3007⟩ := hL.freeze 1 rfl
         simp only [lC, lD] at hL
         obtain ⟨wz3008, hL, ho3009⟩ := hL.freeze 2 rfl
         simp only [lC, lD] at hL
         obtain ⟨wz3010, hL, ho3011⟩ := hL.freeze 4 rfl
         simp only [lC, lD] at hL
         refine CW.drawH (fun w' => Hp w0 [Ent.blk b2133 29 #[(.int .i64 x2123.1.Boats), v2126, v2128], Ent.frzS wz3008 S2127, Ent.blk b15 97 #[(.int .i64 x7.1.Boats), (.int .i64 x7.1.Scheme), v10], Ent.frzS wz3010 S2112, Ent.blk b6 29 #[(.int .i64 0), (.slice none 0 0), (.slice none 0 0)], Ent.frz w0 (Ent.blk b1 90 #[v2, .int .i64 a0.at_, .int .i64 a0.seed]).S] w') Try_mixed ?_
         have hL := hL.call (Mod.drew _)
         have hS := (hL.sel [0, 2, 3, 4, 5, 7] (by decide) rfl)
         refine DH.take 0 rfl (by kernel_rfl) (by kernel_rfl) (by kernel_rfl) rfl rfl hS (YH.val (v := (.pointer (some ⟨b2133, 1, none⟩))) (fun w' hS' => x_fieldAddr (fsz := 1) 0 1 1 U29 rfl Try_T22 rfl f2140 rfl)) ?_
         have hS := (hL.sel [0, 2, 3, 4, 5, 7] (by decide) rfl)
         refine DH.take 1 rfl (by kernel_rfl) (by kernel_rfl) (by kernel_rfl) rfl rfl hS (YH.val (v := v2126) (fun w' hS' => x_load1 U22 rfl rfl (hS'.cellB 0 rfl rfl))) ?_
         have hS := (hL.sel [0, 2, 3, 4, 5, 7] (by decide) rfl)
         refine DH.take 2 rfl (by kernel_rfl) (by kernel_rfl) (by kernel_rfl) rfl rfl hS (YH.val (v := (.int .i64 x2144.1)) (fun w' hS' => x_move)) ?_
         have hS := (hL.sel [0, 2, 3, 4, 5, 7] (by decide) rfl)
         obtain ⟨x3045, ha3046, hm⟩ := bndE hm
         obtain ⟨hz3047, ha3055⟩ := idxE ha3046
         obtain ⟨b3048, q3049, v3050, hix3051, hs3052, hc3053, hr3054⟩ := rdN_at ho3007.1.rdL hz3047 ha3055
         refine DH.take 3 rfl (by kernel_rfl) (by kernel_rfl) (by kernel_rfl) rfl rfl hS (YH.val (v := (.pointer (some ⟨b3048, q3049, none⟩))) (fun w' hS' => x_ix U22 Try_T25 rfl rfl hix3051)) ?_
         have hS := (hL.sel [0, 2, 3, 4, 5, 7] (by decide) rfl)
         refine DH.take 5 rfl (by kernel_rfl) (by kernel_rfl) (by kernel_rfl) rfl rfl hS (YH.val (v := (.int .i64 x2149.1)) (fun w' hS' => x_move)) ?_
         have hS := (hL.sel [0, 2, 3, 4, 5, 7] (by decide) rfl)
         refine DH.take 6 rfl (by kernel_rfl) (by kernel_rfl) (by kernel_rfl) rfl rfl hS (YH.val (v := (.pointer (some ⟨b1, 0, none⟩))) (fun w' hS' => x_mv f2138)) ?_
         obtain ⟨x3056, hx3057, hm⟩ := bndE hm
         obtain ⟨x3061, ha3062, hm⟩ := bndE hm
         refine DH.node (listed' := (bma 11 2047)) (fuel' := 0) (fun (F : Fr) (w : World) => ∃ (S3103 : Nat → Prop), F 2 = (.pointer (some ⟨b6, 0, none⟩)) ∧ F 7 = (.pointer (some ⟨b2133, 0, none⟩)) ∧ Hp w0 [Ent.blk b2133 29 #[(.int .i64 x2123.1.Boats), v2126, v2128], Ent.own 25 S3103 v2126 (x2123.1.Points.set (x2144.1 : Int).toNat (x3045.set (x2149.1 : Int).toNat (w64 (10000 + x3056.1)))), Ent.frzS wz3008 S2127, Ent.blk b15 97 #[(.int .i64 x7.1.Boats), (.int .i64 x7.1.Scheme), v10], Ent.frzS wz3010 S2112, Ent.blk b6 29 #[(.int .i64 0), (.slice none 0 0), (.slice none 0 0)], Ent.blk b1 90 #[v2, (.int .i64 x3056.2.1), (.int .i64 x3056.2.2)], Ent.frz w0 (Ent.blk b1 90 #[v2, .int .i64 a0.at_, .int .i64 a0.seed]).S] w) ?_ (fun hN3099 => ?_)
         · intro F3107 wd3108 hJ
           obtain ⟨S3103, f3109, f3110, hL⟩ := hJ
           refine DH.done (by kernel_rfl) ?_
           have hL := hL.thaw 2 rfl ho3009
           have hL := hL.thaw 4 rfl ho3011
           have hL := hL.cndIn 1 rfl (M.spec_IsTable (Table.mk x2123.1.Boats (x2123.1.Points.set (x2144.1 : Int).toNat (x3045.set (x2149.1 : Int).toNat (w64 (10000 + x3056.1)))) x2123.1.Codes) = some true)
           simp only [lC, lD] at hL
           have hL := hL.rdxIn 2 rfl
           simp only [lC, lD] at hL
           have hL := hL.sel [1, 2, 0, 3, 4, 5, 6, 7] (by decide) rfl
           exact ⟨(x3056.2.1, x3056.2.2, x2123.1.Points.set (x2144.1 : Int).toNat (x3045.set (x2149.1 : Int).toNat (w64 (10000 + x3056.1))), x2123.1.Codes), hm, ⟨v2126, S3103, v2128, S2127, f3109, f3110, hL⟩⟩
         refine DH.node (listed' := (bma 11 1023)) (fuel' := 1) (fun (F : Fr) (w : World) => ∃ (b3104 : Nat) (q3105 : Nat), IxAddr v3050 (GoT.sz Int) x2149.1 b3104 q3105 ∧ F 2 = (.pointer (some ⟨b6, 0, none⟩)) ∧ F 7 = (.pointer (some ⟨b2133, 0, none⟩)) ∧ F 95 = (.int .i64 (w64 (10000 + x3056.1))) ∧ F 96 = (.pointer (some ⟨b3104, q3105, none⟩)) ∧ Hp w0 [Ent.blk b2133 29 #[(.int .i64 x2123.1.Boats), v2126, v2128], Ent.frzS wz3006 S2125, Ent.frzS wz3008 S2127, Ent.blk b15 97 #[(.int .i64 x7.1.Boats), (.int .i64 x7.1.Scheme), v10], Ent.frzS wz3010 S2112, Ent.blk b6 29 #[(.int .i64 0), (.slice none 0 0), (.slice none 0 0)], Ent.blk b1 90 #[v2, (.int .i64 x3056.2.1), (.int .i64 x3056.2.2)], Ent.frz w0 (Ent.blk b1 90 #[v2, .int .i64 a0.at_, .int .i64 a0.seed]).S] w) ?_ (fun hN3100 => ?_)
         · intro F3111 wd3112 hJ
           obtain ⟨b3104, q3105, hix3106, f3113, f3114, f3115, f3116, hL⟩ := hJ
           obtain ⟨_, ha3085⟩ := idxE ha3062
           have hc3118 := hL.cellF 1 rfl hs3052 hc3053
           have hL := hL.thaw 1 rfl ho3007
           simp only [lC, lD] at hL
           refine DH.only 10 rfl (by kernel_rfl) (S_inRow (α := Int) (x3045.set (x2149.1 : Int).toNat (w64 (10000 + x3056.1))) (x3045.set (x2149.1 : Int).toNat (w64 (10000 + x3056.1))) rfl hL 1 rfl hix3051 ha3055 hc3118 (fun E2 S1 hL hK => S_storeX (j := 0) (w64 (10000 + x3056.1)) hL 0 rfl Try_T2 hix3106 ha3085 f3116 rfl rfl f3115 rfl rfl hK) ?_)
           intro wd3117 S3119 hL
           simp only [lC, lD] at hL
           refine ⟨(hL.sel [0, 2, 3, 4, 5, 7] (by decide) rfl), ?_⟩
           exact DH.relist (listed' := (bma 11 2047)) (by kernel_rfl) (hN3099 _ _ ⟨S3119, f3113, f3114, hL⟩)
         refine DH.node (listed' := (bma 11 495)) (fuel' := 3) (fun (F : Fr) (w : World) => F 2 = (.pointer (some ⟨b6, 0, none⟩)) ∧ F 7 = (.pointer (some ⟨b2133, 0, none⟩)) ∧ F 90 = (.pointer (some ⟨b3048, q3049, none⟩)) ∧ F 92 = (.int .i64 x2149.1) ∧ F 95 = (.int .i64 (w64 (10000 + x3056.1))) ∧ Hp w0 [Ent.blk b2133 29 #[(.int .i64 x2123.1.Boats), v2126, v2128], Ent.frzS wz3006 S2125, Ent.frzS wz3008 S2127, Ent.blk b15 97 #[(.int .i64 x7.1.Boats), (.int .i64 x7.1.Scheme), v10], Ent.frzS wz3010 S2112, Ent.blk b6 29 #[(.int .i64 0), (.slice none 0 0), (.slice none 0 0)], Ent.blk b1 90 #[v2, (.int .i64 x3056.2.1), (.int .i64 x3056.2.2)], Ent.frz w0 (Ent.blk b1 90 #[v2, .int .i64 a0.at_, .int .i64 a0.seed]).S] w) ?_ (fun hN3101 => ?_)
         · intro F3122 wd3123 hJ
           obtain ⟨f3124, f3125, f3126, f3127, f3128, hL⟩ := hJ
           refine DH.only 4 rfl (by kernel_rfl) (OP.val (v := v3050) rfl (x_load1 U25 rfl f3126 (hL.cellF 1 rfl hs3052 hc3053)) ?_)
           refine ⟨(hL.sel [0, 2, 3, 4, 5, 7] (by decide) rfl), ?_⟩
           have hS := (hL.sel [0, 2, 3, 4, 5, 7] (by decide) rfl)
           obtain ⟨hz3129, ha3133⟩ := idxE ha3062
           obtain ⟨b3130, q3131, hix3132⟩ := rdL_ix (hL.rdF 1 rfl hr3054) hz3129 ha3133
           refine DH.take 9 rfl (by kernel_rfl) (by kernel_rfl) (by kernel_rfl) rfl rfl hS (YH.val (v := (.pointer (some ⟨b3130, q3131, none⟩))) (fun w' hS' => x_ix U25 Try_T2 rfl f3127 hix3132)) ?_
           exact DH.relist (listed' := (bma 11 1023)) (by kernel_rfl) (hN3100 _ _ ⟨b3130, q3131, hix3132, f3124, f3125, f3128, rfl, hL⟩)
         refine DH.node (listed' := (bma 11 127)) (fuel' := 4) (fun (F : Fr) (w : World) => F 2 = (.pointer (some ⟨b6, 0, none⟩)) ∧ F 7 = (.pointer (some ⟨b2133, 0, none⟩)) ∧ F 91 = v3050 ∧ F 92 = (.int .i64 x2149.1) ∧ F 93 = (.pointer (some ⟨b1, 0, none⟩)) ∧ Hp w0 [Ent.blk b2133 29 #[(.int .i64 x2123.1.Boats), v2126, v2128], Ent.frzS wz3006 S2125, Ent.frzS wz3008 S2127, Ent.blk b15 97 #[(.int .i64 x7.1.Boats), (.int .i64 x7.1.Scheme), v10], Ent.frzS wz3010 S2112, Ent.blk b6 29 #[(.int .i64 0), (.slice none 0 0), (.slice none 0 0)], Ent.blk b1 90 #[v2, (.int .i64 x2720.2.1), (.int .i64 x2720.2.2)], Ent.frz w0 (Ent.blk b1 90 #[v2, .int .i64 a0.at_, .int .i64 a0.seed]).S] w) ?_ (fun hN3102 => ?_)
         · intro F3134 wd3135 hJ
           obtain ⟨f3136, f3137, f3138, f3139, f3140, hL⟩ := hJ
           refine DH.only 7 rfl (by kernel_rfl) (OP.call rfl (x_call (vs := [(.pointer (some ⟨b1, 0, none⟩)), (.int .i64 2)]) Try_C86 ⟨f3140, rfl, trivial⟩) (M.spec_l01Next_ok _ (Src.mk a0.code x2720.2.1 x2720.2.2) (hL.exZ 7 6 (by decide) rfl rfl h3) (hL.get 6 rfl) 2 hx3057) ?_)
           rintro e3141 wd3142 ⟨rfl, hF3143⟩
           refine ⟨_, rfl, ?_⟩
           have hL := hL.mut 6 rfl hF3143
           simp only [lA, lB, lC, lD] at hL
           refine ⟨(hL.sel [0, 2, 3, 4, 5, 7] (by decide) rfl), ?_⟩
           have hS := (hL.sel [0, 2, 3, 4, 5, 7] (by decide) rfl)
           refine DH.take 8 rfl (by kernel_rfl) (by kernel_rfl) (by kernel_rfl) rfl rfl hS (YH.val (v := (.int .i64 (w64 (10000 + x3056.1)))) (fun w' hS' => x_add rfl rfl)) ?_
           have hS := (hL.sel [0, 2, 3, 4, 5, 7] (by decide) rfl)
           obtain ⟨hz3144, ha3148⟩ := idxE ha3062
           obtain ⟨b3145, q3146, hix3147⟩ := rdL_ix (hL.rdF 1 rfl hr3054) hz3144 ha3148
           refine DH.take 9 rfl (by kernel_rfl) (by kernel_rfl) (by kernel_rfl) rfl rfl hS (YH.val (v := (.pointer (some ⟨b3145, q3146, none⟩))) (fun w' hS' => x_ix U25 Try_T2 f3138 f3139 hix3147)) ?_
           exact DH.relist (listed' := (bma 11 1023)) (by kernel_rfl) (hN3100 _ _ ⟨b3145, q3146, hix3147, f3136, f3137, rfl, rfl, hL⟩)
         refine DH.all (rs := [4, 7]) (by kernel_rfl) (by simp) ?_
         intro i3149 hi3150
         simp only [List.mem_cons, List.not_mem_nil, or_false] at hi3150
         rcases hi3150 with rfl | rfl
         · refine ⟨_, rfl, ?_⟩
           refine OP.val (v := v3050) rfl (x_load1 U25 rfl rfl (hL.cellF 1 rfl hs3052 hc3053)) ?_
           refine ⟨(hL.sel [0, 2, 3, 4, 5, 7] (by decide) rfl), ?_⟩
           exact DH.relist (listed' := (bma 11 127)) (by kernel_rfl) (hN3102 _ _ ⟨f2139, f2140, rfl, rfl, rfl, hL⟩)
         refine ⟨_, rfl, ?_⟩
         refine OP.call rfl (x_call (vs := [(.pointer (some ⟨b1, 0, none⟩)), (.int .i64 2)]) Try_C86 ⟨rfl, rfl, trivial⟩) (M.spec_l01Next_ok _ (Src.mk a0.code x2720.2.1 x2720.2.2) (hL.exZ 7 6 (by decide) rfl rfl h3) (hL.get 6 rfl) 2 hx3057) ?_
         rintro e3151 wd3152 ⟨rfl, hF3153⟩
         refine ⟨_, rfl, ?_⟩
         have hL := hL.mut 6 rfl hF3153
         simp only [lA, lB, lC, lD] at hL
         refine ⟨(hL.sel [0, 2, 3, 4, 5, 7] (by decide) rfl), ?_⟩
         have hS := (hL.sel [0, 2, 3, 4, 5, 7] (by decide) rfl)
         refine DH.take 8 rfl (by kernel_rfl) (by kernel_rfl) (by kernel_rfl) rfl rfl hS (YH.val (v := (.int .i64 (w64 (10000 + x3056.1)))) (fun w' hS' => x_add rfl rfl)) ?_
         exact DH.relist (listed' := (bma 11 495)) (by kernel_rfl) (hN3101 _ _ ⟨f2139, f2140, rfl, rfl, rfl, hL⟩)
       refine CSR <| OV (.bool (x2720.1 == 1)) rfl (x_eql rfl rfl) <| OV (.bool (x2720.1 == 1)) rfl (x_assign) <| OW.nil ?_
       refine CW.condM (t := x2720.1 == 1) rfl hm (fun hb3154 hm => ?_) (fun hb3154 hm => ?_)
       · obtain ⟨wz3155, hL, ho3156⟩ := hL.freeze 1 rfl
         simp only [lC, lD] at hL
         obtain ⟨wz3157, hL, ho3158⟩ := hL.freeze 2 rfl
         simp only [lC, lD] at hL
         obtain ⟨wz3159, hL, ho3160⟩ := hL.freeze 4 rfl
         simp only [lC, lD] at hL
         refine CW.drawH (fun w' => Hp w0 [Ent.blk b2133 29 #[(.int .i64 x2123.1.Boats), v2126, v2128], Ent.frzS wz3155 S2125, Ent.blk b15 97 #[(.int .i64 x7.1.Boats), (.int .i64 x7.1.Scheme), v10], Ent.frzS wz3159 S2112, Ent.blk b6 29 #[(.int .i64 0), (.slice none 0 0), (.slice none 0 0)], Ent.frz w0 (Ent.blk b1 90 #[v2, .int .i64 a0.at_, .int .i64 a0.seed]).S] w') Try_mixed ?_
         have hL := hL.call (Mod.drew _)
         have hS := (hL.sel [0, 1, 3, 4, 5, 7] (by decide) rfl)
         refine DH.take 0 rfl (by kernel_rfl) (by kernel_rfl) (by kernel_rfl) rfl rfl hS (YH.val (v := (.pointer (some ⟨b2133, 2, none⟩))) (fun w' hS' => x_fieldAddr (fsz := 1) 0 2 2 U29 rfl Try_T22 rfl f2140 rfl)) ?_
         have hS := (hL.sel [0, 1, 3, 4, 5, 7] (by decide) rfl)
         refine DH.take 1 rfl (by kernel_rfl) (by kernel_rfl) (by kernel_rfl) rfl rfl hS (YH.val (v := v2128) (fun w' hS' => x_load1 U22 rfl rfl (hS'.cellB 0 rfl rfl))) ?_
         have hS := (hL.sel [0, 1, 3, 4, 5, 7] (by decide) rfl)
         refine DH.take 2 rfl (by kernel_rfl) (by kernel_rfl) (by kernel_rfl) rfl rfl hS (YH.val (v := (.int .i64 x2144.1)) (fun w' hS' => x_move)) ?_
         have hS := (hL.sel [0, 1, 3, 4, 5, 7] (by decide) rfl)
         obtain ⟨x3194, ha3195, hm⟩ := bndE hm
         obtain ⟨hz3196, ha3204⟩ := idxE ha3195
         obtain ⟨b3197, q3198, v3199, hix3200, hs3201, hc3202, hr3203⟩ := rdN_at ho3158.1.rdL hz3196 ha3204
         refine DH.take 3 rfl (by kernel_rfl) (by kernel_rfl) (by kernel_rfl) rfl rfl hS (YH.val (v := (.pointer (some ⟨b3197, q3198, none⟩))) (fun w' hS' => x_ix U22 Try_T25 rfl rfl hix3200)) ?_
         have hS := (hL.sel [0, 1, 3, 4, 5, 7] (by decide) rfl)
         refine DH.take 5 rfl (by kernel_rfl) (by kernel_rfl) (by kernel_rfl) rfl rfl hS (YH.val (v := (.int .i64 x2149.1)) (fun w' hS' => x_move)) ?_
         have hS := (hL.sel [0, 1, 3, 4, 5, 7] (by decide) rfl)
         refine DH.take 6 rfl (by kernel_rfl) (by kernel_rfl) (by kernel_rfl) rfl rfl hS (YH.val (v := (.pointer (some ⟨b1, 0, none⟩))) (fun w' hS' => x_mv f2138)) ?_
         obtain ⟨x3205, hx3206, hm⟩ := bndE hm
         obtain ⟨x3210, ha3211, hm⟩ := bndE hm
         refine DH.node (listed' := (bma 11 2047)) (fuel' := 0) (fun (F : Fr) (w : World) => ∃ (S3252 : Nat → Prop), F 2 = (.pointer (some ⟨b6, 0, none⟩)) ∧ F 7 = (.pointer (some ⟨b2133, 0, none⟩)) ∧ Hp w0 [Ent.blk b2133 29 #[(.int .i64 x2123.1.Boats), v2126, v2128], Ent.frzS wz3155 S2125, Ent.own 25 S3252 v2128 (x2123.1.Codes.set (x2144.1 : Int).toNat (x3194.set (x2149.1 : Int).toNat (w64 (10 - x3205.1)))), Ent.blk b15 97 #[(.int .i64 x7.1.Boats), (.int .i64 x7.1.Scheme), v10], Ent.frzS wz3159 S2112, Ent.blk b6 29 #[(.int .i64 0), (.slice none 0 0), (.slice none 0 0)], Ent.blk b1 90 #[v2, (.int .i64 x3205.2.1), (.int .i64 x3205.2.2)], Ent.frz w0 (Ent.blk b1 90 #[v2, .int .i64 a0.at_, .int .i64 a0.seed]).S] w) ?_ (fun hN3248 => ?_)
         · intro F3256 wd3257 hJ
           obtain ⟨S3252, f3258, f3259, hL⟩ := hJ
           refine DH.done (by kernel_rfl) ?_
           have hL := hL.thaw 1 rfl ho3156
           have hL := hL.thaw 4 rfl ho3160
           have hL := hL.cndIn 1 rfl (M.spec_IsTable (Table.mk x2123.1.Boats x2123.1.Points (x2123.1.Codes.set (x2144.1 : Int).toNat (x3194.set (x2149.1 : Int).toNat (w64 (10 - x3205.1))))) = some true)
           simp only [lC, lD] at hL
           have hL := hL.rdxIn 2 rfl
           simp only [lC, lD] at hL
           have hL := hL.sel [1, 2, 0, 3, 4, 5, 6, 7] (by decide) rfl
           exact ⟨(x3205.2.1, x3205.2.2, x2123.1.Points, x2123.1.Codes.set (x2144.1 : Int).toNat (x3194.set (x2149.1 : Int).toNat (w64 (10 - x3205.1)))), hm, ⟨v2126, S2125, v2128, S3252, f3258, f3259, hL⟩⟩
         refine DH.node (listed' := (bma 11 1023)) (fuel' := 1) (fun (F : Fr) (w : World) => ∃ (b3253 : Nat) (q3254 : Nat), IxAddr v3199 (GoT.sz Int) x2149.1 b3253 q3254 ∧ F 2 = (.pointer (some ⟨b6, 0, none⟩)) ∧ F 7 = (.pointer (some ⟨b2133, 0, none⟩)) ∧ F 107 = (.int .i64 (w64 (10 - x3205.1))) ∧ F 108 = (.pointer (some ⟨b3253, q3254, none⟩)) ∧ Hp w0 [Ent.blk b2133 29 #[(.int .i64 x2123.1.Boats), v2126, v2128], Ent.frzS wz3155 S2125, Ent.frzS wz3157 S2127, Ent.blk b15 97 #[(.int .i64 x7.1.Boats), (.int .i64 x7.1.Scheme), v10], Ent.frzS wz3159 S2112, Ent.blk b6 29 #[(.int .i64 0), (.slice none 0 0), (.slice none 0 0)], Ent.blk b1 90 #[v2, (.int .i64 x3205.2.1), (.int .i64 x3205.2.2)], Ent.frz w0 (Ent.blk b1 90 #[v2, .int .i64 a0.at_, .int .i64 a0.seed]).S] w) ?_ (fun hN3249 => ?_)
         · intro F3260 wd3261 hJ
           obtain ⟨b3253, q3254, hix3255, f3262, f3263, f3264, f3265, hL⟩ := hJ
           obtain ⟨_, ha3234⟩ := idxE ha3211
           have hc3267 := hL.cellF 2 rfl hs3201 hc3202
           have hL := hL.thaw 2 rfl ho3158
           simp only [lC, lD] at hL
           refine DH.only 10 rfl (by kernel_rfl) (S_inRow (α := Int) (x3194.set (x2149.1 : Int).toNat (w64 (10 - x3205.1))) (x3194.set (x2149.1 : Int).toNat (w64 (10 - x3205.1))) rfl hL 2 rfl hix3200 ha3204 hc3267 (fun E2 S1 hL hK => S_storeX (j := 0) (w64 (10 - x3205.1)) hL 0 rfl Try_T2 hix3255 ha3234 f3265 rfl rfl f3264 rfl rfl hK) ?_)
           intro wd3266 S3268 hL
           simp only [lC, lD] at hL
           refine ⟨(hL.sel [0, 1, 3, 4, 5, 7] (by decide) rfl), ?_⟩
           exact DH.relist (listed' := (bma 11 2047)) (by kernel_rfl) (hN3248 _ _ ⟨S3268, f3262, f3263, hL⟩)
         refine DH.node (listed' := (bma 11 495)) (fuel' := 3) (fun (F : Fr) (w : World) => F 2 = (.pointer (some ⟨b6, 0, none⟩)) ∧ F 7 = (.pointer (some ⟨b2133, 0, none⟩)) ∧ F 102 = (.pointer (some ⟨b3197, q3198, none⟩)) ∧ F 104 = (.int .i64 x2149.1) ∧ F 107 = (.int .i64 (w64 (10 - x3205.1))) ∧ Hp w0 [Ent.blk b2133 29 #[(.int .i64 x2123.1.Boats), v2126, v2128], Ent.frzS wz3155 S2125, Ent.frzS wz3157 S2127, Ent.blk b15 97 #[(.int .i64 x7.1.Boats), (.int .i64 x7.1.Scheme), v10], Ent.frzS wz3159 S2112, Ent.blk b6 29 #[(.int .i64 0), (.slice none 0 0), (.slice none 0 0)], Ent.blk b1 90 #[v2, (.int .i64 x3205.2.1), (.int .i64 x3205.2.2)], Ent.frz w0 (Ent.blk b1 90 #[v2, .int .i64 a0.at_, .int .i64 a0.seed]).S] w) ?_ (fun hN3250 => ?_)
         · intro F3271 wd3272 hJ
           obtain ⟨f3273, f3274, f3275, f3276, f3277, hL⟩ := hJ
           refine DH.only 4 rfl (by kernel_rfl) (OP.val (v := v3199) rfl (x_load1 U25 rfl f3275 (hL.cellF 2 rfl hs3201 hc3202)) ?_)
           refine ⟨(hL.sel [0, 1, 3, 4, 5, 7] (by decide) rfl), ?_⟩
           have hS := (hL.sel [0, 1, 3, 4, 5, 7] (by decide) rfl)
           obtain ⟨hz3278, ha3282⟩ := idxE ha3211
           obtain ⟨b3279, q3280, hix3281⟩ := rdL_ix (hL.rdF 2 rfl hr3203) hz3278 ha3282
           refine DH.take 9 rfl (by kernel_rfl) (by kernel_rfl) (by kernel_rfl) rfl rfl hS (YH.val (v := (.pointer (some ⟨b3279, q3280, none⟩))) (fun w' hS' => x_ix U25 Try_T2 rfl f3276 hix3281)) ?_
           exact DH.relist (listed' := (bma 11 1023)) (by kernel_rfl) (hN3249 _ _ ⟨b3279, q3280, hix3281, f3273, f3274, f3277, rfl, hL⟩)
         refine DH.node (listed' := (bma 11 127)) (fuel' := 4) (fun (F : Fr) (w : World) => F 2 = (.pointer (some ⟨b6, 0, none⟩)) ∧ F 7 = (.pointer (some ⟨b2133, 0, none⟩)) ∧ F 103 = v3199 ∧ F 104 = (.int .i64 x2149.1) ∧ F 105 = (.pointer (some ⟨b1, 0, none⟩)) ∧ Hp w0 [Ent.blk b2133 29 #[(.int .i64 x2123.1.Boats), v2126, v2128], Ent.frzS wz3155 S2125, Ent.frzS wz3157 S2127, Ent.blk b15 97 #[(.int .i64 x7.1.Boats), (.int .i64 x7.1.Scheme), v10], Ent.frzS wz3159 S2112, Ent.blk b6 29 #[(.int .i64 0), (.slice none 0 0), (.slice none 0 0)], Ent.blk b1 90 #[v2, (.int .i64 x2720.2.1), (.int .i64 x2720.2.2)], Ent.frz w0 (Ent.blk b1 90 #[v2, .int .i64 a0.at_, .int .i64 a0.seed]).S] w) ?_ (fun hN3251 => ?_)
         · intro F3283 wd3284 hJ
           obtain ⟨f3285, f3286, f3287, f3288, f3289, hL⟩ := hJ
           refine DH.only 7 rfl (by kernel_rfl) (OP.call rfl (x_call (vs := [(.pointer (some ⟨b1, 0, none⟩)), (.int .i64 2)]) Try_C86 ⟨f3289, rfl, trivial⟩) (M.spec_l01Next_ok _ (Src.mk a0.code x2720.2.1 x2720.2.2) (hL.exZ 7 6 (by decide) rfl rfl h3) (hL.get 6 rfl) 2 hx3206) ?_)
           rintro e3290 wd3291 ⟨rfl, hF3292⟩
           refine ⟨_, rfl, ?_⟩
           have hL := hL.mut 6 rfl hF3292
           simp only [lA, lB, lC, lD] at hL
           refine ⟨(hL.sel [0, 1, 3, 4, 5, 7] (by decide) rfl), ?_⟩
           have hS := (hL.sel [0, 1, 3, 4, 5, 7] (by decide) rfl)
           refine DH.take 8 rfl (by kernel_rfl) (by kernel_rfl) (by kernel_rfl) rfl rfl hS (YH.val (v := (.int .i64 (w64 (10 - x3205.1)))) (fun w' hS' => x_sub rfl rfl)) ?_
           have hS := (hL.sel [0, 1, 3, 4, 5, 7] (by decide) rfl)
           obtain ⟨hz3293, ha3297⟩ := idxE ha3211
           obtain ⟨b3294, q3295, hix3296⟩ := rdL_ix (hL.rdF 2 rfl hr3203) hz3293 ha3297
           refine DH.take 9 rfl (by kernel_rfl) (by kernel_rfl) (by kernel_rfl) rfl rfl hS (YH.val (v := (.pointer (some ⟨b3294, q3295, none⟩))) (fun w' hS' => x_ix U25 Try_T2 f3287 f3288 hix3296)) ?_
           exact DH.relist (listed' := (bma 11 1023)) (by kernel_rfl) (hN3249 _ _ ⟨b3294, q3295, hix3296, f3285, f3286, rfl, rfl, hL⟩)
         refine DH.all (rs := [4, 7]) (by kernel_rfl) (by simp) ?_
         intro i3298 hi3299
         simp only [List.mem_cons, List.not_mem_nil, or_false] at hi3299
         rcases hi3299 with rfl | rfl
         · refine ⟨_, rfl, ?_⟩
           refine OP.val (v := v3199) rfl (x_load1 U25 rfl rfl (hL.cellF 2 rfl hs3201 hc3202)) ?_
           refine ⟨(hL.sel [0, 1, 3, 4, 5, 7] (by decide) rfl), ?_⟩
           exact DH.relist (listed' := (bma 11 127)) (by kernel_rfl) (hN3251 _ _ ⟨f2139, f2140, rfl, rfl, rfl, hL⟩)
         refine ⟨_, rfl, ?_⟩
         refine OP.call rfl (x_call (vs := [(.pointer (some ⟨b1, 0, none⟩)), (.int .i64 2)]) Try_C86 ⟨rfl, rfl, trivial⟩) (M.spec_l01Next_ok _ (Src.mk a0.code x2720.2.1 x2720.2.2) (hL.exZ 7 6 (by decide) rfl rfl h3) (hL.get 6 rfl) 2 hx3206) ?_
         rintro e3300 wd3301 ⟨rfl, hF3302⟩
         refine ⟨_, rfl, ?_⟩
         have hL := hL.mut 6 rfl hF3302
         simp only [lA, lB, lC, lD] at hL
         refine ⟨(hL.sel [0, 1, 3, 4, 5, 7] (by decide) rfl), ?_⟩
         have hS := (hL.sel [0, 1, 3, 4, 5, 7] (by decide) rfl)
         refine DH.take 8 rfl (by kernel_rfl) (by kernel_rfl) (by kernel_rfl) rfl rfl hS (YH.val (v := (.int .i64 (w64 (10 - x3205.1)))) (fun w' hS' => x_sub rfl rfl)) ?_
         exact DH.relist (listed' := (bma 11 495)) (by kernel_rfl) (hN3250 _ _ ⟨f2139, f2140, rfl, rfl, rfl, hL⟩)
       refine CSR <| OV (.bool (x2720.1 == 2)) rfl (x_eql rfl rfl) <| OV (.bool (x2720.1 == 2)) rfl (x_assign) <| OW.nil ?_
       refine CW.condM (t := x2720.1 == 2) rfl hm (fun hb3303 hm => ?_) (fun hb3303 hm => ?_)
       · obtain ⟨wz3304, hL, ho3305⟩ := hL.freeze 1 rfl
         simp only [lC, lD] at hL
         obtain ⟨wz3306, hL, ho3307⟩ := hL.freeze 2 rfl
         simp only [lC, lD] at hL
         obtain ⟨wz3308, hL, ho3309⟩ := hL.freeze 4 rfl
         simp only [lC, lD] at hL
         refine CW.draw Try_mixed ?_
         have hL := hL.call (Mod.drew _)
         refine DW.pre (fuel := 1) (fin := bma 11 1023) (C := fun w' => Mod None_ _ w') [0, 1, 2, 3, 4, 5, 6, 7, 8, 9] (Mod.refl _ _) (by kernel_rfl) (by kernel_rfl) ?_
         refine QV (.pointer (some ⟨b2133, 1, none⟩)) rfl rfl (fun w' hm' => x_fieldAddr (fsz := 1) 0 1 1 U29 rfl Try_T22 rfl f2140 rfl) <| QV v2126 rfl rfl (fun w' hm' => x_load1 U22 rfl rfl ((hL.call hm').cellB 0 rfl rfl)) <| QV (.int .i64 x2144.1) rfl rfl (fun w' hm' => x_move) <| QV (.pointer (some ⟨b2133, 1, none⟩)) rfl rfl (fun w' hm' => x_fieldAddr (fsz := 1) 0 1 1 U29 rfl Try_T22 rfl f2140 rfl) <| QV v2126 rfl rfl (fun w' hm' => x_load1 U22 rfl rfl ((hL.call hm').cellB 0 rfl rfl)) <| QV (.int .i64 x2144.1) rfl rfl (fun w' hm' => x_move) ?_
         obtain ⟨x3310, ha3311, hm⟩ := bndE hm
         obtain ⟨hz3312, ha3320⟩ := idxE ha3311
         obtain ⟨b3313, q3314, v3315, hix3316, hs3317, hc3318, hr3319⟩ := rdN_at ho3305.1.rdL hz3312 ha3320
         refine QV (.pointer (some ⟨b3313, q3314, none⟩)) rfl rfl (fun w' hm' => x_ix U22 Try_T25 rfl rfl hix3316) <| QV v3315 rfl rfl (fun w' hm' => x_load1 U25 rfl rfl ((hL.call hm').cellF 1 rfl hs3317 hc3318)) ?_
         obtain ⟨hc3323, hm⟩ := chkE hm
         obtain ⟨v3321, hs3322⟩ := subV_of (hL.rdF 1 rfl hr3319) hc3323
         refine QV v3321 rfl rfl (fun w' hm' => x_slice1 U25 Try_T2 rfl rfl (subV_len (hL.rdF 1 rfl hr3319)) hs3322) ?_
         obtain ⟨x3324, ha3325, hm⟩ := bndE hm
         obtain ⟨hz3326, ha3334⟩ := idxE ha3325
         obtain ⟨b3327, q3328, v3329, hix3330, hs3331, hc3332, hr3333⟩ := rdN_at ho3305.1.rdL hz3326 ha3334
         refine QV (.pointer (some ⟨b3327, q3328, none⟩)) rfl rfl (fun w' hm' => x_ix U22 Try_T25 rfl rfl hix3330) ?_
         refine QW.nil ?_
         intro wd3335 hmod
         have hL := hL.call hmod
         have hc3337 := hL.cellF 1 rfl hs3317 hc3318
         have hL := hL.thaw 1 rfl ho3305
         simp only [lC, lD] at hL
         refine DW.only 10 rfl (by kernel_rfl) (S_rowTail (subL x3310 1 (x3310.length : Int)) hL 1 rfl Try_T25 hix3316 ha3320 hc3337 (fun S w h => SubV.rdL hs3322 h) hix3330 rfl rfl ?_)
         intro wd3336 hL
         simp only [lC, lD] at hL
         obtain ⟨hC3338, hm⟩ := chkE hm
         have hL := hL.cndNo 1 rfl (M.spec_IsTable (Table.mk x2123.1.Boats (x2123.1.Points.set (x2144.1 : Int).toNat (subL x3310 1 (x3310.length : Int))) x2123.1.Codes) = some true) 25 hC3338
         simp only [lC, lD] at hL
         refine DW.done (by kernel_rfl) ?_
         have hL := hL.thaw 2 rfl ho3307
         have hL := hL.thaw 4 rfl ho3309
         have hL := hL.rdxIn 2 rfl
         simp only [lC, lD] at hL
         have hL := hL.sel [1, 2, 0, 3, 4, 5, 6, 7] (by decide) rfl
         exact ⟨(x2720.2.1, x2720.2.2, x2123.1.Points.set (x2144.1 : Int).toNat (subL x3310 1 (x3310.length : Int)), x2123.1.Codes), hm, ⟨v2126, S2125, v2128, S2127, f2139, f2140, hL⟩⟩
       refine CSR <| OV (.bool (x2720.1 == 3)) rfl (x_eql rfl rfl) <| OV (.bool (x2720.1 == 3)) rfl (x_assign) <| OW.nil ?_
       refine CW.condM (t := x2720.1 == 3) rfl hm (fun hb3339 hm => ?_) (fun hb3339 hm => ?_)
       · refine CW.regionL <| OV (.pointer (some ⟨b2133, 2, none⟩)) rfl (x_fieldAddr (fsz := 1) 0 2 2 U29 rfl Try_T22 rfl f2140 rfl) <| OV v2128 rfl (x_load1 U22 rfl rfl (hL.cellB 0 rfl rfl)) ?_
         obtain ⟨hc3342, hm⟩ := chkE hm
         obtain ⟨v3340, hs3341⟩ := subV_of (hL.rdO 2 rfl) hc3342
         refine OV v3340 rfl (x_slice1 U22 Try_T25 rfl rfl (subV_len (hL.rdO 2 rfl)) hs3341) <| OV (.pointer (some ⟨b2133, 2, none⟩)) rfl (x_fieldAddr (fsz := 1) 0 2 2 U29 rfl Try_T22 rfl f2140 rfl) ?_
         refine OW.cons (S_store (cs' := #[(.int .i64 x2123.1.Boats), v2126, v3340]) hL 0 rfl Try_T22 rfl (rdL_one (SubV.rdL hs3341 (hL.rdO 2 rfl))) rfl rfl rfl ?_)
         intro wd3343 hL
         refine OW.nil ?_
         have hL := hL.cndIn 1 rfl (M.spec_IsTable (Table.mk x2123.1.Boats x2123.1.Points (subL x2123.1.Codes 1 (x2123.1.Codes.length : Int))) = some true)
         simp only [lC, lD] at hL
         have hL := hL.rdxSub 2 rfl hs3341
         simp only [lC, lD] at hL
         have hL := hL.sel [1, 2, 0, 3, 4, 5, 6, 7] (by decide) rfl
         exact ⟨(x2720.2.1, x2720.2.2, x2123.1.Points, subL x2123.1.Codes 1 (x2123.1.Codes.length : Int)), hm, ⟨v2126, S2125, v3340, S2127, f2139, f2140, hL⟩⟩
       refine CW.seqJ (fun (s_j4 : Bool) (F : Fr) (w : World) => F 0 = (.pointer (some ⟨b1, 0, none⟩)) ∧ F 2 = (.pointer (some ⟨b6, 0, none⟩)) ∧ F 7 = (.pointer (some ⟨b2133, 0, none⟩)) ∧ F 9 = (.int .i64 x2144.1) ∧ F 10 = (.int .i64 x2149.1) ∧ F 127 = (.bool s_j4) ∧ Hp w0 [Ent.blk b2133 29 #[(.int .i64 x2123.1.Boats), v2126, v2128], Ent.own 25 S2125 v2126 x2123.1.Points, Ent.own 25 S2127 v2128 x2123.1.Codes, Ent.blk b15 97 #[(.int .i64 x7.1.Boats), (.int .i64 x7.1.Scheme), v10], Ent.own 101 S2112 v10 s_l1.2.2.1, Ent.blk b6 29 #[(.int .i64 0), (.slice none 0 0), (.slice none 0 0)], Ent.blk b1 90 #[v2, (.int .i64 x2720.2.1), (.int .i64 x2720.2.2)], Ent.frz w0 (Ent.blk b1 90 #[v2, .int .i64 a0.at_, .int .i64 a0.seed]).S] w) (fun s_j4 => M.spec_l26DrawTable_j4 a0 x2123 x2144 x2149 x2720 s_j4 = some r) ?_ ?_
       · refine CSR <| OV (.bool (x2720.1 == 4)) rfl (x_eql rfl rfl) <| OV (.bool (x2720.1 == 4)) rfl (x_assign) <| OW.nil ?_
         refine CW.condM (t := x2720.1 == 4) rfl hm (fun hb3503 hm => ?_) (fun hb3503 hm => ?_)
         · refine CW.skip ?_
           exact ⟨x2720.1 == 4, hm, ⟨f2138, f2139, f2140, rfl, rfl, rfl, hL⟩⟩
         refine CSR <| OV (.bool (x2720.1 == 5)) rfl (x_eql rfl rfl) <| OV (.bool (x2720.1 == 5)) rfl (x_assign) <| OW.nil ?_
         refine CW.condM (t := x2720.1 == 5) rfl hm (fun hb3504 hm => ?_) (fun hb3504 hm => ?_)
         · refine CW.skip ?_
           exact ⟨x2720.1 == 5, hm, ⟨f2138, f2139, f2140, rfl, rfl, rfl, hL⟩⟩
         refine CW.regionL <| OV (.bool (x2720.1 == 6)) rfl (x_eql rfl rfl) <| OV (.bool (x2720.1 == 6)) rfl (x_assign) <| OW.nil ?_
         exact ⟨x2720.1 == 6, hm, ⟨f2138, f2139, f2140, rfl, rfl, rfl, hL⟩⟩
       intro s_j4 F3346 wd3347 hJ hm
       unfold M.spec_l26DrawTable_j4 at hm
       obtain ⟨f3348, f3349, f3350, f3351, f3352, f3353, hL⟩ := hJ
       refine CW.condM (t := s_j4) f3353 hm (fun hb3354 hm => ?_) (fun hb3354 hm => ?_)
       · obtain ⟨wz3355, hL, ho3356⟩ := hL.freeze 1 rfl
         simp only [lC, lD] at hL
         obtain ⟨wz3357, hL, ho3358⟩ := hL.freeze 2 rfl
         simp only [lC, lD] at hL
         obtain ⟨wz3359, hL, ho3360⟩ := hL.freeze 4 rfl
         simp only [lC, lD] at hL
         refine CW.drawH (fun w' => Hp w0 [Ent.blk b2133 29 #[(.int .i64 x2123.1.Boats), v2126, v2128], Ent.frzS wz3357 S2127, Ent.blk b15 97 #[(.int .i64 x7.1.Boats), (.int .i64 x7.1.Scheme), v10], Ent.frzS wz3359 S2112, Ent.blk b6 29 #[(.int .i64 0), (.slice none 0 0), (.slice none 0 0)], Ent.frz w0 (Ent.blk b1 90 #[v2, .int .i64 a0.at_, .int .i64 a0.seed]).S] w') Try_mixed ?_
         have hL := hL.call (Mod.drew _)
         have hS := (hL.sel [0, 2, 3, 4, 5, 7] (by decide) rfl)
         refine DH.take 0 rfl (by kernel_rfl) (by kernel_rfl) (by kernel_rfl) rfl rfl hS (YH.val (v := (.pointer (some ⟨b2133, 1, none⟩))) (fun w' hS' => x_fieldAddr (fsz := 1) 0 1 1 U29 rfl Try_T22 rfl f3350 rfl)) ?_
         have hS := (hL.sel [0, 2, 3, 4, 5, 7] (by decide) rfl)
         refine DH.take 1 rfl (by kernel_rfl) (by kernel_rfl) (by kernel_rfl) rfl rfl hS (YH.val (v := v2126) (fun w' hS' => x_load1 U22 rfl rfl (hS'.cellB 0 rfl rfl))) ?_
         have hS := (hL.sel [0, 2, 3, 4, 5, 7] (by decide) rfl)
         refine DH.take 2 rfl (by kernel_rfl) (by kernel_rfl) (by kernel_rfl) rfl rfl hS (YH.val (v := (.int .i64 x2144.1)) (fun w' hS' => x_mv f3351)) ?_
         have hS := (hL.sel [0, 2, 3, 4, 5, 7] (by decide) rfl)
         obtain ⟨x3394, ha3395, hm⟩ := bndE hm
         obtain ⟨hz3396, ha3404⟩ := idxE ha3395
         obtain ⟨b3397, q3398, v3399, hix3400, hs3401, hc3402, hr3403⟩ := rdN_at ho3356.1.rdL hz3396 ha3404
         refine DH.take 3 rfl (by kernel_rfl) (by kernel_rfl) (by kernel_rfl) rfl rfl hS (YH.val (v := (.pointer (some ⟨b3397, q3398, none⟩))) (fun w' hS' => x_ix U22 Try_T25 rfl rfl hix3400)) ?_
         have hS := (hL.sel [0, 2, 3, 4, 5, 7] (by decide) rfl)
         refine DH.take 5 rfl (by kernel_rfl) (by kernel_rfl) (by kernel_rfl) rfl rfl hS (YH.val (v := (.int .i64 x2149.1)) (fun w' hS' => x_mv f3352)) ?_
         have hS := (hL.sel [0, 2, 3, 4, 5, 7] (by decide) rfl)
         refine DH.take 6 rfl (by kernel_rfl) (by kernel_rfl) (by kernel_rfl) rfl rfl hS (YH.val (v := (.pointer (some ⟨b1, 0, none⟩))) (fun w' hS' => x_mv f3348)) ?_
         obtain ⟨x3405, hx3406, hm⟩ := bndE hm
         obtain ⟨x3410, ha3411, hm⟩ := bndE hm
         refine DH.node (listed' := (bma 11 2047)) (fuel' := 0) (fun (F : Fr) (w : World) => ∃ (S3452 : Nat → Prop), F 2 = (.pointer (some ⟨b6, 0, none⟩)) ∧ F 7 = (.pointer (some ⟨b2133, 0, none⟩)) ∧ Hp w0 [Ent.blk b2133 29 #[(.int .i64 x2123.1.Boats), v2126, v2128], Ent.own 25 S3452 v2126 (x2123.1.Points.set (x2144.1 : Int).toNat (x3394.set (x2149.1 : Int).toNat (w64 (10 * x3405.1)))), Ent.frzS wz3357 S2127, Ent.blk b15 97 #[(.int .i64 x7.1.Boats), (.int .i64 x7.1.Scheme), v10], Ent.frzS wz3359 S2112, Ent.blk b6 29 #[(.int .i64 0), (.slice none 0 0), (.slice none 0 0)], Ent.blk b1 90 #[v2, (.int .i64 x3405.2.1), (.int .i64 x3405.2.2)], Ent.frz w0 (Ent.blk b1 90 #[v2, .int .i64 a0.at_, .int .i64 a0.seed]).S] w) ?_ (fun hN3448 => ?_)
         · intro F3456 wd3457 hJ
           obtain ⟨S3452, f3458, f3459, hL⟩ := hJ
           refine DH.done (by kernel_rfl) ?_
           have hL := hL.thaw 2 rfl ho3358
           have hL := hL.thaw 4 rfl ho3360
           have hL := hL.cndIn 1 rfl (M.spec_IsTable (Table.mk x2123.1.Boats (x2123.1.Points.set (x2144.1 : Int).toNat (x3394.set (x2149.1 : Int).toNat (w64 (10 * x3405.1)))) x2123.1.Codes) = some true)
           simp only [lC, lD] at hL
           have hL := hL.rdxIn 2 rfl
           simp only [lC, lD] at hL
           have hL := hL.sel [1, 2, 0, 3, 4, 5, 6, 7] (by decide) rfl
           exact ⟨(x3405.2.1, x3405.2.2, x2123.1.Points.set (x2144.1 : Int).toNat (x3394.set (x2149.1 : Int).toNat (w64 (10 * x3405.1))), x2123.1.Codes), hm, ⟨v2126, S3452, v2128, S2127, f3458, f3459, hL⟩⟩
         refine DH.node (listed' := (bma 11 1023)) (fuel' := 1) (fun (F : Fr) (w : World) => ∃ (b3453 : Nat) (q3454 : Nat), IxAddr v3399 (GoT.sz Int) x2149.1 b3453 q3454 ∧ F 2 = (.pointer (some ⟨b6, 0, none⟩)) ∧ F 7 = (.pointer (some ⟨b2133, 0, none⟩)) ∧ F 139 = (.int .i64 (w64 (10 * x3405.1))) ∧ F 140 = (.pointer (some ⟨b3453, q3454, none⟩)) ∧ Hp w0 [Ent.blk b2133 29 #[(.int .i64 x2123.1.Boats), v2126, v2128], Ent.frzS wz3355 S2125, Ent.frzS wz3357 S2127, Ent.blk b15 97 #[(.int .i64 x7.1.Boats), (.int .i64 x7.1.Scheme), v10], Ent.frzS wz3359 S2112, Ent.blk b6 29 #[(.int .i64 0), (.slice none 0 0), (.slice none 0 0)], Ent.blk b1 90 #[v2, (.int .i64 x3405.2.1), (.int .i64 x3405.2.2)], Ent.frz w0 (Ent.blk b1 90 #[v2, .int .i64 a0.at_, .int .i64 a0.seed]).S] w) ?_ (fun hN3449 => ?_)
         · intro F3460 wd3461 hJ
           obtain ⟨b3453, q3454, hix3455, f3462, f3463, f3464, f3465, hL⟩ := hJ
           obtain ⟨_, ha3434⟩ := idxE ha3411
           have hc3467 := hL.cellF 1 rfl hs3401 hc3402
           have hL := hL.thaw 1 rfl ho3356
           simp only [lC, lD] at hL
           refine DH.only 10 rfl (by kernel_rfl) (S_inRow (α := Int) (x3394.set (x2149.1 : Int).toNat (w64 (10 * x3405.1))) (x3394.set (x2149.1 : Int).toNat (w64 (10 * x3405.1))) rfl hL 1 rfl hix3400 ha3404 hc3467 (fun E2 S1 hL hK => S_storeX (j := 0) (w64 (10 * x3405.1)) hL 0 rfl Try_T2 hix3455 ha3434 f3465 rfl rfl f3464 rfl rfl hK) ?_)
           intro wd3466 S3468 hL
           simp only [lC, lD] at hL
           refine ⟨(hL.sel [0, 2, 3, 4, 5, 7] (by decide) rfl), ?_⟩
           exact DH.relist (listed' := (bma 11 2047)) (by kernel_rfl) (hN3448 _ _ ⟨S3468, f3462, f3463, hL⟩)
         refine DH.node (listed' := (bma 11 495)) (fuel' := 3) (fun (F : Fr) (w : World) => F 2 = (.pointer (some ⟨b6, 0, none⟩)) ∧ F 7 = (.pointer (some ⟨b2133, 0, none⟩)) ∧ F 134 = (.pointer (some ⟨b3397, q3398, none⟩)) ∧ F 136 = (.int .i64 x2149.1) ∧ F 139 = (.int .i64 (w64 (10 * x3405.1))) ∧ Hp w0 [Ent.blk b2133 29 #[(.int .i64 x2123.1.Boats), v2126, v2128], Ent.frzS wz3355 S2125, Ent.frzS wz3357 S2127, Ent.blk b15 97 #[(.int .i64 x7.1.Boats), (.int .i64 x7.1.Scheme), v10], Ent.frzS wz3359 S2112, Ent.blk b6 29 #[(.int .i64 0), (.slice none 0 0), (.slice none 0 0)], Ent.blk b1 90 #[v2, (.int .i64 x3405.2.1), (.int .i64 x3405.2.2)], Ent.frz w0 (Ent.blk b1 90 #[v2, .int .i64 a0.at_, .int .i64 a0.seed]).S] w) ?_ (fun hN3450 => ?_)
         · intro F3471 wd3472 hJ
           obtain ⟨f3473, f3474, f3475, f3476, f3477, hL⟩ := hJ
           refine DH.only 4 rfl (by kernel_rfl) (OP.val (v := v3399) rfl (x_load1 U25 rfl f3475 (hL.cellF 1 rfl hs3401 hc3402)) ?_)
           refine ⟨(hL.sel [0, 2, 3, 4, 5, 7] (by decide) rfl), ?_⟩
           have hS := (hL.sel [0, 2, 3, 4, 5, 7] (by decide) rfl)
           obtain ⟨hz3478, ha3482⟩ := idxE ha3411
           obtain ⟨b3479, q3480, hix3481⟩ := rdL_ix (hL.rdF 1 rfl hr3403) hz3478 ha3482
           refine DH.take 9 rfl (by kernel_rfl) (by kernel_rfl) (by kernel_rfl) rfl rfl hS (YH.val (v := (.pointer (some ⟨b3479, q3480, none⟩))) (fun w' hS' => x_ix U25 Try_T2 rfl f3476 hix3481)) ?_
           exact DH.relist (listed' := (bma 11 1023)) (by kernel_rfl) (hN3449 _ _ ⟨b3479, q3480, hix3481, f3473, f3474, f3477, rfl, hL⟩)
         refine DH.node (listed' := (bma 11 127)) (fuel' := 4) (fun (F : Fr) (w : World) => F 2 = (.pointer (some ⟨b6, 0, none⟩)) ∧ F 7 = (.pointer (some ⟨b2133, 0, none⟩)) ∧ F 135 = v3399 ∧ F 136 = (.int .i64 x2149.1) ∧ F 137 = (.pointer (some ⟨b1, 0, none⟩)) ∧ Hp w0 [Ent.blk b2133 29 #[(.int .i64 x2123.1.Boats), v2126, v2128], Ent.frzS wz3355 S2125, Ent.frzS wz3357 S2127, Ent.blk b15 97 #[(.int .i64 x7.1.Boats), (.int .i64 x7.1.Scheme), v10], Ent.frzS wz3359 S2112, Ent.blk b6 29 #[(.int .i64 0), (.slice none 0 0), (.slice none 0 0)], Ent.blk b1 90 #[v2, (.int .i64 x2720.2.1), (.int .i64 x2720.2.2)], Ent.frz w0 (Ent.blk b1 90 #[v2, .int .i64 a0.at_, .int .i64 a0.seed]).S] w) ?_ (fun hN3451 => ?_)
         · intro F3483 wd3484 hJ
           obtain ⟨f3485, f3486, f3487, f3488, f3489, hL⟩ := hJ
           refine DH.only 7 rfl (by kernel_rfl) (OP.call rfl (x_call (vs := [(.pointer (some ⟨b1, 0, none⟩)), (.int .i64 8)]) Try_C86 ⟨f3489, rfl, trivial⟩) (M.spec_l01Next_ok _ (Src.mk a0.code x2720.2.1 x2720.2.2) (hL.exZ 7 6 (by decide) rfl rfl h3) (hL.get 6 rfl) 8 hx3406) ?_)
           rintro e3490 wd3491 ⟨rfl, hF3492⟩
           refine ⟨_, rfl, ?_⟩
           have hL := hL.mut 6 rfl hF3492
           simp only [lA, lB, lC, lD] at hL
           refine ⟨(hL.sel [0, 2, 3, 4, 5, 7] (by decide) rfl), ?_⟩
           have hS := (hL.sel [0, 2, 3, 4, 5, 7] (by decide) rfl)
           refine DH.take 8 rfl (by kernel_rfl) (by kernel_rfl) (by kernel_rfl) rfl rfl hS (YH.val (v := (.int .i64 (w64 (10 * x3405.1)))) (fun w' hS' => x_mul rfl rfl)) ?_
           have hS := (hL.sel [0, 2, 3, 4, 5, 7] (by decide) rfl)
           obtain ⟨hz3493, ha3497⟩ := idxE ha3411
           obtain ⟨b3494, q3495, hix3496⟩ := rdL_ix (hL.rdF 1 rfl hr3403) hz3493 ha3497
           refine DH.take 9 rfl (by kernel_rfl) (by kernel_rfl) (by kernel_rfl) rfl rfl hS (YH.val (v := (.pointer (some ⟨b3494, q3495, none⟩))) (fun w' hS' => x_ix U25 Try_T2 f3487 f3488 hix3496)) ?_
           exact DH.relist (listed' := (bma 11 1023)) (by kernel_rfl) (hN3449 _ _ ⟨b3494, q3495, hix3496, f3485, f3486, rfl, rfl, hL⟩)
         refine DH.all (rs := [4, 7]) (by kernel_rfl) (by simp) ?_
         intro i3498 hi3499
         simp only [List.mem_cons, List.not_mem_nil, or_false] at hi3499
         rcases hi3499 with rfl | rfl
         · refine ⟨_, rfl, ?_⟩
           refine OP.val (v := v3399) rfl (x_load1 U25 rfl rfl (hL.cellF 1 rfl hs3401 hc3402)) ?_
           refine ⟨(hL.sel [0, 2, 3, 4, 5, 7] (by decide) rfl), ?_⟩
           exact DH.relist (listed' := (bma 11 127)) (by kernel_rfl) (hN3451 _ _ ⟨f3349, f3350, rfl, rfl, rfl, hL⟩)
         refine ⟨_, rfl, ?_⟩
         refine OP.call rfl (x_call (vs := [(.pointer (some ⟨b1, 0, none⟩)), (.int .i64 8)]) Try_C86 ⟨rfl, rfl, trivial⟩) (M.spec_l01Next_ok _ (Src.mk a0.code x2720.2.1 x2720.2.2) (hL.exZ 7 6 (by decide) rfl rfl h3) (hL.get 6 rfl) 8 hx3406) ?_
         rintro e3500 wd3501 ⟨rfl, hF3502⟩
         refine ⟨_, rfl, ?_⟩
         have hL := hL.mut 6 rfl hF3502
         simp only [lA, lB, lC, lD] at hL
         refine ⟨(hL.sel [0, 2, 3, 4, 5, 7] (by decide) rfl), ?_⟩
         have hS := (hL.sel [0, 2, 3, 4, 5, 7] (by decide) rfl)
         refine DH.take 8 rfl (by kernel_rfl) (by kernel_rfl) (by kernel_rfl) rfl rfl hS (YH.val (v := (.int .i64 (w64 (10 * x3405.1)))) (fun w' hS' => x_mul rfl rfl)) ?_
         exact DH.relist (listed' := (bma 11 495)) (by kernel_rfl) (hN3450 _ _ ⟨f3349, f3350, rfl, rfl, rfl, hL⟩)
       refine CW.skip ?_
       have hL := hL.cndIn 1 rfl (M.spec_IsTable x2123.1 = some true)
       simp only [lC, lD] at hL
       have hL := hL.rdxIn 2 rfl
       simp only [lC, lD] at hL
       have hL := hL.sel [1, 2, 0, 3, 4, 5, 6, 7] (by decide) rfl
       exact ⟨(x2720.2.1, x2720.2.2, x2123.1.Points, x2123.1.Codes), hm, ⟨v2126, S2125, v2128, S2127, f3349, f3350, hL⟩⟩
     intro s_j3 F3001 wd3002 hJ hm
     unfold M.spec_l26DrawTable_j3 at hm
     obtain ⟨v2997, S2998, v2999, S3000, f3003, f3004, hL⟩ := hJ
     exact ⟨(s_j3.1, s_j3.2.1, s_j3.2.2.1, s_j3.2.2.2), hm, ⟨v2997, S2998, v2999, S3000, f3003, f3004, hL⟩⟩
   intro s_j2 F2715 wd2716 hJ hm
   unfold M.spec_l26DrawTable_j2 at hm
   obtain ⟨v2711, S2712, v2713, S2714, f2717, f2718, hL⟩ := hJ
   refine CSR <| OV (.agg #[(.int .i64 x2123.1.Boats), v2711, v2713]) rfl (x_loadN (cs := [(.int .i64 x2123.1.Boats), v2711, v2713]) U29 Try_T29 rfl f2718 (hL.cellsB 2 rfl (o := 0) (l := [(.int .i64 x2123.1.Boats), v2711, v2713]) (by intro j u hj; exact (by simpa using hj)))) ?_
   refine OW.cons (S_storeN (l := [(.int .i64 x2123.1.Boats), v2711, v2713]) (cs' := #[(.int .i64 x2123.1.Boats), v2711, v2713]) hL 5 rfl Try_T29 f2717 rfl (List.forall_mem_cons.2 ⟨rfl, (List.forall_mem_cons.2 ⟨rdL_one (hL.rdC 0 rfl), (List.forall_mem_cons.2 ⟨rdL_one (hL.rdX 1 rfl), (fun _ h => by cases h)⟩)⟩)⟩) rfl (Nat.le_of_ble_eq_true rfl) rfl ?_)
   intro wd2719 hL
   refine OW.nil <| CW.ret ?_
   obtain rfl := Option.some.inj hm
   exact RRc rfl f2717 (run_loadBlk U29 Try_T29 (hL.get 5 rfl) rfl) ⟨v2711, S2712, v2713, S2714, rfl, hL.mutOut 7 rfl [6, 0, 1] (by decide) (by decide) rfl⟩
 intro s_l1 F3506 wd3507 t2113 hJ hm hr2114
 unfold M.spec_l26DrawTable_l1 at hm
 obtain ⟨S2112, f3508, f3509, f3510, f3511, hL⟩ := hJ
 refine CW.seq <| CSR <| OV (.int .i64 s_l1.2.2.2) rfl (x_mv f3511) <| OV (.pointer (some ⟨b15, 2, none⟩)) rfl (x_fieldAddr (fsz := 1) 0 2 2 U97 rfl Try_T95 rfl f3510 rfl) <| OV v10 rfl (x_load1 U95 rfl rfl (hL.cellB 0 rfl rfl)) <| OV (.int .i64 (s_l1.2.2.1.length : Int)) rfl (x_lenR U95 rfl (hL.rdO 1 rfl)) <| OV (.bool (decide (s_l1.2.2.2 < (s_l1.2.2.1.length : Int)))) rfl (x_lss rfl rfl) <| OW.nil ?_
 refine CW.condM (t := decide (s_l1.2.2.2 < (s_l1.2.2.1.length : Int))) rfl hm (fun hb3512 hm => ?_) (fun hb3512 hm => ?_)
 · refine CW.skip <| CW.seq <| CW.block <| CSR <| OV (.int .i64 0) rfl (x_assign) <| OW.nil ?_
   obtain ⟨o4201, ho4202, hm⟩ := bndE hm
   refine CW.loopB (fun (s_l2 : Int × Int × (List Race) × Int) (F : Fr) (w : World) => ∃ (S4198 : Nat → Prop), F 0 = (.pointer (some ⟨b1, 0, none⟩)) ∧ F 2 = (.pointer (some ⟨b6, 0, none⟩)) ∧ F 3 = (.pointer (some ⟨b15, 0, none⟩)) ∧ F 4 = (.int .i64 s_l1.2.2.2) ∧ F 5 = (.int .i64 s_l2.2.2.2) ∧ Hp w0 [Ent.blk b15 97 #[(.int .i64 x7.1.Boats), (.int .i64 x7.1.Scheme), v10], Ent.own 101 S4198 v10 s_l2.2.2.1, Ent.blk b6 29 #[(.int .i64 0), (.slice none 0 0), (.slice none 0 0)], Ent.blk b1 90 #[v2, (.int .i64 s_l2.1), (.int .i64 s_l2.2.1)], Ent.frz w0 (Ent.blk b1 90 #[v2, .int .i64 a0.at_, .int .i64 a0.seed]).S] w) (fun o => outc o (fun x => some (.ret x)) (fun s => M.spec_l26DrawTable_a2 s_l1 s) = some t2113) ho4202 hm ⟨S2112, f3508, f3509, f3510, f3511, rfl, hL⟩ ?_ ?_
   · intro s_l2 F4203 wd4204 hJ hm
     have hm := outcE hm
     have hm : M.spec_l26DrawTable_a2 s_l1 s_l2 = some t2113 := hm
     unfold M.spec_l26DrawTable_a2 at hm
     obtain ⟨S4198, f4205, f4206, f4207, f4208, f4209, hL⟩ := hJ
     refine CW.regionL <| OV (.int .i64 s_l1.2.2.2) rfl (x_mv f4208) <| OV (.int .i64 (w64 (s_l1.2.2.2 + 1))) rfl (x_add rfl rfl) <| OV (.int .i64 (w64 (s_l1.2.2.2 + 1))) rfl (x_assign) <| OW.nil ?_
     obtain rfl := Option.some.inj hm
     exact ⟨_, rfl, ⟨S4198, f4205, f4206, f4207, rfl, hL⟩⟩
   intro s_l2 F4210 wd4211 t4199 hJ hm hr4200
   unfold M.spec_l26DrawTable_l2 at hm
   obtain ⟨S4198, f4212, f4213, f4214, f4215, f4216, hL⟩ := hJ
   refine CW.seq <| CSR <| OV (.int .i64 s_l2.2.2.2) rfl (x_mv f4216) <| OV (.pointer (some ⟨b15, 2, none⟩)) rfl (x_fieldAddr (fsz := 1) 0 2 2 U97 rfl Try_T95 rfl f4214 rfl) <| OV v10 rfl (x_load1 U95 rfl rfl (hL.cellB 0 rfl rfl)) <| OV (.int .i64 s_l1.2.2.2) rfl (x_mv f4215) ?_
   obtain ⟨wz4217, hL, ho4218⟩ := hL.freeze 1 rfl
   simp only [lC, lD] at hL
   obtain ⟨x4219, ha4220, hm⟩ := bndE hm
   obtain ⟨hz4221, ha4229⟩ := idxE ha4220
   obtain ⟨b4222, q4223, v4224, hix4225, hs4226, hc4227, hr4228⟩ := rdN_at ho4218.1.rdL hz4221 ha4229
   refine OV (.pointer (some ⟨b4222, q4223, none⟩)) rfl (x_ix U95 Try_T101 rfl rfl hix4225) <| OV (.pointer (some ⟨b4222, q4223, none⟩)) rfl (x_fieldAddr (fsz := 1) q4223 0 q4223 U101 rfl Try_T99 rfl rfl rfl) <| OV v4224 rfl (x_load1 U99 rfl rfl (hL.cellF 1 rfl hs4226 hc4227)) <| OV (.int .i64 (x4219.Finishes.length : Int)) rfl (x_lenR U99 rfl (hL.rdF 1 rfl hr4228)) <| OV (.bool (decide (s_l2.2.2.2 < (x4219.Finishes.length : Int)))) rfl (x_lss rfl rfl) <| OW.nil ?_
   refine CW.condM (t := decide (s_l2.2.2.2 < (x4219.Finishes.length : Int))) rfl hm (fun hb4230 hm => ?_) (fun hb4230 hm => ?_)
   · refine CW.skip ?_
     have hL := hL.thaw 1 rfl ho4218
     refine CW.seqJ (fun (s_j5 : Int × Int × (List Race)) (F : Fr) (w : World) => ∃ (S4391 : Nat → Prop), F 0 = (.pointer (some ⟨b1, 0, none⟩)) ∧ F 2 = (.pointer (some ⟨b6, 0, none⟩)) ∧ F 3 = (.pointer (some ⟨b15, 0, none⟩)) ∧ F 4 = (.int .i64 s_l1.2.2.2) ∧ F 5 = (.int .i64 s_l2.2.2.2) ∧ Hp w0 [Ent.blk b15 97 #[(.int .i64 x7.1.Boats), (.int .i64 x7.1.Scheme), v10], Ent.own 101 S4391 v10 s_j5.2.2, Ent.blk b6 29 #[(.int .i64 0), (.slice none 0 0), (.slice none 0 0)], Ent.blk b1 90 #[v2, (.int .i64 s_j5.1), (.int .i64 s_j5.2.1)], Ent.frz w0 (Ent.blk b1 90 #[v2, .int .i64 a0.at_, .int .i64 a0.seed]).S] w) (fun s_j5 => M.spec_l26DrawTable_j5 s_l2 s_j5 = some t4199) ?_ ?_
     · refine CW.blockJ (fun (s_j6 : Int × Int × (List Race)) (F : Fr) (w : World) => ∃ (S4475 : Nat → Prop), F 0 = (.pointer (some ⟨b1, 0, none⟩)) ∧ F 2 = (.pointer (some ⟨b6, 0, none⟩)) ∧ F 3 = (.pointer (some ⟨b15, 0, none⟩)) ∧ F 4 = (.int .i64 s_l1.2.2.2) ∧ F 5 = (.int .i64 s_l2.2.2.2) ∧ Hp w0 [Ent.blk b15 97 #[(.int .i64 x7.1.Boats), (.int .i64 x7.1.Scheme), v10], Ent.own 101 S4475 v10 s_j6.2.2, Ent.blk b6 29 #[(.int .i64 0), (.slice none 0 0), (.slice none 0 0)], Ent.blk b1 90 #[v2, (.int .i64 s_j6.1), (.int .i64 s_j6.2.1)], Ent.frz w0 (Ent.blk b1 90 #[v2, .int .i64 a0.at_, .int .i64 a0.seed]).S] w) (fun s_j6 => M.spec_l26DrawTable_j6 s_l2 s_j6 = some t4199) ?_ ?_
       · refine CSR <| OV (.pointer (some ⟨b15, 2, none⟩)) rfl (x_fieldAddr (fsz := 1) 0 2 2 U97 rfl Try_T95 rfl f4214 rfl) <| OV v10 rfl (x_load1 U95 rfl rfl (hL.cellB 0 rfl rfl)) <| OV (.int .i64 s_l1.2.2.2) rfl (x_mv f4215) ?_
         obtain ⟨wz4483, hL, ho4484⟩ := hL.freeze 1 rfl
         simp only [lC, lD] at hL
         obtain ⟨x4485, ha4486, hm⟩ := bndE hm
         obtain ⟨hz4487, ha4495⟩ := idxE ha4486
         obtain ⟨b4488, q4489, v4490, hix4491, hs4492, hc4493, hr4494⟩ := rdN_at ho4484.1.rdL hz4487 ha4495
         refine OV (.pointer (some ⟨b4488, q4489, none⟩)) rfl (x_ix U95 Try_T101 rfl rfl hix4491) <| OV (.pointer (some ⟨b4488, q4489, none⟩)) rfl (x_fieldAddr (fsz := 1) q4489 0 q4489 U101 rfl Try_T99 rfl rfl rfl) <| OV v4490 rfl (x_load1 U99 rfl rfl (hL.cellF 1 rfl hs4492 hc4493)) <| OV (.int .i64 s_l2.2.2.2) rfl (x_mv f4216) ?_
         obtain ⟨x4496, ha4497, hm⟩ := bndE hm
         obtain ⟨hz4498, ha4502⟩ := idxE ha4497
         obtain ⟨b4499, q4500, hix4501⟩ := rdL_ix (hL.rdF 1 rfl hr4494) hz4498 ha4502
         refine OV (.pointer (some ⟨b4499, q4500, none⟩)) rfl (x_ix U99 Try_T103 rfl rfl hix4501) <| OV (.agg #[(.int .i64 x4496.Boat), (.int .i64 x4496.Code), (.int .i64 x4496.Time)]) rfl (x_loadN (cs := [(.int .i64 x4496.Boat), (.int .i64 x4496.Code), (.int .i64 x4496.Time)]) U103 Try_T103 rfl rfl (rdF_cells (hL.rdF 1 rfl hr4494) hix4501 ha4502)) ?_
         refine OW.cons (S_alloc (cs := #[(.int .i64 0), (.int .i64 0), (.int .i64 0)]) hL Try_T103 rfl rfl ?_)
         intro wd4503 b4504 hL
         refine OW.cons (S_storeN (l := [(.int .i64 x4496.Boat), (.int .i64 x4496.Code), (.int .i64 x4496.Time)]) (cs' := #[(.int .i64 x4496.Boat), (.int .i64 x4496.Code), (.int .i64 x4496.Time)]) hL 0 rfl Try_T103 rfl rfl (List.forall_mem_cons.2 ⟨rfl, (List.forall_mem_cons.2 ⟨rfl, (List.forall_mem_cons.2 ⟨rfl, (fun _ h => by cases h)⟩)⟩)⟩) rfl (Nat.le_of_ble_eq_true rfl) rfl ?_)
         intro wd4505 hL
         refine OW.nil ?_
         have hL := hL.thaw 2 rfl ho4484
         refine CW.seqJ (fun (s_j7 : Int × Int × Bool) (F : Fr) (w : World) => F 0 = (.pointer (some ⟨b1, 0, none⟩)) ∧ F 2 = (.pointer (some ⟨b6, 0, none⟩)) ∧ F 3 = (.pointer (some ⟨b15, 0, none⟩)) ∧ F 4 = (.int .i64 s_l1.2.2.2) ∧ F 5 = (.int .i64 s_l2.2.2.2) ∧ F 6 = (.pointer (some ⟨b4504, 0, none⟩)) ∧ F 47 = (.bool s_j7.2.2) ∧ Hp w0 [Ent.blk b4504 103 #[(.int .i64 x4496.Boat), (.int .i64 x4496.Code), (.int .i64 x4496.Time)], Ent.blk b15 97 #[(.int .i64 x7.1.Boats), (.int .i64 x7.1.Scheme), v10], Ent.own 101 S4198 v10 s_l2.2.2.1, Ent.blk b6 29 #[(.int .i64 0), (.slice none 0 0), (.slice none 0 0)], Ent.blk b1 90 #[v2, (.int .i64 s_j7.1), (.int .i64 s_j7.2.1)], Ent.frz w0 (Ent.blk b1 90 #[v2, .int .i64 a0.at_, .int .i64 a0.seed]).S] w) (fun s_j7 => M.spec_l26DrawTable_j7 s_l1 s_l2 x4496 s_j7 = some t4199) ?_ ?_
         · refine CW.regionL <| OV (.pointer (some ⟨b4504, 1, none⟩)) rfl (x_fieldAddr (fsz := 1) 0 1 1 U103 rfl Try_T2 rfl rfl rfl) <| OV (.int .i64 x4496.Code) rfl (x_load1 U2 rfl rfl (hL.cellB 0 rfl rfl)) <| OV (.bool (x4496.Code == 9)) rfl (x_eql rfl rfl) <| OV (.bool (x4496.Code == 9)) rfl (x_move) ?_
           refine ifB_elim hm (fun hb4553 hm => ?_) (fun hb4553 hm => ?_)
           · refine OW.cons (OP.yes' rfl rfl hb4553 (OP.val (v := (.pointer (some ⟨b1, 0, none⟩))) rfl (x_mv f4212) ?_))
             obtain ⟨x4554, hx4555, hm⟩ := bndE hm
             refine OW.cons (OP.yes' rfl rfl hb4553 (OP.call rfl (x_call (vs := [(.pointer (some ⟨b1, 0, none⟩)), (.int .i64 2)]) Try_C86 ⟨rfl, rfl, trivial⟩) (M.spec_l01Next_ok _ (Src.mk a0.code s_l2.1 s_l2.2.1) (hL.exZ 5 4 (by decide) rfl rfl h3) (hL.get 4 rfl) 2 hx4555) ?_))
             rintro e4556 wd4557 ⟨rfl, hF4558⟩
             refine ⟨_, rfl, ?_⟩
             have hL := hL.mut 4 rfl hF4558
             simp only [lA, lB, lC, lD] at hL
             refine OW.cons (OP.yes' rfl rfl hb4553 (OP.val (v := (.bool (x4554.1 == 0))) rfl (x_eql rfl rfl) ?_))
             refine OV (.bool (x4554.1 == 0)) rfl (x_pickT' rfl hb4553 rfl) <| OW.nil ?_
             exact ⟨(x4554.2.1, x4554.2.2, x4554.1 == 0), hm, ⟨f4212, f4213, f4214, f4215, f4216, rfl, rfl, hL⟩⟩
           refine OW.cons (OP.no' rfl rfl hb4553 rfl ?_)
           refine OW.cons (OP.no' rfl rfl hb4553 rfl ?_)
           refine OW.cons (OP.no' rfl rfl hb4553 rfl ?_)
           refine OV (.bool false) rfl (x_pickF' rfl hb4553 rfl) <| OW.nil ?_
           exact ⟨(s_l2.1, s_l2.2.1, false), hm, ⟨f4212, f4213, f4214, f4215, f4216, rfl, rfl, hL⟩⟩
         intro s_j7 F4512 wd4513 hJ hm
         unfold M.spec_l26DrawTable_j7 at hm
         obtain ⟨f4514, f4515, f4516, f4517, f4518, f4519, f4520, hL⟩ := hJ
         refine CW.condM (t := s_j7.2.2) f4520 hm (fun hb4521 hm => ?_) (fun hb4521 hm => ?_)
         · obtain ⟨wz4522, hL, ho4523⟩ := hL.freeze 2 rfl
           simp only [lC, lD] at hL
           refine CW.draw Try_mixed ?_
           have hL := hL.call (Mod.drew _)
           refine DW.pre (fuel := 1) (fin := bma 12 2047) (C := fun w' => Mod None_ _ w') [0, 1, 2, 3, 4, 5, 6, 7, 8, 9, 10] (Mod.refl _ _) (by kernel_rfl) (by kernel_rfl) ?_
           refine QV (.pointer (some ⟨b15, 2, none⟩)) rfl rfl (fun w' hm' => x_fieldAddr (fsz := 1) 0 2 2 U97 rfl Try_T95 rfl f4516 rfl) <| QV v10 rfl rfl (fun w' hm' => x_load1 U95 rfl rfl ((hL.call hm').cellB 1 rfl rfl)) <| QV (.int .i64 s_l1.2.2.2) rfl rfl (fun w' hm' => x_mv f4517) ?_
           obtain ⟨x4524, ha4525, hm⟩ := bndE hm
           obtain ⟨hz4526, ha4534⟩ := idxE ha4525
           obtain ⟨b4527, q4528, v4529, hix4530, hs4531, hc4532, hr4533⟩ := rdN_at ho4523.1.rdL hz4526 ha4534
           refine QV (.pointer (some ⟨b4527, q4528, none⟩)) rfl rfl (fun w' hm' => x_ix U95 Try_T101 rfl rfl hix4530) <| QV (.pointer (some ⟨b4527, q4528, none⟩)) rfl rfl (fun w' hm' => x_fieldAddr (fsz := 1) q4528 0 q4528 U101 rfl Try_T99 rfl rfl rfl) <| QV v4529 rfl rfl (fun w' hm' => x_load1 U99 rfl rfl ((hL.call hm').cellF 2 rfl hs4531 hc4532)) <| QV (.int .i64 s_l2.2.2.2) rfl rfl (fun w' hm' => x_mv f4518) <| QV (.pointer (some ⟨b4504, 0, none⟩)) rfl rfl (fun w' hm' => x_fieldAddr (fsz := 1) 0 0 0 U103 rfl Try_T2 rfl f4519 rfl) <| QV (.int .i64 x4496.Boat) rfl rfl (fun w' hm' => x_load1 U2 rfl rfl ((hL.call hm').cellB 0 rfl rfl)) <| QV (.agg #[(.int .i64 x4496.Boat), (.int .i64 4), (.int .i64 0)]) rfl rfl (fun w' hm' => x_build Try_B103 (ps := [(0, (.int .i64 x4496.Boat)), (1, (.int .i64 4))]) ⟨⟨rfl, rfl⟩, ⟨rfl, rfl⟩, trivial⟩ (by simp [Instr.fill, cells_int, cells_bool, cells_string, cells_agg, cells_slice, cells_pointer])) ?_
           obtain ⟨x4535, ha4536, hm⟩ := bndE hm
           obtain ⟨hz4537, ha4541⟩ := idxE ha4536
           obtain ⟨b4538, q4539, hix4540⟩ := rdL_ix (hL.rdF 2 rfl hr4533) hz4537 ha4541
           refine QV (.pointer (some ⟨b4538, q4539, none⟩)) rfl rfl (fun w' hm' => x_ix U99 Try_T103 rfl rfl hix4540) ?_
           refine QW.nil ?_
           intro wd4542 hmod
           have hL := hL.call hmod
           have hc4544 := hL.cellF 2 rfl hs4531 hc4532
           have hL := hL.thaw 2 rfl ho4523
           simp only [lC, lD] at hL
           refine DW.only 11 rfl (by kernel_rfl) (S_inRowC (α := Finish) (x4524.Finishes.set (s_l2.2.2.2 : Int).toNat (Finish.mk x4496.Boat 4 0)) (Race.mk (x4524.Finishes.set (s_l2.2.2.2 : Int).toNat (Finish.mk x4496.Boat 4 0))) rfl hL 2 rfl hix4530 ha4534 hc4544 (fun E2 S1 hL hK => S_storeXN (l := [(.int .i64 x4496.Boat), (.int .i64 4), (.int .i64 0)]) (Finish.mk x4496.Boat 4 0) hL 0 rfl Try_T103 hix4540 ha4541 rfl rfl rfl hK) ?_)
           intro wd4543 S4545 hL hc4546 ha4547
           simp only [lC, lD] at hL
           obtain ⟨wz4548, hL, ho4549, hs4550, hc4551, hr4552⟩ := hL.freezeAt (α := Finish) 2 rfl hix4530 ha4547 hc4546
           simp only [lC, lD] at hL
           refine DW.done (by kernel_rfl) ?_
           have hL := hL.thaw 2 rfl ho4549
           have hL := hL.sel [1, 2, 3, 4, 5] (by decide) rfl
           exact ⟨(s_j7.1, s_j7.2.1, s_l2.2.2.1.set (s_l1.2.2.2 : Int).toNat (Race.mk (x4524.Finishes.set (s_l2.2.2.2 : Int).toNat (Finish.mk x4496.Boat 4 0)))), hm, ⟨S4545, f4514, f4515, f4516, f4517, f4518, hL⟩⟩
         refine CW.skip ?_
         have hL := hL.sel [1, 2, 3, 4, 5] (by decide) rfl
         exact ⟨(s_j7.1, s_j7.2.1, s_l2.2.2.1), hm, ⟨S4198, f4514, f4515, f4516, f4517, f4518, hL⟩⟩
       intro s_j6 F4476 wd4477 hJ hm
       unfold M.spec_l26DrawTable_j6 at hm
       obtain ⟨S4475, f4478, f4479, f4480, f4481, f4482, hL⟩ := hJ
       exact ⟨(s_j6.1, s_j6.2.1, s_j6.2.2), hm, ⟨S4475, f4478, f4479, f4480, f4481, f4482, hL⟩⟩
     intro s_j5 F4392 wd4393 hJ hm
     unfold M.spec_l26DrawTable_j5 at hm
     obtain ⟨S4391, f4394, f4395, f4396, f4397, f4398, hL⟩ := hJ
     refine CW.regionL <| OV (.int .i64 s_l2.2.2.2) rfl (x_mv f4398) <| OV (.int .i64 (w64 (s_l2.2.2.2 + 1))) rfl (x_add rfl rfl) <| OV (.int .i64 (w64 (s_l2.2.2.2 + 1))) rfl (x_assign) <| OW.nil ?_
     obtain rfl := Option.some.inj hm
     exact ⟨_, rfl, ⟨S4391, f4394, f4395, f4396, f4397, rfl, hL⟩⟩
   refine CW.exit ?_
   refine XJ.hit ?_
   have hL := hL.thaw 1 rfl ho4218
   obtain rfl := Option.some.inj hm
   exact ⟨_, rfl, ⟨S4198, f4212, f4213, f4214, f4215, f4216, hL⟩⟩
 refine CW.exit ?_
 refine XJ.hit ?_
 obtain rfl := Option.some.inj hm
 exact ⟨_, rfl, ⟨S2112, f3508, f3509, f3510, f3511, hL⟩⟩

theorem M.spec_l27DrawRule_ok (w0 : World) {b1 : Nat} {v2 : Value} (a0 : Src) (h3 : rdL (fun k => k < w0.heap.size ∧ ¬ (Ent.blk b1 90 #[v2, .int .i64 a0.at_, .int .i64 a0.seed]).S k) w0 v2 a0.code) (he4 : (Ent.blk b1 90 #[v2, .int .i64 a0.at_, .int .i64 a0.seed]).H w0) {r : ((List Int)) × (Int × Int)} (hm : M.spec_l27DrawRule a0 = some r) :
    Calls Try.prog 85 #[(.pointer (some ⟨b1, 0, none⟩))] w0 fun e w' => ∃ (rv0 : Value) (rS0 : Nat → Prop), e = .returned rv0 ∧ Mut w0 w' (Ent.blk b1 90 #[v2, .int .i64 a0.at_, .int .i64 a0.seed]).S [Ent.blk b1 90 #[v2, .int .i64 r.2.1, .int .i64 r.2.2], Ent.own 2 rS0 rv0 r.1] := by
 unfold M.spec_l27DrawRule at hm
 refine calls_CW (args := [(.pointer (some ⟨b1, 0, none⟩))]) Try.func85 rfl rfl rfl ?_
 have hL := Hp.startIO he4
 refine CSR <| OV (.slice none 0 0) rfl (x_assign) <| ONR ?_
 refine OW.cons (S_lit ([] : List Int) hL U25 Try_T2 rfl (by decide) (by first | (simp [Instr.fill, madeCells, Value.cells, ev, upd, Flat.enc, Flat.sz]; done) | rfl | kernel_rfl) rfl rfl ?_)
 intro wd5 v6 S7 hL
 refine OV v6 rfl (x_assign) <| ONR <| OV (.int .i64 0) rfl (x_assign) <| ONS <| CSR <| OV (.pointer (some ⟨b1, 0, none⟩)) rfl (x_move) ?_
 obtain ⟨x8, hx9, hm⟩ := bndE hm
 refine OW.cons (OP.call rfl (x_call (vs := [(.pointer (some ⟨b1, 0, none⟩)), (.int .i64 4)]) Try_C86 ⟨rfl, rfl, trivial⟩) (M.spec_l01Next_ok _ (Src.mk a0.code a0.at_ a0.seed) (hL.exZ 2 1 (by decide) rfl rfl h3) (hL.get 1 rfl) 4 hx9) ?_)
 rintro e10 wd11 ⟨rfl, hF12⟩
 refine ⟨_, rfl, ?_⟩
 have hL := hL.mut 1 rfl hF12
 simp only [lA, lB, lC, lD] at hL
 refine OV (.int .i64 x8.1) rfl (x_assign) <| OW.nil ?_
 obtain ⟨o45, ho46, hm⟩ := bndE hm
 refine CW.loopB (fun (s_l1 : Int × Int × (List Int) × Int × Int) (F : Fr) (w : World) => ∃ (v41 : Value) (S42 : Nat → Prop), F 0 = (.pointer (some ⟨b1, 0, none⟩)) ∧ F 3 = v41 ∧ F 4 = (.int .i64 s_l1.2.2.2.1) ∧ F 5 = (.int .i64 s_l1.2.2.2.2) ∧ Hp w0 [Ent.own 2 S42 v41 s_l1.2.2.1, Ent.blk b1 90 #[v2, (.int .i64 s_l1.1), (.int .i64 s_l1.2.1)], Ent.frz w0 (Ent.blk b1 90 #[v2, .int .i64 a0.at_, .int .i64 a0.seed]).S] w) (fun o => outc o (fun x => some x) (fun s => M.spec_l27DrawRule_a1 a0 s) = some r) ho46 hm ⟨v6, S7, rfl, rfl, rfl, rfl, hL⟩ ?_ ?_
 · intro s_l1 F47 wd48 hJ hm
   have hm := outcE hm
   have hm : M.spec_l27DrawRule_a1 a0 s_l1 = some r := hm
   unfold M.spec_l27DrawRule_a1 at hm
   obtain ⟨v41, S42, f49, f50, f51, f52, hL⟩ := hJ
   refine CW.seq <| CSR <| OV (.pointer (some ⟨b1, 0, none⟩)) rfl (x_mv f49) ?_
   obtain ⟨x53, hx54, hm⟩ := bndE hm
   refine OW.cons (OP.call rfl (x_call (vs := [(.pointer (some ⟨b1, 0, none⟩)), (.int .i64 30)]) Try_C86 ⟨rfl, rfl, trivial⟩) (M.spec_l01Next_ok _ (Src.mk a0.code s_l1.1 s_l1.2.1) (hL.exZ 2 1 (by decide) rfl rfl h3) (hL.get 1 rfl) 30 hx54) ?_)
   rintro e55 wd56 ⟨rfl, hF57⟩
   refine ⟨_, rfl, ?_⟩
   have hL := hL.mut 1 rfl hF57
   simp only [lA, lB, lC, lD] at hL
   refine OW.nil <| CW.block <| CSR <| OV (.bool (x53.1 == 0)) rfl (x_eql rfl rfl) <| OV (.bool (x53.1 == 0)) rfl (x_assign) <| OW.nil ?_
   refine CW.condM (t := x53.1 == 0) rfl hm (fun hb58 hm => ?_) (fun hb58 hm => ?_)
   · refine CSR <| OV v41 rfl (x_mv f50) <| OV (.int .i64 s_l1.2.2.2.1) rfl (x_mv f51) ?_
     refine OW.cons (S_lit ([s_l1.2.2.2.1] : List Int) hL U25 Try_T2 rfl (by decide) (by first | (simp [Instr.fill, madeCells, Value.cells, ev, upd, Flat.enc, Flat.sz]; done) | rfl | kernel_rfl) rfl rfl ?_)
     intro wd59 v60 S61 hL
     obtain ⟨hc65, hm⟩ := chkE hm
     refine OW.cons (S_append (ys := ([s_l1.2.2.2.1] : List Int)) hL 1 rfl U25 Try_T2 rfl rfl rfl (hL.rdO 0 rfl) hc65 (by decide) rfl ?_)
     intro wd62 v63 S64 hL
     refine OV v63 rfl (x_assign) <| OW.nil <| CW.ret ?_
     obtain rfl := Option.some.inj hm
     exact RR1 rfl rfl ⟨v63, S64, rfl, hL.mutOut 3 rfl [2, 1] (by decide) (by decide) rfl⟩
   refine CSR <| OV (.bool (x53.1 == 1)) rfl (x_eql rfl rfl) <| OV (.bool (x53.1 == 1)) rfl (x_assign) <| OW.nil ?_
   refine CW.condM (t := x53.1 == 1) rfl hm (fun hb66 hm => ?_) (fun hb66 hm => ?_)
   · refine CSR <| OV (.pointer (some ⟨b1, 0, none⟩)) rfl (x_mv f49) ?_
     obtain ⟨x67, hx68, hm⟩ := bndE hm
     refine OW.cons (OP.call rfl (x_call (vs := [(.pointer (some ⟨b1, 0, none⟩)), (.int .i64 2)]) Try_C86 ⟨rfl, rfl, trivial⟩) (M.spec_l01Next_ok _ (Src.mk a0.code x53.2.1 x53.2.2) (hL.exZ 2 1 (by decide) rfl rfl h3) (hL.get 1 rfl) 2 hx68) ?_)
     rintro e69 wd70 ⟨rfl, hF71⟩
     refine ⟨_, rfl, ?_⟩
     have hL := hL.mut 1 rfl hF71
     simp only [lA, lB, lC, lD] at hL
     refine OV (.int .i64 (w64 (13 * x67.1))) rfl (x_mul rfl rfl) ?_
     refine OW.cons (S_lit ([w64 (13 * x67.1)] : List Int) hL U25 Try_T2 rfl (by decide) (by first | (simp [Instr.fill, madeCells, Value.cells, ev, upd, Flat.enc, Flat.sz]; done) | rfl | kernel_rfl) rfl rfl ?_)
     intro wd72 v73 S74 hL
     refine OV v73 rfl (x_assign) <| OW.nil <| CW.ret ?_
     obtain rfl := Option.some.inj hm
     exact RR1 rfl rfl ⟨v73, S74, rfl, hL.mutOut 3 rfl [2, 0] (by decide) (by decide) rfl⟩
   refine CSR <| OV (.bool (x53.1 == 2)) rfl (x_eql rfl rfl) <| OV (.bool (x53.1 == 2)) rfl (x_assign) <| OW.nil ?_
   refine CW.condM (t := x53.1 == 2) rfl hm (fun hb75 hm => ?_) (fun hb75 hm => ?_)
   · refine CSR ?_
     refine OW.cons (S_lit ([1, 2, 3, 4] : List Int) hL U25 Try_T2 rfl (by decide) (by first | (simp [Instr.fill, madeCells, Value.cells, ev, upd, Flat.enc, Flat.sz]; done) | rfl | kernel_rfl) rfl rfl ?_)
     intro wd76 v77 S78 hL
     refine OV v77 rfl (x_assign) <| OW.nil <| CW.ret ?_
     obtain rfl := Option.some.inj hm
     exact RR1 rfl rfl ⟨v77, S78, rfl, hL.mutOut 3 rfl [2, 0] (by decide) (by decide) rfl⟩
   refine CW.skip <| CSR <| OV v41 rfl (x_mv f50) <| OV v41 rfl (x_assign) <| OW.nil <| CW.ret ?_
   obtain rfl := Option.some.inj hm
   exact RR1 rfl rfl ⟨v41, S42, rfl, hL.mutOut 2 rfl [1, 0] (by decide) (by decide) rfl⟩
 intro s_l1 F79 wd80 t43 hJ hm hr44
 unfold M.spec_l27DrawRule_l1 at hm
 obtain ⟨v41, S42, f81, f82, f83, f84, hL⟩ := hJ
 refine CW.seq <| CSR <| OV (.int .i64 s_l1.2.2.2.2) rfl (x_mv f84) <| OV (.bool (decide (0 < s_l1.2.2.2.2))) rfl (x_gtr rfl rfl) <| OW.nil ?_
 refine CW.condM (t := decide (0 < s_l1.2.2.2.2)) rfl hm (fun hb85 hm => ?_) (fun hb85 hm => ?_)
 · refine CW.skip <| CW.seq <| CW.block <| CSR <| OV (.int .i64 s_l1.2.2.2.1) rfl (x_mv f83) <| OV (.int .i64 (w64 (s_l1.2.2.2.1 + 1))) rfl (x_add rfl rfl) <| OV (.pointer (some ⟨b1, 0, none⟩)) rfl (x_mv f81) ?_
   obtain ⟨x86, hx87, hm⟩ := bndE hm
   refine OW.cons (OP.call rfl (x_call (vs := [(.pointer (some ⟨b1, 0, none⟩)), (.int .i64 4)]) Try_C86 ⟨rfl, rfl, trivial⟩) (M.spec_l01Next_ok _ (Src.mk a0.code s_l1.1 s_l1.2.1) (hL.exZ 2 1 (by decide) rfl rfl h3) (hL.get 1 rfl) 4 hx87) ?_)
   rintro e88 wd89 ⟨rfl, hF90⟩
   refine ⟨_, rfl, ?_⟩
   have hL := hL.mut 1 rfl hF90
   simp only [lA, lB, lC, lD] at hL
   refine OV (.int .i64 (w64 ((w64 (s_l1.2.2.2.1 + 1)) + x86.1))) rfl (x_add rfl rfl) <| OV (.int .i64 (w64 ((w64 (s_l1.2.2.2.1 + 1)) + x86.1))) rfl (x_assign) <| OW.nil <| CW.regionL <| OV v41 rfl (x_mv f82) <| OV (.int .i64 (w64 ((w64 (s_l1.2.2.2.1 + 1)) + x86.1))) rfl (x_move) ?_
   refine OW.cons (S_lit ([w64 ((w64 (s_l1.2.2.2.1 + 1)) + x86.1)] : List Int) hL U25 Try_T2 rfl (by decide) (by first | (simp [Instr.fill, madeCells, Value.cells, ev, upd, Flat.enc, Flat.sz]; done) | rfl | kernel_rfl) rfl rfl ?_)
   intro wd91 v92 S93 hL
   obtain ⟨hc97, hm⟩ := chkE hm
   refine OW.cons (S_append (ys := ([w64 ((w64 (s_l1.2.2.2.1 + 1)) + x86.1)] : List Int)) hL 1 rfl U25 Try_T2 rfl rfl rfl (hL.rdO 0 rfl) hc97 (by decide) rfl ?_)
   intro wd94 v95 S96 hL
   refine OV v95 rfl (x_assign) <| OW.nil <| CW.regionL <| OV (.int .i64 s_l1.2.2.2.2) rfl (x_mv f84) <| OV (.int .i64 (w64 (s_l1.2.2.2.2 - 1))) rfl (x_sub rfl rfl) <| OV (.int .i64 (w64 (s_l1.2.2.2.2 - 1))) rfl (x_assign) <| OW.nil ?_
   have hL := hL.sel [1, 2, 3] (by decide) rfl
   obtain rfl := Option.some.inj hm
   exact ⟨_, rfl, ⟨v95, S96, f81, rfl, rfl, rfl, hL⟩⟩
 refine CW.exit ?_
 refine XJ.hit ?_
 obtain rfl := Option.some.inj hm
 exact ⟨_, rfl, ⟨v41, S42, f81, f82, f83, f84, hL⟩⟩

theorem M.spec_l27DrawBoat_ok (w0 : World) {b1 : Nat} {v2 : Value} (a0 : Src) (h3 : rdL (fun k => k < w0.heap.size ∧ ¬ (Ent.blk b1 90 #[v2, .int .i64 a0.at_, .int .i64 a0.seed]).S k) w0 v2 a0.code) (he4 : (Ent.blk b1 90 #[v2, .int .i64 a0.at_, .int .i64 a0.seed]).H w0) (a1 : Table) {v5 : Value} {v7 : Value} (h6 : rdL (fun k => k < w0.heap.size ∧ ¬ (Ent.blk b1 90 #[v2, .int .i64 a0.at_, .int .i64 a0.seed]).S k) w0 v5 a1.Points) (h8 : rdL (fun k => k < w0.heap.size ∧ ¬ (Ent.blk b1 90 #[v2, .int .i64 a0.at_, .int .i64 a0.seed]).S k) w0 v7 a1.Codes) {r : (Int) × (Int × Int)} (hm : M.spec_l27DrawBoat a0 a1 = some r) :
    Calls Try.prog 105 #[(.pointer (some ⟨b1, 0, none⟩)), (.agg #[(.int .i64 a1.Boats), v5, v7])] w0 fun e w' => e = .returned (.int .i64 r.1) ∧ Mut w0 w' (Ent.blk b1 90 #[v2, .int .i64 a0.at_, .int .i64 a0.seed]).S [Ent.blk b1 90 #[v2, .int .i64 r.2.1, .int .i64 r.2.2]] := by
 unfold M.spec_l27DrawBoat at hm
 refine calls_CW (args := [(.pointer (some ⟨b1, 0, none⟩)), (.agg #[(.int .i64 a1.Boats), v5, v7])]) Try.func105 rfl rfl rfl ?_
 have hL := Hp.startIO he4
 refine CSR ?_
 refine OW.cons (S_box (cs := #[(.int .i64 a1.Boats), v5, v7]) hL rfl rfl rfl ?_)
 intro wd9 b10 hL
 refine OV (.int .i64 0) rfl (x_assign) <| ONS <| CSR <| OV (.pointer (some ⟨b1, 0, none⟩)) rfl (x_move) ?_
 obtain ⟨x11, hx12, hm⟩ := bndE hm
 refine OW.cons (OP.call rfl (x_call (vs := [(.pointer (some ⟨b1, 0, none⟩)), (.int .i64 24)]) Try_C86 ⟨rfl, rfl, trivial⟩) (M.spec_l01Next_ok _ (Src.mk a0.code a0.at_ a0.seed) (hL.exZ 2 1 (by decide) rfl rfl h3) (hL.get 1 rfl) 24 hx12) ?_)
 rintro e13 wd14 ⟨rfl, hF15⟩
 refine ⟨_, rfl, ?_⟩
 have hL := hL.mut 1 rfl hF15
 simp only [lA, lB, lC, lD] at hL
 refine OV (.bool (x11.1 == 0)) rfl (x_eql rfl rfl) <| OW.nil ?_
 refine CW.condM (t := x11.1 == 0) rfl hm (fun hb16 hm => ?_) (fun hb16 hm => ?_)
 · refine CW.seq ?_
   refine CW.drawH (fun w' => Hp w0 [Ent.blk b10 29 #[(.int .i64 a1.Boats), v5, v7], Ent.frz w0 (Ent.blk b1 90 #[v2, .int .i64 a0.at_, .int .i64 a0.seed]).S] w') Try_mixed ?_
   have hL := hL.call (Mod.drew _)
   have hS := (hL.sel [0, 2] (by decide) rfl)
   refine DH.take 0 rfl (by kernel_rfl) (by kernel_rfl) (by kernel_rfl) rfl rfl hS (YH.val (v := (.pointer (some ⟨b10, 0, none⟩))) (fun w' hS' => x_fieldAddr (fsz := 1) 0 0 0 U29 rfl Try_T2 rfl rfl rfl)) ?_
   have hS := (hL.sel [0, 2] (by decide) rfl)
   refine DH.take 1 rfl (by kernel_rfl) (by kernel_rfl) (by kernel_rfl) rfl rfl hS (YH.val (v := (.int .i64 a1.Boats)) (fun w' hS' => x_load1 U2 rfl rfl (hS'.cellB 0 rfl rfl))) ?_
   have hS := (hL.sel [0, 2] (by decide) rfl)
   refine DH.take 2 rfl (by kernel_rfl) (by kernel_rfl) (by kernel_rfl) rfl rfl hS (YH.val (v := (.pointer (some ⟨b10, 0, none⟩))) (fun w' hS' => x_fieldAddr (fsz := 1) 0 0 0 U29 rfl Try_T2 rfl rfl rfl)) ?_
   have hS := (hL.sel [0, 2] (by decide) rfl)
   refine DH.take 3 rfl (by kernel_rfl) (by kernel_rfl) (by kernel_rfl) rfl rfl hS (YH.val (v := (.int .i64 a1.Boats)) (fun w' hS' => x_load1 U2 rfl rfl (hS'.cellB 0 rfl rfl))) ?_
   have hS := (hL.sel [0, 2] (by decide) rfl)
   refine DH.take 4 rfl (by kernel_rfl) (by kernel_rfl) (by kernel_rfl) rfl rfl hS (YH.val (v := (.int .i64 (w64 (a1.Boats + 1)))) (fun w' hS' => x_add rfl rfl)) ?_
   have hS := (hL.sel [0, 2] (by decide) rfl)
   refine DH.take 5 rfl (by kernel_rfl) (by kernel_rfl) (by kernel_rfl) rfl rfl hS (YH.val (v := (.pointer (some ⟨b1, 0, none⟩))) (fun w' hS' => x_move)) ?_
   obtain ⟨x22, hx23, hm⟩ := bndE hm
   refine DH.only 6 rfl (by kernel_rfl) (OP.call rfl (x_call (vs := [(.pointer (some ⟨b1, 0, none⟩)), (.int .i64 2)]) Try_C86 ⟨rfl, rfl, trivial⟩) (M.spec_l01Next_ok _ (Src.mk a0.code x11.2.1 x11.2.2) (hL.exZ 2 1 (by decide) rfl rfl h3) (hL.get 1 rfl) 2 hx23) ?_)
   rintro e24 wd25 ⟨rfl, hF26⟩
   refine ⟨_, rfl, ?_⟩
   have hL := hL.mut 1 rfl hF26
   simp only [lA, lB, lC, lD] at hL
   refine ⟨(hL.sel [0, 2] (by decide) rfl), ?_⟩
   have hS := (hL.sel [0, 2] (by decide) rfl)
   refine DH.take 7 rfl (by kernel_rfl) (by kernel_rfl) (by kernel_rfl) rfl rfl hS (YH.val (v := (.int .i64 (w64 ((w64 (a1.Boats + 1)) * x22.1)))) (fun w' hS' => x_mul rfl rfl)) ?_
   have hS := (hL.sel [0, 2] (by decide) rfl)
   refine DH.take 8 rfl (by kernel_rfl) (by kernel_rfl) (by kernel_rfl) rfl rfl hS (YH.val (v := (.int .i64 (w64 (a1.Boats - (w64 ((w64 (a1.Boats + 1)) * x22.1)))))) (fun w' hS' => x_sub rfl rfl)) ?_
   have hS := (hL.sel [0, 2] (by decide) rfl)
   refine DH.take 9 rfl (by kernel_rfl) (by kernel_rfl) (by kernel_rfl) rfl rfl hS (YH.val (v := (.int .i64 (w64 (a1.Boats - (w64 ((w64 (a1.Boats + 1)) * x22.1)))))) (fun w' hS' => x_assign)) ?_
   refine DH.done (by kernel_rfl) ?_
   refine CW.ret ?_
   obtain rfl := Option.some.inj hm
   exact RR1 rfl rfl ⟨rfl, hL.mutOut 2 rfl [1] (by decide) (by decide) rfl⟩
 refine CW.skip <| CSR <| OV (.pointer (some ⟨b1, 0, none⟩)) rfl (x_move) <| OV (.pointer (some ⟨b10, 0, none⟩)) rfl (x_fieldAddr (fsz := 1) 0 0 0 U29 rfl Try_T2 rfl rfl rfl) <| OV (.int .i64 a1.Boats) rfl (x_load1 U2 rfl rfl (hL.cellB 0 rfl rfl)) <| OV (.int .i64 (max 1 a1.Boats)) rfl (x_max2 rfl rfl) ?_
 obtain ⟨x27, hx28, hm⟩ := bndE hm
 refine OW.cons (OP.call rfl (x_call (vs := [(.pointer (some ⟨b1, 0, none⟩)), (.int .i64 (max 1 a1.Boats))]) Try_C86 ⟨rfl, rfl, trivial⟩) (M.spec_l01Next_ok _ (Src.mk a0.code x11.2.1 x11.2.2) (hL.exZ 2 1 (by decide) rfl rfl h3) (hL.get 1 rfl) (max 1 a1.Boats) hx28) ?_)
 rintro e29 wd30 ⟨rfl, hF31⟩
 refine ⟨_, rfl, ?_⟩
 have hL := hL.mut 1 rfl hF31
 simp only [lA, lB, lC, lD] at hL
 refine OV (.int .i64 x27.1) rfl (x_assign) <| OW.nil <| CW.ret ?_
 obtain rfl := Option.some.inj hm
 exact RR1 rfl rfl ⟨rfl, hL.mutOut 2 rfl [1] (by decide) (by decide) rfl⟩

theorem M.laws_likeInts_ok (w0 : World) (a0 : List Int) {v1 : Value} (h2 : rdL (· < w0.heap.size) w0 v1 a0) (a1 : List Int) {v3 : Value} (h4 : rdL (· < w0.heap.size) w0 v3 a1) {r : Bool} (hm : M.laws_likeInts a0 a1 = some r) :
    Calls Try.prog 40 #[v1, v3] w0 fun e w' => e = .returned (.bool r) ∧ Fresh w0 w' [] := by
 unfold M.laws_likeInts at hm
 refine calls_CW (args := [v1, v3]) Try.func40 rfl rfl rfl ?_
 have hL := Hp.start w0
 refine CSR <| OV (.bool false) rfl (x_assign) <| ONS <| CSR <| OV v1 rfl (x_move) <| OV (.int .i64 (a0.length : Int)) rfl (x_lenR U25 rfl (hL.rdS 0 rfl h2)) <| OV v3 rfl (x_move) <| OV (.int .i64 (a1.length : Int)) rfl (x_lenR U25 rfl (hL.rdS 0 rfl h4)) <| OV (.bool ((a0.length : Int) != (a1.length : Int))) rfl (x_neq rfl rfl) <| OW.nil ?_
 refine CW.condM (t := (a0.length : Int) != (a1.length : Int)) rfl hm (fun hb5 hm => ?_) (fun hb5 hm => ?_)
 · refine CSR <| OV (.bool false) rfl (x_assign) <| OW.nil <| CW.ret ?_
   obtain rfl := Option.some.inj hm
   exact RR1 rfl rfl ⟨rfl, hL.fresh 0 rfl [] (by decide) (by decide) rfl⟩
 refine CW.skip <| CW.seq <| CSR <| OV (.int .i64 0) rfl (x_assign) <| OW.nil ?_
 obtain ⟨o42, ho43, hm⟩ := bndE hm
 refine CW.loopB (fun (s_l1 : Int) (F : Fr) (w : World) => F 0 = v1 ∧ F 1 = v3 ∧ F 5 = (.int .i64 s_l1) ∧ Hp w0 [Ent.snap w0 w0.heap.size] w) (fun o => outc o (fun x => some x) (fun s => M.laws_likeInts_a1 s) = some r) ho43 hm ⟨rfl, rfl, rfl, hL⟩ ?_ ?_
 · intro s_l1 F44 wd45 hJ hm
   have hm := outcE hm
   have hm : M.laws_likeInts_a1 s_l1 = some r := hm
   unfold M.laws_likeInts_a1 at hm
   obtain ⟨f46, f47, f48, hL⟩ := hJ
   refine CSR <| OV (.bool true) rfl (x_assign) <| OW.nil <| CW.ret ?_
   obtain rfl := Option.some.inj hm
   exact RR1 rfl rfl ⟨rfl, hL.fresh 0 rfl [] (by decide) (by decide) rfl⟩
 intro s_l1 F49 wd50 t40 hJ hm hr41
 unfold M.laws_likeInts_l1 at hm
 obtain ⟨f51, f52, f53, hL⟩ := hJ
 refine CW.seq <| CSR <| OV (.int .i64 s_l1) rfl (x_mv f53) <| OV v1 rfl (x_mv f51) <| OV (.int .i64 (a0.length : Int)) rfl (x_lenR U25 rfl (hL.rdS 0 rfl h2)) <| OV (.bool (decide (s_l1 < (a0.length : Int)))) rfl (x_lss rfl rfl) <| OW.nil ?_
 refine CW.condM (t := decide (s_l1 < (a0.length : Int))) rfl hm (fun hb54 hm => ?_) (fun hb54 hm => ?_)
 · refine CW.skip <| CW.seq <| CW.block <| CW.seq ?_
   refine CW.draw Try_mixed ?_
   have hL := hL.call (Mod.drew _)
   refine DW.pre (fuel := 0) (fin := bma 9 511) (C := fun w' => Mod None_ _ w') [0, 1, 2, 3, 4, 5, 6, 7, 8] (Mod.refl _ _) (by kernel_rfl) (by kernel_rfl) ?_
   refine QV v1 rfl rfl (fun w' hm' => x_mv f51) <| QV (.int .i64 s_l1) rfl rfl (fun w' hm' => x_mv f53) ?_
   obtain ⟨x55, ha56, hm⟩ := bndE hm
   obtain ⟨hz57, ha61⟩ := idxE ha56
   obtain ⟨b58, q59, hix60⟩ := rdL_ix (hL.rdS 0 rfl h2) hz57 ha61
   refine QV (.pointer (some ⟨b58, q59, none⟩)) rfl rfl (fun w' hm' => x_ix U25 Try_T2 rfl rfl hix60) <| QV (.int .i64 x55) rfl rfl (fun w' hm' => x_load1 U2 rfl rfl (rdF_cells ((hL.call hm').rdS 0 rfl h2) hix60 ha61 0 _ rfl)) <| QV v3 rfl rfl (fun w' hm' => x_mv f52) <| QV (.int .i64 s_l1) rfl rfl (fun w' hm' => x_mv f53) ?_
   obtain ⟨x62, ha63, hm⟩ := bndE hm
   obtain ⟨hz64, ha68⟩ := idxE ha63
   obtain ⟨b65, q66, hix67⟩ := rdL_ix (hL.rdS 0 rfl h4) hz64 ha68
   refine QV (.pointer (some ⟨b65, q66, none⟩)) rfl rfl (fun w' hm' => x_ix U25 Try_T2 rfl rfl hix67) <| QV (.int .i64 x62) rfl rfl (fun w' hm' => x_load1 U2 rfl rfl (rdF_cells ((hL.call hm').rdS 0 rfl h4) hix67 ha68 0 _ rfl)) <| QV (.bool (x55 != x62)) rfl rfl (fun w' hm' => x_neq rfl rfl) ?_
   refine QW.nil ?_
   intro wd69 hmod
   have hL := hL.call hmod
   refine DW.done (by kernel_rfl) ?_
   refine CW.condM (t := x55 != x62) rfl hm (fun hb70 hm => ?_) (fun hb70 hm => ?_)
   · refine CSR <| OV (.bool false) rfl (x_assign) <| OW.nil <| CW.ret ?_
     obtain rfl := Option.some.inj hm
     have hm := hr41 _ rfl
     obtain rfl := Option.some.inj hm
     exact RR1 rfl rfl ⟨rfl, hL.fresh 0 rfl [] (by decide) (by decide) rfl⟩
   refine CW.skip <| CW.regionL <| OV (.int .i64 s_l1) rfl (x_mv f53) <| OV (.int .i64 (w64 (s_l1 + 1))) rfl (x_add rfl rfl) <| OV (.int .i64 (w64 (s_l1 + 1))) rfl (x_assign) <| OW.nil ?_
   obtain rfl := Option.some.inj hm
   exact ⟨_, rfl, ⟨f51, f52, rfl, hL⟩⟩
 refine CW.exit ?_
 refine XJ.hit ?_
 obtain rfl := Option.some.inj hm
 exact ⟨_, rfl, ⟨f51, f52, f53, hL⟩⟩

theorem M.spec_l28Draw_ok (w0 : World) (a0 : List UInt8) {v1 : Value} (h2 : rdL (· < w0.heap.size) w0 v1 a0) {r : Table × (List Int) × Int × Int} (hm : M.spec_l28Draw a0 = some r) :
    Calls Try.prog 91 #[v1] w0 fun e w' => ∃ (rv0 : Value) (rS0 : Nat → Prop), ∃ (rv1 : Value) (rS1 : Nat → Prop), ∃ (rv2 : Value) (rS2 : Nat → Prop), e = .returned (.tuple #[(.agg #[(.int .i64 r.1.Boats), rv0, rv1]), rv2, (.int .i64 r.2.2.1), (.int .i64 r.2.2.2)]) ∧ Fresh w0 w' [Ent.cnd (M.spec_IsTable r.1 = some true) 25 rS0 rv0 r.1.Points, Ent.rdx rS1 rv1 r.1.Codes, Ent.rdx rS2 rv2 r.2.1] := by
 unfold M.spec_l28Draw at hm
 refine calls_CW (args := [v1]) Try.func91 rfl rfl rfl ?_
 have hL := Hp.start w0
 refine CSR ?_
 refine OW.cons (S_alloc (cs := #[(.int .i64 0), (.slice none 0 0), (.slice none 0 0)]) hL Try_T29 rfl rfl ?_)
 intro wd3 b4 hL
 refine OV (.slice none 0 0) rfl (x_assign) <| OV (.int .i64 0) rfl (x_assign) <| OV (.int .i64 0) rfl (x_assign) <| ONR <| OV v1 rfl (x_move) ?_
 obtain ⟨x5, hx6, hm⟩ := bndE hm
 refine OW.cons (OP.call rfl (x_call (vs := [v1]) Try_C84 ⟨rfl, trivial⟩) (M.spec_l01From_ok _ a0 (hL.rdS 1 rfl h2) hx6) ?_)
 rintro e8 wd9 ⟨b7, rfl, hF10⟩
 refine ⟨_, rfl, ?_⟩
 have hL := hL.pushAll hF10
 simp only [lA, lB, lC, lD] at hL
 refine OV (.pointer (some ⟨b7, 0, none⟩)) rfl (x_assign) <| ONR <| OV (.pointer (some ⟨b7, 0, none⟩)) rfl (x_move) ?_
 obtain ⟨x11, hx12, hm⟩ := bndE hm
 refine OW.cons (OP.call rfl (x_call (vs := [(.pointer (some ⟨b7, 0, none⟩))]) Try_C104 ⟨rfl, trivial⟩) (M.spec_l26DrawTable_ok _ (Src.mk a0 x5.1 x5.2) (hL.exS 2 0 (by decide) rfl rfl h2) (hL.get 0 rfl) hx12) ?_)
 rintro e17 wd18 ⟨v14, S13, v16, S15, rfl, hF19⟩
 refine ⟨_, rfl, ?_⟩
 have hL := hL.mut 0 rfl hF19
 simp only [lA, lB, lC, lD] at hL
 obtain ⟨wz20, hL, ho21⟩ := hL.cndFz 0 rfl
 simp only [lC, lD] at hL
 obtain ⟨wz22, hL, ho23⟩ := hL.rdxFz 1 rfl
 simp only [lC, lD] at hL
 refine OW.cons (S_alloc (cs := #[(.int .i64 0), (.slice none 0 0), (.slice none 0 0)]) hL Try_T29 rfl rfl ?_)
 intro wd24 b25 hL
 refine OW.cons (S_storeN (l := [(.int .i64 x11.1.Boats), v14, v16]) (cs' := #[(.int .i64 x11.1.Boats), v14, v16]) hL 0 rfl Try_T29 rfl rfl (List.forall_mem_cons.2 ⟨rfl, (List.forall_mem_cons.2 ⟨rdL_one (hL.rdF 1 rfl ho21.1.rdL), (List.forall_mem_cons.2 ⟨rdL_one (hL.rdF 2 rfl ho23.1.rdL), (fun _ h => by cases h)⟩)⟩)⟩) rfl (Nat.le_of_ble_eq_true rfl) rfl ?_)
 intro wd26 hL
 refine OW.nil ?_
 refine CW.seqJ (fun (s_j1 : Int × Int × (List (List Int))) (F : Fr) (w : World) => ∃ (v858 : Value) (S859 : Nat → Prop), F 2 = (.pointer (some ⟨b4, 0, none⟩)) ∧ F 6 = (.pointer (some ⟨b7, 0, none⟩)) ∧ F 7 = (.pointer (some ⟨b25, 0, none⟩)) ∧ Hp w0 [Ent.cnd (M.spec_IsTable (Table.mk x11.1.Boats s_j1.2.2 x11.1.Codes) = some true) 25 S859 v858 s_j1.2.2, Ent.blk b25 29 #[(.int .i64 x11.1.Boats), v858, v16], Ent.frzS wz22 S15, Ent.blk b7 90 #[v1, (.int .i64 s_j1.1), (.int .i64 s_j1.2.1)], Ent.blk b4 29 #[(.int .i64 0), (.slice none 0 0), (.slice none 0 0)], Ent.snap w0 w0.heap.size] w) (fun s_j1 => M.spec_l28Draw_j1 a0 x11 s_j1 = some r) ?_ ?_
 · refine CW.seqJ (fun (s_j2 : Int × Int × Bool) (F : Fr) (w : World) => F 2 = (.pointer (some ⟨b4, 0, none⟩)) ∧ F 6 = (.pointer (some ⟨b7, 0, none⟩)) ∧ F 7 = (.pointer (some ⟨b25, 0, none⟩)) ∧ F 22 = (.bool s_j2.2.2) ∧ Hp w0 [Ent.blk b25 29 #[(.int .i64 x11.1.Boats), v14, v16], Ent.frzS wz20 S13, Ent.frzS wz22 S15, Ent.blk b7 90 #[v1, (.int .i64 s_j2.1), (.int .i64 s_j2.2.1)], Ent.blk b4 29 #[(.int .i64 0), (.slice none 0 0), (.slice none 0 0)], Ent.snap w0 w0.heap.size] w) (fun s_j2 => M.spec_l28Draw_j2 a0 x11 s_j2 = some r) ?_ ?_
   · refine CW.regionL <| OV (.pointer (some ⟨b7, 0, none⟩)) rfl (x_move) ?_
     obtain ⟨x1797, hx1798, hm⟩ := bndE hm
     refine OW.cons (OP.call rfl (x_call (vs := [(.pointer (some ⟨b7, 0, none⟩)), (.int .i64 2)]) Try_C86 ⟨rfl, rfl, trivial⟩) (M.spec_l01Next_ok _ (Src.mk a0 x11.2.1 x11.2.2) (hL.exS 5 3 (by decide) rfl rfl h2) (hL.get 3 rfl) 2 hx1798) ?_)
     rintro e1799 wd1800 ⟨rfl, hF1801⟩
     refine ⟨_, rfl, ?_⟩
     have hL := hL.mut 3 rfl hF1801
     simp only [lA, lB, lC, lD] at hL
     refine OV (.bool (x1797.1 == 0)) rfl (x_eql rfl rfl) <| OV (.bool (x1797.1 == 0)) rfl (x_move) ?_
     refine ifB_elim hm (fun hb1802 hm => ?_) (fun hb1802 hm => ?_)
     · refine OW.cons (OP.yes' rfl rfl hb1802 (OP.val (v := (.agg #[(.int .i64 x11.1.Boats), v14, v16])) rfl (x_loadN (cs := [(.int .i64 x11.1.Boats), v14, v16]) U29 Try_T29 rfl rfl (hL.cellsB 0 rfl (o := 0) (l := [(.int .i64 x11.1.Boats), v14, v16]) (by intro j u hj; exact (by simpa using hj)))) ?_))
       obtain ⟨x1803, hx1804, hm⟩ := bndE hm
       refine OW.cons (OP.yes' rfl rfl hb1802 (OP.call rfl (x_call (vs := [(.agg #[(.int .i64 x11.1.Boats), v14, v16])]) Try_C94 ⟨rfl, trivial⟩) (M.spec_IsTable_ok _ x11.1 (hL.rdF 1 rfl ho21.1.rdL) (hL.rdF 2 rfl ho23.1.rdL) hx1804) ?_))
       rintro e1805 wd1806 ⟨rfl, hF1807⟩
       refine ⟨_, rfl, ?_⟩
       have hL := hL.pushAll hF1807
       simp only [lA, lB, lC, lD] at hL
       refine OV (.bool x1803) rfl (x_pickT' rfl hb1802 rfl) <| OW.nil ?_
       exact ⟨(x1797.2.1, x1797.2.2, x1803), hm, ⟨rfl, rfl, rfl, rfl, hL⟩⟩
     refine OW.cons (OP.no' rfl rfl hb1802 rfl ?_)
     refine OW.cons (OP.no' rfl rfl hb1802 rfl ?_)
     refine OV (.bool false) rfl (x_pickF' rfl hb1802 rfl) <| OW.nil ?_
     exact ⟨(x1797.2.1, x1797.2.2, false), hm, ⟨rfl, rfl, rfl, rfl, hL⟩⟩
   intro s_j2 F900 wd901 hJ hm
   unfold M.spec_l28Draw_j2 at hm
   obtain ⟨f902, f903, f904, f905, hL⟩ := hJ
   refine CW.condM (t := s_j2.2.2) f905 hm (fun hb906 hm => ?_) (fun hb906 hm => ?_)
   · obtain ⟨hC907, hm⟩ := chkE hm
     have hL := hL.cndOwn 1 rfl ho21 hC907
     simp only [lC, lD] at hL
     refine CSR <| OV (.int .i64 0) rfl (x_assign) <| OW.nil ?_
     obtain ⟨o1434, ho1435, hm⟩ := bndE hm
     refine CW.loopB (fun (s_l1 : Int × Int × (List (List Int)) × Int) (F : Fr) (w : World) => ∃ (S1431 : Nat → Prop), F 2 = (.pointer (some ⟨b4, 0, none⟩)) ∧ F 6 = (.pointer (some ⟨b7, 0, none⟩)) ∧ F 7 = (.pointer (some ⟨b25, 0, none⟩)) ∧ F 8 = (.int .i64 s_l1.2.2.2) ∧ Hp w0 [Ent.blk b25 29 #[(.int .i64 x11.1.Boats), v14, v16], Ent.own 25 S1431 v14 s_l1.2.2.1, Ent.frzS wz22 S15, Ent.blk b7 90 #[v1, (.int .i64 s_l1.1), (.int .i64 s_l1.2.1)], Ent.blk b4 29 #[(.int .i64 0), (.slice none 0 0), (.slice none 0 0)], Ent.snap w0 w0.heap.size] w) (fun o => outc o (fun x => some x) (fun s => M.spec_l28Draw_a1 a0 x11 s) = some r) ho1435 hm ⟨S13, f902, f903, f904, rfl, hL⟩ ?_ ?_
     · intro s_l1 F1436 wd1437 hJ hm
       have hm := outcE hm
       have hm : M.spec_l28Draw_a1 a0 x11 s_l1 = some r := hm
       unfold M.spec_l28Draw_a1 at hm
       obtain ⟨S1431, f1438, f1439, f1440, f1441, hL⟩ := hJ
       have hL := hL.cndIn 1 rfl (M.spec_IsTable (Table.mk x11.1.Boats s_l1.2.2.1 x11.1.Codes) = some true)
       simp only [lC, lD] at hL
       have hL := hL.sel [1, 0, 2, 3, 4, 5] (by decide) rfl
       exact ⟨(s_l1.1, s_l1.2.1, s_l1.2.2.1), hm, ⟨v14, S1431, f1438, f1439, f1440, hL⟩⟩
     intro s_l1 F1442 wd1443 t1432 hJ hm hr1433
     unfold M.spec_l28Draw_l1 at hm
     obtain ⟨S1431, f1444, f1445, f1446, f1447, hL⟩ := hJ
     refine CW.seq <| CSR <| OV (.int .i64 s_l1.2.2.2) rfl (x_mv f1447) <| OV (.pointer (some ⟨b25, 1, none⟩)) rfl (x_fieldAddr (fsz := 1) 0 1 1 U29 rfl Try_T22 rfl f1446 rfl) <| OV v14 rfl (x_load1 U22 rfl rfl (hL.cellB 0 rfl rfl)) <| OV (.int .i64 (s_l1.2.2.1.length : Int)) rfl (x_lenR U22 rfl (hL.rdO 1 rfl)) <| OV (.bool (decide (s_l1.2.2.2 < (s_l1.2.2.1.length : Int)))) rfl (x_lss rfl rfl) <| OW.nil ?_
     refine CW.condM (t := decide (s_l1.2.2.2 < (s_l1.2.2.1.length : Int))) rfl hm (fun hb1448 hm => ?_) (fun hb1448 hm => ?_)
     · refine CW.skip <| CW.seq <| CW.block <| CSR <| OV (.int .i64 0) rfl (x_assign) <| OW.nil ?_
       obtain ⟨o1613, ho1614, hm⟩ := bndE hm
       refine CW.loopB (fun (s_l2 : Int × Int × (List (List Int)) × Int) (F : Fr) (w : World) => ∃ (S1610 : Nat → Prop), F 2 = (.pointer (some ⟨b4, 0, none⟩)) ∧ F 6 = (.pointer (some ⟨b7, 0, none⟩)) ∧ F 7 = (.pointer (some ⟨b25, 0, none⟩)) ∧ F 8 = (.int .i64 s_l1.2.2.2) ∧ F 9 = (.int .i64 s_l2.2.2.2) ∧ Hp w0 [Ent.blk b25 29 #[(.int .i64 x11.1.Boats), v14, v16], Ent.own 25 S1610 v14 s_l2.2.2.1, Ent.frzS wz22 S15, Ent.blk b7 90 #[v1, (.int .i64 s_l2.1), (.int .i64 s_l2.2.1)], Ent.blk b4 29 #[(.int .i64 0), (.slice none 0 0), (.slice none 0 0)], Ent.snap w0 w0.heap.size] w) (fun o => outc o (fun x => some (.ret x)) (fun s => M.spec_l28Draw_a2 s_l1 s) = some t1432) ho1614 hm ⟨S1431, f1444, f1445, f1446, f1447, rfl, hL⟩ ?_ ?_
       · intro s_l2 F1615 wd1616 hJ hm
         have hm := outcE hm
         have hm : M.spec_l28Draw_a2 s_l1 s_l2 = some t1432 := hm
         unfold M.spec_l28Draw_a2 at hm
         obtain ⟨S1610, f1617, f1618, f1619, f1620, f1621, hL⟩ := hJ
         refine CW.regionL <| OV (.int .i64 s_l1.2.2.2) rfl (x_mv f1620) <| OV (.int .i64 (w64 (s_l1.2.2.2 + 1))) rfl (x_add rfl rfl) <| OV (.int .i64 (w64 (s_l1.2.2.2 + 1))) rfl (x_assign) <| OW.nil ?_
         obtain rfl := Option.some.inj hm
         exact ⟨_, rfl, ⟨S1610, f1617, f1618, f1619, rfl, hL⟩⟩
       intro s_l2 F1622 wd1623 t1611 hJ hm hr1612
       unfold M.spec_l28Draw_l2 at hm
       obtain ⟨S1610, f1624, f1625, f1626, f1627, f1628, hL⟩ := hJ
       refine CW.seq <| CSR <| OV (.int .i64 s_l2.2.2.2) rfl (x_mv f1628) <| OV (.pointer (some ⟨b25, 1, none⟩)) rfl (x_fieldAddr (fsz := 1) 0 1 1 U29 rfl Try_T22 rfl f1626 rfl) <| OV v14 rfl (x_load1 U22 rfl rfl (hL.cellB 0 rfl rfl)) <| OV (.int .i64 s_l1.2.2.2) rfl (x_mv f1627) ?_
       obtain ⟨wz1629, hL, ho1630⟩ := hL.freeze 1 rfl
       simp only [lC, lD] at hL
       obtain ⟨x1631, ha1632, hm⟩ := bndE hm
       obtain ⟨hz1633, ha1641⟩ := idxE ha1632
       obtain ⟨b1634, q1635, v1636, hix1637, hs1638, hc1639, hr1640⟩ := rdN_at ho1630.1.rdL hz1633 ha1641
       refine OV (.pointer (some ⟨b1634, q1635, none⟩)) rfl (x_ix U22 Try_T25 rfl rfl hix1637) <| OV v1636 rfl (x_load1 U25 rfl rfl (hL.cellF 1 rfl hs1638 hc1639)) <| OV (.int .i64 (x1631.length : Int)) rfl (x_lenR U25 rfl (hL.rdF 1 rfl hr1640)) <| OV (.bool (decide (s_l2.2.2.2 < (x1631.length : Int)))) rfl (x_lss rfl rfl) <| OW.nil ?_
       refine CW.condM (t := decide (s_l2.2.2.2 < (x1631.length : Int))) rfl hm (fun hb1642 hm => ?_) (fun hb1642 hm => ?_)
       · refine CW.skip <| CW.seq <| CW.block ?_
         refine CW.drawH (fun w' => Hp w0 [Ent.blk b25 29 #[(.int .i64 x11.1.Boats), v14, v16], Ent.frzS wz22 S15, Ent.blk b4 29 #[(.int .i64 0), (.slice none 0 0), (.slice none 0 0)], Ent.snap w0 w0.heap.size] w') Try_mixed ?_
         have hL := hL.call (Mod.drew _)
         have hS := (hL.sel [0, 2, 4, 5] (by decide) rfl)
         refine DH.take 0 rfl (by kernel_rfl) (by kernel_rfl) (by kernel_rfl) rfl rfl hS (YH.val (v := (.pointer (some ⟨b25, 1, none⟩))) (fun w' hS' => x_fieldAddr (fsz := 1) 0 1 1 U29 rfl Try_T22 rfl f1626 rfl)) ?_
         have hS := (hL.sel [0, 2, 4, 5] (by decide) rfl)
         refine DH.take 1 rfl (by kernel_rfl) (by kernel_rfl) (by kernel_rfl) rfl rfl hS (YH.val (v := v14) (fun w' hS' => x_load1 U22 rfl rfl (hS'.cellB 0 rfl rfl))) ?_
         have hS := (hL.sel [0, 2, 4, 5] (by decide) rfl)
         refine DH.take 2 rfl (by kernel_rfl) (by kernel_rfl) (by kernel_rfl) rfl rfl hS (YH.val (v := (.int .i64 s_l1.2.2.2)) (fun w' hS' => x_mv f1627)) ?_
         have hS := (hL.sel [0, 2, 4, 5] (by decide) rfl)
         obtain ⟨x1676, ha1677, hm⟩ := bndE hm
         obtain ⟨hz1678, ha1686⟩ := idxE ha1677
         obtain ⟨b1679, q1680, v1681, hix1682, hs1683, hc1684, hr1685⟩ := rdN_at ho1630.1.rdL hz1678 ha1686
         refine DH.take 3 rfl (by kernel_rfl) (by kernel_rfl) (by kernel_rfl) rfl rfl hS (YH.val (v := (.pointer (some ⟨b1679, q1680, none⟩))) (fun w' hS' => x_ix U22 Try_T25 rfl rfl hix1682)) ?_
         have hS := (hL.sel [0, 2, 4, 5] (by decide) rfl)
         refine DH.take 5 rfl (by kernel_rfl) (by kernel_rfl) (by kernel_rfl) rfl rfl hS (YH.val (v := (.int .i64 s_l2.2.2.2)) (fun w' hS' => x_mv f1628)) ?_
         have hS := (hL.sel [0, 2, 4, 5] (by decide) rfl)
         refine DH.take 6 rfl (by kernel_rfl) (by kernel_rfl) (by kernel_rfl) rfl rfl hS (YH.val (v := (.pointer (some ⟨b7, 0, none⟩))) (fun w' hS' => x_mv f1625)) ?_
         obtain ⟨x1687, hx1688, hm⟩ := bndE hm
         obtain ⟨x1692, ha1693, hm⟩ := bndE hm
         refine DH.node (listed' := (bma 12 4095)) (fuel' := 0) (fun (F : Fr) (w : World) => ∃ (S1734 : Nat → Prop), F 2 = (.pointer (some ⟨b4, 0, none⟩)) ∧ F 6 = (.pointer (some ⟨b7, 0, none⟩)) ∧ F 7 = (.pointer (some ⟨b25, 0, none⟩)) ∧ F 8 = (.int .i64 s_l1.2.2.2) ∧ F 9 = (.int .i64 s_l2.2.2.2) ∧ Hp w0 [Ent.blk b25 29 #[(.int .i64 x11.1.Boats), v14, v16], Ent.own 25 S1734 v14 (s_l2.2.2.1.set (s_l1.2.2.2 : Int).toNat (x1676.set (s_l2.2.2.2 : Int).toNat (w64 (10 * (w64 (1 + x1687.1)))))), Ent.frzS wz22 S15, Ent.blk b7 90 #[v1, (.int .i64 x1687.2.1), (.int .i64 x1687.2.2)], Ent.blk b4 29 #[(.int .i64 0), (.slice none 0 0), (.slice none 0 0)], Ent.snap w0 w0.heap.size] w) ?_ (fun hN1730 => ?_)
         · intro F1738 wd1739 hJ
           obtain ⟨S1734, f1740, f1741, f1742, f1743, f1744, hL⟩ := hJ
           refine DH.done (by kernel_rfl) ?_
           refine CW.regionL <| OV (.int .i64 s_l2.2.2.2) rfl (x_mv f1744) <| OV (.int .i64 (w64 (s_l2.2.2.2 + 1))) rfl (x_add rfl rfl) <| OV (.int .i64 (w64 (s_l2.2.2.2 + 1))) rfl (x_assign) <| OW.nil ?_
           obtain rfl := Option.some.inj hm
           exact ⟨_, rfl, ⟨S1734, f1740, f1741, f1742, f1743, rfl, hL⟩⟩
         refine DH.node (listed' := (bma 12 2047)) (fuel' := 1) (fun (F : Fr) (w : World) => ∃ (b1735 : Nat) (q1736 : Nat), IxAddr v1681 (GoT.sz Int) s_l2.2.2.2 b1735 q1736 ∧ F 2 = (.pointer (some ⟨b4, 0, none⟩)) ∧ F 6 = (.pointer (some ⟨b7, 0, none⟩)) ∧ F 7 = (.pointer (some ⟨b25, 0, none⟩)) ∧ F 8 = (.int .i64 s_l1.2.2.2) ∧ F 9 = (.int .i64 s_l2.2.2.2) ∧ F 49 = (.int .i64 (w64 (10 * (w64 (1 + x1687.1))))) ∧ F 50 = (.pointer (some ⟨b1735, q1736, none⟩)) ∧ Hp w0 [Ent.blk b25 29 #[(.int .i64 x11.1.Boats), v14, v16], Ent.frzS wz1629 S1610, Ent.frzS wz22 S15, Ent.blk b7 90 #[v1, (.int .i64 x1687.2.1), (.int .i64 x1687.2.2)], Ent.blk b4 29 #[(.int .i64 0), (.slice none 0 0), (.slice none 0 0)], Ent.snap w0 w0.heap.size] w) ?_ (fun hN1731 => ?_)
         · intro F1745 wd1746 hJ
           obtain ⟨b1735, q1736, hix1737, f1747, f1748, f1749, f1750, f1751, f1752, f1753, hL⟩ := hJ
           obtain ⟨_, ha1716⟩ := idxE ha1693
           have hc1755 := hL.cellF 1 rfl hs1683 hc1684
           have hL := hL.thaw 1 rfl ho1630
           simp only [lC, lD] at hL
           refine DH.only 11 rfl (by kernel_rfl) (S_inRow (α := Int) (x1676.set (s_l2.2.2.2 : Int).toNat (w64 (10 * (w64 (1 + x1687.1))))) (x1676.set (s_l2.2.2.2 : Int).toNat (w64 (10 * (w64 (1 + x1687.1))))) rfl hL 1 rfl hix1682 ha1686 hc1755 (fun E2 S1 hL hK => S_storeX (j := 0) (w64 (10 * (w64 (1 + x1687.1)))) hL 0 rfl Try_T2 hix1737 ha1716 f1753 rfl rfl f1752 rfl rfl hK) ?_)
           intro wd1754 S1756 hL
           simp only [lC, lD] at hL
           refine ⟨(hL.sel [0, 2, 4, 5] (by decide) rfl), ?_⟩
           exact DH.relist (listed' := (bma 12 4095)) (by kernel_rfl) (hN1730 _ _ ⟨S1756, f1747, f1748, f1749, f1750, f1751, hL⟩)
         refine DH.node (listed' := (bma 12 1007)) (fuel' := 3) (fun (F : Fr) (w : World) => F 2 = (.pointer (some ⟨b4, 0, none⟩)) ∧ F 6 = (.pointer (some ⟨b7, 0, none⟩)) ∧ F 7 = (.pointer (some ⟨b25, 0, none⟩)) ∧ F 8 = (.int .i64 s_l1.2.2.2) ∧ F 9 = (.int .i64 s_l2.2.2.2) ∧ F 43 = (.pointer (some ⟨b1679, q1680, none⟩)) ∧ F 45 = (.int .i64 s_l2.2.2.2) ∧ F 49 = (.int .i64 (w64 (10 * (w64 (1 + x1687.1))))) ∧ Hp w0 [Ent.blk b25 29 #[(.int .i64 x11.1.Boats), v14, v16], Ent.frzS wz1629 S1610, Ent.frzS wz22 S15, Ent.blk b7 90 #[v1, (.int .i64 x1687.2.1), (.int .i64 x1687.2.2)], Ent.blk b4 29 #[(.int .i64 0), (.slice none 0 0), (.slice none 0 0)], Ent.snap w0 w0.heap.size] w) ?_ (fun hN1732 => ?_)
         · intro F1759 wd1760 hJ
           obtain ⟨f1761, f1762, f1763, f1764, f1765, f1766, f1767, f1768, hL⟩ := hJ
           refine DH.only 4 rfl (by kernel_rfl) (OP.val (v := v1681) rfl (x_load1 U25 rfl f1766 (hL.cellF 1 rfl hs1683 hc1684)) ?_)
           refine ⟨(hL.sel [0, 2, 4, 5] (by decide) rfl), ?_⟩
           have hS := (hL.sel [0, 2, 4, 5] (by decide) rfl)
           obtain ⟨hz1769, ha1773⟩ := idxE ha1693
           obtain ⟨b1770, q1771, hix1772⟩ := rdL_ix (hL.rdF 1 rfl hr1685) hz1769 ha1773
           refine DH.take 10 rfl (by kernel_rfl) (by kernel_rfl) (by kernel_rfl) rfl rfl hS (YH.val (v := (.pointer (some ⟨b1770, q1771, none⟩))) (fun w' hS' => x_ix U25 Try_T2 rfl f1767 hix1772)) ?_
           exact DH.relist (listed' := (bma 12 2047)) (by kernel_rfl) (hN1731 _ _ ⟨b1770, q1771, hix1772, f1761, f1762, f1763, f1764, f1765, f1768, rfl, hL⟩)
         refine DH.node (listed' := (bma 12 127)) (fuel' := 5) (fun (F : Fr) (w : World) => F 2 = (.pointer (some ⟨b4, 0, none⟩)) ∧ F 6 = (.pointer (some ⟨b7, 0, none⟩)) ∧ F 7 = (.pointer (some ⟨b25, 0, none⟩)) ∧ F 8 = (.int .i64 s_l1.2.2.2) ∧ F 9 = (.int .i64 s_l2.2.2.2) ∧ F 44 = v1681 ∧ F 45 = (.int .i64 s_l2.2.2.2) ∧ F 46 = (.pointer (some ⟨b7, 0, none⟩)) ∧ Hp w0 [Ent.blk b25 29 #[(.int .i64 x11.1.Boats), v14, v16], Ent.frzS wz1629 S1610, Ent.frzS wz22 S15, Ent.blk b7 90 #[v1, (.int .i64 s_l2.1), (.int .i64 s_l2.2.1)], Ent.blk b4 29 #[(.int .i64 0), (.slice none 0 0), (.slice none 0 0)], Ent.snap w0 w0.heap.size] w) ?_ (fun hN1733 => ?_)
         · intro F1774 wd1775 hJ
           obtain ⟨f1776, f1777, f1778, f1779, f1780, f1781, f1782, f1783, hL⟩ := hJ
           refine DH.only 7 rfl (by kernel_rfl) (OP.call rfl (x_call (vs := [(.pointer (some ⟨b7, 0, none⟩)), (.int .i64 3)]) Try_C86 ⟨f1783, rfl, trivial⟩) (M.spec_l01Next_ok _ (Src.mk a0 s_l2.1 s_l2.2.1) (hL.exS 5 3 (by decide) rfl rfl h2) (hL.get 3 rfl) 3 hx1688) ?_)
           rintro e1784 wd1785 ⟨rfl, hF1786⟩
           refine ⟨_, rfl, ?_⟩
           have hL := hL.mut 3 rfl hF1786
           simp only [lA, lB, lC, lD] at hL
           refine ⟨(hL.sel [0, 2, 4, 5] (by decide) rfl), ?_⟩
           have hS := (hL.sel [0, 2, 4, 5] (by decide) rfl)
           refine DH.take 8 rfl (by kernel_rfl) (by kernel_rfl) (by kernel_rfl) rfl rfl hS (YH.val (v := (.int .i64 (w64 (1 + x1687.1)))) (fun w' hS' => x_add rfl rfl)) ?_
           have hS := (hL.sel [0, 2, 4, 5] (by decide) rfl)
           refine DH.take 9 rfl (by kernel_rfl) (by kernel_rfl) (by kernel_rfl) rfl rfl hS (YH.val (v := (.int .i64 (w64 (10 * (w64 (1 + x1687.1)))))) (fun w' hS' => x_mul rfl rfl)) ?_
           have hS := (hL.sel [0, 2, 4, 5] (by decide) rfl)
           obtain ⟨hz1787, ha1791⟩ := idxE ha1693
           obtain ⟨b1788, q1789, hix1790⟩ := rdL_ix (hL.rdF 1 rfl hr1685) hz1787 ha1791
           refine DH.take 10 rfl (by kernel_rfl) (by kernel_rfl) (by kernel_rfl) rfl rfl hS (YH.val (v := (.pointer (some ⟨b1788, q1789, none⟩))) (fun w' hS' => x_ix U25 Try_T2 f1781 f1782 hix1790)) ?_
           exact DH.relist (listed' := (bma 12 2047)) (by kernel_rfl) (hN1731 _ _ ⟨b1788, q1789, hix1790, f1776, f1777, f1778, f1779, f1780, rfl, rfl, hL⟩)
         refine DH.all (rs := [4, 7]) (by kernel_rfl) (by simp) ?_
         intro i1792 hi1793
         simp only [List.mem_cons, List.not_mem_nil, or_false] at hi1793
         rcases hi1793 with rfl | rfl
         · refine ⟨_, rfl, ?_⟩
           refine OP.val (v := v1681) rfl (x_load1 U25 rfl rfl (hL.cellF 1 rfl hs1683 hc1684)) ?_
           refine ⟨(hL.sel [0, 2, 4, 5] (by decide) rfl), ?_⟩
           exact DH.relist (listed' := (bma 12 127)) (by kernel_rfl) (hN1733 _ _ ⟨f1624, f1625, f1626, f1627, f1628, rfl, rfl, rfl, hL⟩)
         refine ⟨_, rfl, ?_⟩
         refine OP.call rfl (x_call (vs := [(.pointer (some ⟨b7, 0, none⟩)), (.int .i64 3)]) Try_C86 ⟨rfl, rfl, trivial⟩) (M.spec_l01Next_ok _ (Src.mk a0 s_l2.1 s_l2.2.1) (hL.exS 5 3 (by decide) rfl rfl h2) (hL.get 3 rfl) 3 hx1688) ?_
         rintro e1794 wd1795 ⟨rfl, hF1796⟩
         refine ⟨_, rfl, ?_⟩
         have hL := hL.mut 3 rfl hF1796
         simp only [lA, lB, lC, lD] at hL
         refine ⟨(hL.sel [0, 2, 4, 5] (by decide) rfl), ?_⟩
         have hS := (hL.sel [0, 2, 4, 5] (by decide) rfl)
         refine DH.take 8 rfl (by kernel_rfl) (by kernel_rfl) (by kernel_rfl) rfl rfl hS (YH.val (v := (.int .i64 (w64 (1 + x1687.1)))) (fun w' hS' => x_add rfl rfl)) ?_
         have hS := (hL.sel [0, 2, 4, 5] (by decide) rfl)
         refine DH.take 9 rfl (by kernel_rfl) (by kernel_rfl) (by kernel_rfl) rfl rfl hS (YH.val (v := (.int .i64 (w64 (10 * (w64 (1 + x1687.1)))))) (fun w' hS' => x_mul rfl rfl)) ?_
         exact DH.relist (listed' := (bma 12 1007)) (by kernel_rfl) (hN1732 _ _ ⟨f1624, f1625, f1626, f1627, f1628, rfl, rfl, rfl, hL⟩)
       refine CW.exit ?_
       refine XJ.hit ?_
       have hL := hL.thaw 1 rfl ho1630
       obtain rfl := Option.some.inj hm
       exact ⟨_, rfl, ⟨S1610, f1624, f1625, f1626, f1627, f1628, hL⟩⟩
     refine CW.exit ?_
     refine XJ.hit ?_
     obtain rfl := Option.some.inj hm
     exact ⟨_, rfl, ⟨S1431, f1444, f1445, f1446, f1447, hL⟩⟩
   refine CW.skip ?_
   have hL := hL.cndOut 1 rfl ho21
   simp only [lC, lD] at hL
   have hL := hL.sel [1, 0, 2, 3, 4, 5] (by decide) rfl
   exact ⟨(s_j2.1, s_j2.2.1, x11.1.Points), hm, ⟨v14, S13, f902, f903, f904, hL⟩⟩
 intro s_j1 F860 wd861 hJ hm
 unfold M.spec_l28Draw_j1 at hm
 obtain ⟨v858, S859, f862, f863, f864, hL⟩ := hJ
 refine CSR <| OV (.pointer (some ⟨b7, 0, none⟩)) rfl (x_mv f863) ?_
 obtain ⟨x865, hx866, hm⟩ := bndE hm
 refine OW.cons (OP.call rfl (x_call (vs := [(.pointer (some ⟨b7, 0, none⟩))]) Try_C85 ⟨rfl, trivial⟩) (M.spec_l27DrawRule_ok _ (Src.mk a0 s_j1.1 s_j1.2.1) (hL.exS 5 3 (by decide) rfl rfl h2) (hL.get 3 rfl) hx866) ?_)
 rintro e869 wd870 ⟨v868, S867, rfl, hF871⟩
 refine ⟨_, rfl, ?_⟩
 have hL := hL.mut 3 rfl hF871
 simp only [lA, lB, lC, lD] at hL
 refine OV v868 rfl (x_assign) <| ONR <| OV (.pointer (some ⟨b7, 0, none⟩)) rfl (x_mv f863) <| OV (.agg #[(.int .i64 x11.1.Boats), v858, v16]) rfl (x_loadN (cs := [(.int .i64 x11.1.Boats), v858, v16]) U29 Try_T29 rfl f864 (hL.cellsB 2 rfl (o := 0) (l := [(.int .i64 x11.1.Boats), v858, v16]) (by intro j u hj; exact (by simpa using hj)))) ?_
 obtain ⟨x872, hx873, hm⟩ := bndE hm
 refine OW.cons (OP.call rfl (x_call (vs := [(.pointer (some ⟨b7, 0, none⟩)), (.agg #[(.int .i64 x11.1.Boats), v858, v16])]) Try_C105 ⟨rfl, rfl, trivial⟩) (M.spec_l27DrawBoat_ok _ (Src.mk a0 x865.2.1 x865.2.2) (hL.exS 6 4 (by decide) rfl rfl h2) (hL.get 4 rfl) (Table.mk x11.1.Boats s_j1.2.2 x11.1.Codes) (hL.exE 1 4 (by decide) rfl rfl (hL.get 1 rfl).1) (hL.exF 3 4 (by decide) rfl rfl ho23.1.rdL) hx873) ?_)
 rintro e874 wd875 ⟨rfl, hF876⟩
 refine ⟨_, rfl, ?_⟩
 have hL := hL.mut 4 rfl hF876
 simp only [lA, lB, lC, lD] at hL
 refine OV (.int .i64 x872.1) rfl (x_assign) <| ONS ?_
 refine CW.drawH (fun w' => Hp w0 [Ent.own 2 S867 v868 x865.1, Ent.cnd (M.spec_IsTable (Table.mk x11.1.Boats s_j1.2.2 x11.1.Codes) = some true) 25 S859 v858 s_j1.2.2, Ent.blk b25 29 #[(.int .i64 x11.1.Boats), v858, v16], Ent.frzS wz22 S15, Ent.snap w0 w0.heap.size] w') Try_mixed ?_
 have hL := hL.call (Mod.drew _)
 have hS := (hL.sel [0, 1, 2, 3, 6] (by decide) rfl)
 refine DH.take 0 rfl (by kernel_rfl) (by kernel_rfl) (by kernel_rfl) rfl rfl hS (YH.val (v := (.agg #[(.int .i64 x11.1.Boats), v858, v16])) (fun w' hS' => x_loadN (cs := [(.int .i64 x11.1.Boats), v858, v16]) U29 Try_T29 rfl f864 (hS'.cellsB 2 rfl (o := 0) (l := [(.int .i64 x11.1.Boats), v858, v16]) (by intro j u hj; exact (by simpa using hj))))) ?_
 have hS := (hL.sel [0, 1, 2, 3, 6] (by decide) rfl)
 refine DH.take 1 rfl (by kernel_rfl) (by kernel_rfl) (by kernel_rfl) rfl rfl hS (YH.val (v := v868) (fun w' hS' => x_move)) ?_
 have hS := (hL.sel [0, 1, 2, 3, 6] (by decide) rfl)
 refine DH.take 2 rfl (by kernel_rfl) (by kernel_rfl) (by kernel_rfl) rfl rfl hS (YH.val (v := (.int .i64 x872.1)) (fun w' hS' => x_move)) ?_
 have hS := (hL.sel [0, 1, 2, 3, 6] (by decide) rfl)
 refine DH.take 3 rfl (by kernel_rfl) (by kernel_rfl) (by kernel_rfl) rfl rfl hS (YH.val (v := (.pointer (some ⟨b7, 0, none⟩))) (fun w' hS' => x_mv f863)) ?_
 have hS := (hL.sel [0, 1, 2, 3, 6] (by decide) rfl)
 refine DH.take 4 rfl (by kernel_rfl) (by kernel_rfl) (by kernel_rfl) rfl rfl hS (YH.val (v := (.agg #[(.int .i64 x11.1.Boats), v858, v16])) (fun w' hS' => x_loadN (cs := [(.int .i64 x11.1.Boats), v858, v16]) U29 Try_T29 rfl f864 (hS'.cellsB 2 rfl (o := 0) (l := [(.int .i64 x11.1.Boats), v858, v16]) (by intro j u hj; exact (by simpa using hj))))) ?_
 obtain ⟨x883, hx884, hm⟩ := bndE hm
 refine DH.only 5 rfl (by kernel_rfl) (OP.call rfl (x_call (vs := [(.pointer (some ⟨b7, 0, none⟩)), (.agg #[(.int .i64 x11.1.Boats), v858, v16])]) Try_C105 ⟨rfl, rfl, trivial⟩) (M.spec_l27DrawBoat_ok _ (Src.mk a0 x872.2.1 x872.2.2) (hL.exS 6 4 (by decide) rfl rfl h2) (hL.get 4 rfl) (Table.mk x11.1.Boats s_j1.2.2 x11.1.Codes) (hL.exE 1 4 (by decide) rfl rfl (hL.get 1 rfl).1) (hL.exF 3 4 (by decide) rfl rfl ho23.1.rdL) hx884) ?_)
 rintro e885 wd886 ⟨rfl, hF887⟩
 refine ⟨_, rfl, ?_⟩
 have hL := hL.mut 4 rfl hF887
 simp only [lA, lB, lC, lD] at hL
 refine ⟨(hL.sel [0, 1, 2, 3, 6] (by decide) rfl), ?_⟩
 refine DH.only 6 rfl (by kernel_rfl) (S_storeN (l := [(.int .i64 x11.1.Boats), v858, v16]) (cs' := #[(.int .i64 x11.1.Boats), v858, v16]) hL 5 rfl Try_T29 f862 rfl (List.forall_mem_cons.2 ⟨rfl, (List.forall_mem_cons.2 ⟨rdL_one (hL.rdC 1 rfl), (List.forall_mem_cons.2 ⟨rdL_one (hL.rdF 3 rfl ho23.1.rdL), (fun _ h => by cases h)⟩)⟩)⟩) rfl (Nat.le_of_ble_eq_true rfl) rfl ?_)
 intro wd888 hL
 refine ⟨(hL.sel [0, 1, 2, 3, 6] (by decide) rfl), ?_⟩
 have hS := (hL.sel [0, 1, 2, 3, 6] (by decide) rfl)
 refine DH.take 7 rfl (by kernel_rfl) (by kernel_rfl) (by kernel_rfl) rfl rfl hS (YH.val (v := v868) (fun w' hS' => x_assign)) ?_
 have hS := (hL.sel [0, 1, 2, 3, 6] (by decide) rfl)
 refine DH.take 8 rfl (by kernel_rfl) (by kernel_rfl) (by kernel_rfl) rfl rfl hS (YH.val (v := (.int .i64 x872.1)) (fun w' hS' => x_assign)) ?_
 have hS := (hL.sel [0, 1, 2, 3, 6] (by decide) rfl)
 refine DH.take 9 rfl (by kernel_rfl) (by kernel_rfl) (by kernel_rfl) rfl rfl hS (YH.val (v := (.int .i64 x883.1)) (fun w' hS' => x_assign)) ?_
 refine DH.done (by kernel_rfl) ?_
 refine CW.ret ?_
 have hL := hL.rdxOut 3 rfl ho23
 simp only [lC, lD] at hL
 have hL := hL.rdxIn 0 rfl
 simp only [lC, lD] at hL
 obtain rfl := Option.some.inj hm
 exact RRs (v := (.agg #[(.int .i64 x11.1.Boats), v858, v16])) (v2 := v868) (vs := [(.int .i64 x872.1), (.int .i64 x883.1)]) (rs := [.cell 2 29, .tmp 3, .tmp 4, .tmp 5]) rfl ⟨resCell f862 (run_loadBlk U29 Try_T29 (hL.get 5 rfl) rfl), resTmp rfl, resTmp rfl, resTmp rfl, trivial⟩ ⟨v858, S859, v16, S15, v868, S867, rfl, hL.fresh 6 rfl [1, 3, 0] (by decide) (by decide) rfl⟩

theorem M.spec_l28DrawTable_ok (w0 : World) (a0 : List UInt8) {v1 : Value} (h2 : rdL (· < w0.heap.size) w0 v1 a0) {r : Table × (List Int)} (hm : M.spec_l28DrawTable a0 = some r) :
    Calls Try.prog 93 #[v1] w0 fun e w' => ∃ (rv0 : Value) (rS0 : Nat → Prop), ∃ (rv1 : Value) (rS1 : Nat → Prop), ∃ (rv2 : Value) (rS2 : Nat → Prop), e = .returned (.tuple #[(.agg #[(.int .i64 r.1.Boats), rv0, rv1]), rv2]) ∧ Fresh w0 w' [Ent.rdx rS0 rv0 r.1.Points, Ent.rdx rS1 rv1 r.1.Codes, Ent.rdx rS2 rv2 r.2] := by
 unfold M.spec_l28DrawTable at hm
 refine calls_CW (args := [v1]) Try.func93 rfl rfl rfl ?_
 have hL := Hp.start w0
 refine CSR ?_
 refine OW.cons (S_alloc (cs := #[(.int .i64 0), (.slice none 0 0), (.slice none 0 0)]) hL Try_T29 rfl rfl ?_)
 intro wd3 b4 hL
 refine OV (.slice none 0 0) rfl (x_assign) <| ONR <| OV v1 rfl (x_move) ?_
 obtain ⟨x5, hx6, hm⟩ := bndE hm
 refine OW.cons (OP.call rfl (x_call (vs := [v1]) Try_C91 ⟨rfl, trivial⟩) (M.spec_l28Draw_ok _ a0 (hL.rdS 1 rfl h2) hx6) ?_)
 rintro e13 wd14 ⟨v8, S7, v10, S9, v12, S11, rfl, hF15⟩
 refine ⟨_, rfl, ?_⟩
 have hL := hL.pushAll hF15
 simp only [lA, lB, lC, lD] at hL
 obtain ⟨wz16, hL, ho17⟩ := hL.cndFz 0 rfl
 simp only [lC, lD] at hL
 obtain ⟨wz18, hL, ho19⟩ := hL.rdxFz 1 rfl
 simp only [lC, lD] at hL
 obtain ⟨wz20, hL, ho21⟩ := hL.rdxFz 2 rfl
 simp only [lC, lD] at hL
 refine OV (.tuple #[(.agg #[(.int .i64 x5.1.Boats), v8, v10]), v12, (.int .i64 x5.2.2.1), (.int .i64 x5.2.2.2)]) rfl (x_move) <| OV (.agg #[(.int .i64 x5.1.Boats), v8, v10]) rfl (x_extract rfl rfl) <| OV v12 rfl (x_extract rfl rfl) <| OV (.int .i64 x5.2.2.1) rfl (x_extract rfl rfl) <| OV (.int .i64 x5.2.2.2) rfl (x_extract rfl rfl) ?_
 refine OW.cons (S_alloc (cs := #[(.int .i64 0), (.slice none 0 0), (.slice none 0 0)]) hL Try_T29 rfl rfl ?_)
 intro wd22 b23 hL
 refine OW.cons (S_storeN (l := [(.int .i64 x5.1.Boats), v8, v10]) (cs' := #[(.int .i64 x5.1.Boats), v8, v10]) hL 0 rfl Try_T29 rfl rfl (List.forall_mem_cons.2 ⟨rfl, (List.forall_mem_cons.2 ⟨rdL_one (hL.rdF 1 rfl ho17.1.rdL), (List.forall_mem_cons.2 ⟨rdL_one (hL.rdF 2 rfl ho19.1.rdL), (fun _ h => by cases h)⟩)⟩)⟩) rfl (Nat.le_of_ble_eq_true rfl) rfl ?_)
 intro wd24 hL
 refine OV v12 rfl (x_assign) <| OV (.int .i64 x5.2.2.1) rfl (x_assign) <| OV (.int .i64 x5.2.2.2) rfl (x_assign) <| ONR <| OV (.agg #[(.int .i64 x5.1.Boats), v8, v10]) rfl (x_loadN (cs := [(.int .i64 x5.1.Boats), v8, v10]) U29 Try_T29 rfl rfl (hL.cellsB 0 rfl (o := 0) (l := [(.int .i64 x5.1.Boats), v8, v10]) (by intro j u hj; exact (by simpa using hj)))) <| OV v12 rfl (x_move) ?_
 refine OW.cons (S_storeN (l := [(.int .i64 x5.1.Boats), v8, v10]) (cs' := #[(.int .i64 x5.1.Boats), v8, v10]) hL 4 rfl Try_T29 rfl rfl (List.forall_mem_cons.2 ⟨rfl, (List.forall_mem_cons.2 ⟨rdL_one (hL.rdF 1 rfl ho17.1.rdL), (List.forall_mem_cons.2 ⟨rdL_one (hL.rdF 2 rfl ho19.1.rdL), (fun _ h => by cases h)⟩)⟩)⟩) rfl (Nat.le_of_ble_eq_true rfl) rfl ?_)
 intro wd25 hL
 refine OV v12 rfl (x_assign) <| OW.nil <| CW.ret ?_
 have hL := hL.cndOut 1 rfl ho17
 simp only [lC, lD] at hL
 have hL := hL.cndX 1 rfl
 simp only [lC, lD] at hL
 have hL := hL.rdxOut 2 rfl ho19
 simp only [lC, lD] at hL
 have hL := hL.rdxOut 3 rfl ho21
 simp only [lC, lD] at hL
 obtain rfl := Option.some.inj hm
 exact RRct rfl rfl (run_loadBlk U29 Try_T29 (hL.get 4 rfl) rfl) rfl ⟨v8, S7, v10, S9, v12, S11, rfl, hL.fresh 5 rfl [1, 2, 3] (by decide) (by decide) rfl⟩

theorem M.spec_DrawTiedBoats_ok (w0 : World) (a0 : List UInt8) {v1 : Value} (h2 : rdL (· < w0.heap.size) w0 v1 a0) {r : Table × (List Int)} (hm : M.spec_DrawTiedBoats a0 = some r) :
    Calls Try.prog 54 #[v1] w0 fun e w' => ∃ (rv0 : Value) (rS0 : Nat → Prop), ∃ (rv1 : Value) (rS1 : Nat → Prop), ∃ (rv2 : Value) (rS2 : Nat → Prop), e = .returned (.tuple #[(.agg #[(.int .i64 r.1.Boats), rv0, rv1]), rv2]) ∧ Fresh w0 w' [Ent.rdx rS0 rv0 r.1.Points, Ent.rdx rS1 rv1 r.1.Codes, Ent.rdx rS2 rv2 r.2] := by
 unfold M.spec_DrawTiedBoats at hm
 refine calls_CW (args := [v1]) Try.func54 rfl rfl rfl ?_
 have hL := Hp.start w0
 refine CSR ?_
 refine OW.cons (S_alloc (cs := #[(.int .i64 0), (.slice none 0 0), (.slice none 0 0)]) hL Try_T29 rfl rfl ?_)
 intro wd3 b4 hL
 refine OV (.slice none 0 0) rfl (x_assign) <| ONR <| OV v1 rfl (x_move) ?_
 obtain ⟨x5, hx6, hm⟩ := bndE hm
 refine OW.cons (OP.call rfl (x_call (vs := [v1]) Try_C93 ⟨rfl, trivial⟩) (M.spec_l28DrawTable_ok _ a0 (hL.rdS 1 rfl h2) hx6) ?_)
 rintro e13 wd14 ⟨v8, S7, v10, S9, v12, S11, rfl, hF15⟩
 refine ⟨_, rfl, ?_⟩
 have hL := hL.pushAll hF15
 simp only [lA, lB, lC, lD] at hL
 obtain ⟨wz16, hL, ho17⟩ := hL.rdxFz 0 rfl
 simp only [lC, lD] at hL
 obtain ⟨wz18, hL, ho19⟩ := hL.rdxFz 1 rfl
 simp only [lC, lD] at hL
 obtain ⟨wz20, hL, ho21⟩ := hL.rdxFz 2 rfl
 simp only [lC, lD] at hL
 refine OV (.agg #[(.int .i64 x5.1.Boats), v8, v10]) rfl (x_extract rfl rfl) <| OV v12 rfl (x_extract rfl rfl) ?_
 refine OW.cons (S_storeN (l := [(.int .i64 x5.1.Boats), v8, v10]) (cs' := #[(.int .i64 x5.1.Boats), v8, v10]) hL 3 rfl Try_T29 rfl rfl (List.forall_mem_cons.2 ⟨rfl, (List.forall_mem_cons.2 ⟨rdL_one (hL.rdF 0 rfl ho17.1.rdL), (List.forall_mem_cons.2 ⟨rdL_one (hL.rdF 1 rfl ho19.1.rdL), (fun _ h => by cases h)⟩)⟩)⟩) rfl (Nat.le_of_ble_eq_true rfl) rfl ?_)
 intro wd22 hL
 refine OV v12 rfl (x_assign) <| OW.nil <| CW.ret ?_
 have hL := hL.rdxOut 0 rfl ho17
 simp only [lC, lD] at hL
 have hL := hL.rdxOut 1 rfl ho19
 simp only [lC, lD] at hL
 have hL := hL.rdxOut 2 rfl ho21
 simp only [lC, lD] at hL
 obtain rfl := Option.some.inj hm
 exact RRct rfl rfl (run_loadBlk U29 Try_T29 (hL.get 3 rfl) rfl) rfl ⟨v8, S7, v10, S9, v12, S11, rfl, hL.fresh 4 rfl [0, 1, 2] (by decide) (by decide) rfl⟩

end Go.Proofs.Ytpobaajdhfoomaa
