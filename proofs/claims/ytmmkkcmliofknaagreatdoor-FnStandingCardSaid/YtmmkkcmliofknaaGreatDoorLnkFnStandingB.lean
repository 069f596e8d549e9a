/- Links: each Go function returns what its model computes and leaves what was there. Printed by my generator. -/
import Derived.Test.YtmmkkcmliofknaaGreatDoorLnkFnStandingA
namespace Go.Proofs.YtmmkkcmliofknaaGreatDoor
set_option maxRecDepth 10000
open Go Go.RowKit Go.ChangeShapes Go.WideShapes
set_option linter.unusedVariables false
set_option linter.unusedSimpArgs false

theorem M.spec_l26DrawTable_ok (w0 : World) {b1 : Nat} {v2 : Value} (a0 : Src) (h3 : rdL (fun k => k < w0.heap.size ∧ ¬ (Ent.blk b1 92 #[v2, .int .i64 a0.at_, .int .i64 a0.seed]).S k) w0 v2 a0.code) (he4 : (Ent.blk b1 92 #[v2, .int .i64 a0.at_, .int .i64 a0.seed]).H w0) {r : (Table) × (Int × Int)} (hm : M.spec_l26DrawTable a0 = some r) :
    Calls Tryz.prog 91 #[(.pointer (some ⟨b1, 0, none⟩))] w0 fun e w' => ∃ (rv0 : Value) (rS0 : Nat → Prop), ∃ (rv1 : Value) (rS1 : Nat → Prop), e = .returned (.agg #[(.int .i64 r.1.Boats), rv0, rv1]) ∧ Mut w0 w' (Ent.blk b1 92 #[v2, .int .i64 a0.at_, .int .i64 a0.seed]).S [Ent.blk b1 92 #[v2, .int .i64 r.2.1, .int .i64 r.2.2], Ent.cnd (M.spec_IsTable r.1 = some true) 27 rS0 rv0 r.1.Points, Ent.rdx rS1 rv1 r.1.Codes] := by
 unfold M.spec_l26DrawTable at hm
 refine calls_CW (args := [(.pointer (some ⟨b1, 0, none⟩))]) Tryz.func91 rfl rfl rfl ?_
 have hL := Hp.startIO he4
 refine CSR ?_
 refine OW.cons (S_alloc (cs := #[(.int .i64 0), (.slice none 0 0), (.slice none 0 0)]) hL Tryz_T26 rfl rfl ?_)
 intro wd5 b6 hL
 refine ONR ?_
 refine OV (.pointer (some ⟨b1, 0, none⟩)) rfl (x_move) ?_
 obtain ⟨x7, hx8, hm⟩ := bndE hm
 refine OW.cons (OP.call rfl (x_call (vs := [(.pointer (some ⟨b1, 0, none⟩))]) Tryz_C72 ⟨rfl, trivial⟩) (M.spec_l26DrawSeries_ok _ (Src.mk a0.code a0.at_ a0.seed) (hL.exZ 2 1 (by decide) rfl rfl h3) (hL.get 1 rfl) hx8) ?_)
 rintro e11 wd12 ⟨v10, S9, rfl, hF13⟩
 refine ⟨_, rfl, ?_⟩
 have hL := hL.mut 1 rfl hF13
 simp only [lA, lB, lC, lD] at hL
 refine OW.cons (S_alloc (cs := #[(.int .i64 0), (.int .i64 0), (.slice none 0 0)]) hL Tryz_T38 rfl rfl ?_)
 intro wd14 b15 hL
 refine OW.cons (S_storeN (l := [(.int .i64 x7.1.Boats), (.int .i64 x7.1.Scheme), v10]) (cs' := #[(.int .i64 x7.1.Boats), (.int .i64 x7.1.Scheme), v10]) hL 0 rfl Tryz_T38 rfl rfl (List.forall_mem_cons.2 ⟨rfl, (List.forall_mem_cons.2 ⟨rfl, (List.forall_mem_cons.2 ⟨rdL_one (hL.rdO 1 rfl), (fun _ h => by cases h)⟩)⟩)⟩) rfl (Nat.le_of_ble_eq_true rfl) rfl ?_)
 intro wd16 hL
 refine ONS ?_
 refine CSR ?_
 refine OV (.int .i64 0) rfl (x_assign) ?_
 refine OW.nil ?_
 obtain ⟨o2115, ho2116, hm⟩ := bndE hm
 refine CW.loopB (fun (s_l1 : Int × Int × (List Race) × Int) (F : Fr) (w : World) => ∃ (S2112 : Nat → Prop), F 0 = (.pointer (some ⟨b1, 0, none⟩)) ∧ F 2 = (.pointer (some ⟨b6, 0, none⟩)) ∧ F 3 = (.pointer (some ⟨b15, 0, none⟩)) ∧ F 4 = (.int .i64 s_l1.2.2.2) ∧ Hp w0 [Ent.blk b15 38 #[(.int .i64 x7.1.Boats), (.int .i64 x7.1.Scheme), v10], Ent.own 101 S2112 v10 s_l1.2.2.1, Ent.blk b6 26 #[(.int .i64 0), (.slice none 0 0), (.slice none 0 0)], Ent.blk b1 92 #[v2, (.int .i64 s_l1.1), (.int .i64 s_l1.2.1)], Ent.frz w0 (Ent.blk b1 92 #[v2, .int .i64 a0.at_, .int .i64 a0.seed]).S] w) (fun o => outc o (fun x => some x) (fun s => M.spec_l26DrawTable_a1 a0 x7 s) = some r) ho2116 hm ⟨S9, rfl, rfl, rfl, rfl, hL⟩ ?_ ?_
 · intro s_l1 F2117 wd2118 hJ hm
   have hm := outcE hm
   have hm : M.spec_l26DrawTable_a1 a0 x7 s_l1 = some r := hm
   unfold M.spec_l26DrawTable_a1 at hm
   obtain ⟨S2112, f2119, f2120, f2121, f2122, hL⟩ := hJ
   refine CSR ?_
   refine OV (.agg #[(.int .i64 x7.1.Boats), (.int .i64 x7.1.Scheme), v10]) rfl (x_loadN (cs := [(.int .i64 x7.1.Boats), (.int .i64 x7.1.Scheme), v10]) U38 Tryz_T38 rfl f2121 (hL.cellsB 0 rfl (o := 0) (l := [(.int .i64 x7.1.Boats), (.int .i64 x7.1.Scheme), v10]) (by intro j u hj; exact (by simpa using hj)))) ?_
   obtain ⟨x2123, hx2124, hm⟩ := bndE hm
   refine OW.cons (OP.call rfl (x_call (vs := [(.agg #[(.int .i64 x7.1.Boats), (.int .i64 x7.1.Scheme), v10])]) Tryz_C83 ⟨rfl, trivial⟩) (M.spec_TableOf_ok _ (Series.mk x7.1.Boats x7.1.Scheme s_l1.2.2.1) (hL.rdO 1 rfl) hx2124) ?_)
   rintro e2129 wd2130 ⟨v2126, S2125, v2128, S2127, rfl, hF2131⟩
   refine ⟨_, rfl, ?_⟩
   have hL := hL.pushAll hF2131
   simp only [lA, lB, lC, lD] at hL
   refine OV (.tuple #[(.agg #[(.int .i64 x2123.1.Boats), v2126, v2128]), (.int .i64 x2123.2)]) rfl (x_move) ?_
   refine OV (.agg #[(.int .i64 x2123.1.Boats), v2126, v2128]) rfl (x_extract rfl rfl) ?_
   refine OV (.int .i64 x2123.2) rfl (x_extract rfl rfl) ?_
   refine OW.cons (S_alloc (cs := #[(.int .i64 0), (.slice none 0 0), (.slice none 0 0)]) hL Tryz_T26 rfl rfl ?_)
   intro wd2132 b2133 hL
   refine OW.cons (S_storeN (l := [(.int .i64 x2123.1.Boats), v2126, v2128]) (cs' := #[(.int .i64 x2123.1.Boats), v2126, v2128]) hL 0 rfl Tryz_T26 rfl rfl (List.forall_mem_cons.2 ⟨rfl, (List.forall_mem_cons.2 ⟨rdL_one (hL.rdO 1 rfl), (List.forall_mem_cons.2 ⟨rdL_one (hL.rdO 2 rfl), (fun _ h => by cases h)⟩)⟩)⟩) rfl (Nat.le_of_ble_eq_true rfl) rfl ?_)
   intro wd2134 hL
   refine OV (.int .i64 x2123.2) rfl (x_assign) ?_
   refine ONS ?_
   refine CW.seqJ (fun (s_j1 : Bool) (F : Fr) (w : World) => F 0 = (.pointer (some ⟨b1, 0, none⟩)) ∧ F 2 = (.pointer (some ⟨b6, 0, none⟩)) ∧ F 7 = (.pointer (some ⟨b2133, 0, none⟩)) ∧ F 72 = (.bool s_j1) ∧ Hp w0 [Ent.blk b2133 26 #[(.int .i64 x2123.1.Boats), v2126, v2128], Ent.own 27 S2125 v2126 x2123.1.Points, Ent.own 27 S2127 v2128 x2123.1.Codes, Ent.blk b15 38 #[(.int .i64 x7.1.Boats), (.int .i64 x7.1.Scheme), v10], Ent.own 101 S2112 v10 s_l1.2.2.1, Ent.blk b6 26 #[(.int .i64 0), (.slice none 0 0), (.slice none 0 0)], Ent.blk b1 92 #[v2, (.int .i64 s_l1.1), (.int .i64 s_l1.2.1)], Ent.frz w0 (Ent.blk b1 92 #[v2, .int .i64 a0.at_, .int .i64 a0.seed]).S] w) (fun s_j1 => M.spec_l26DrawTable_j1 a0 s_l1 x2123 s_j1 = some r) ?_ ?_
   · refine CW.regionL ?_
     refine OV (.pointer (some ⟨b2133, 1, none⟩)) rfl (x_fieldAddr (fsz := 1) 0 1 1 U26 rfl Tryz_T24 rfl rfl rfl) ?_
     refine OV v2126 rfl (x_load1 U24 rfl rfl (hL.cellB 0 rfl rfl)) ?_
     refine OV (.int .i64 (x2123.1.Points.length : Int)) rfl (x_lenR U24 rfl (hL.rdO 1 rfl)) ?_
     refine OV (.bool ((x2123.1.Points.length : Int) == 0)) rfl (x_eql rfl rfl) ?_
     refine OV (.bool ((x2123.1.Points.length : Int) == 0)) rfl (x_move) ?_
     refine ifB_elim hm (fun hb3505 hm => ?_) (fun hb3505 hm => ?_)
     · refine OW.cons (OP.no' rfl rfl hb3505 rfl ?_)
       refine OW.cons (OP.no' rfl rfl hb3505 rfl ?_)
       refine OW.cons (OP.no' rfl rfl hb3505 rfl ?_)
       refine OV (.bool true) rfl (x_pickT' rfl hb3505 rfl) ?_
       refine OW.nil ?_
       exact ⟨true, hm, ⟨f2119, f2120, rfl, rfl, hL⟩⟩
     refine OW.cons (OP.yes' rfl rfl hb3505 (OP.val (v := (.pointer (some ⟨b2133, 0, none⟩))) rfl (x_fieldAddr (fsz := 1) 0 0 0 U26 rfl Tryz_T2 rfl rfl rfl) ?_))
     refine OW.cons (OP.yes' rfl rfl hb3505 (OP.val (v := (.int .i64 x2123.1.Boats)) rfl (x_load1 U2 rfl rfl (hL.cellB 0 rfl rfl)) ?_))
     refine OW.cons (OP.yes' rfl rfl hb3505 (OP.val (v := (.bool (x2123.1.Boats == 0))) rfl (x_eql rfl rfl) ?_))
     refine OV (.bool (x2123.1.Boats == 0)) rfl (x_pickF' rfl hb3505 rfl) ?_
     refine OW.nil ?_
     exact ⟨x2123.1.Boats == 0, hm, ⟨f2119, f2120, rfl, rfl, hL⟩⟩
   intro s_j1 F2136 wd2137 hJ hm
   unfold M.spec_l26DrawTable_j1 at hm
   obtain ⟨f2138, f2139, f2140, f2141, hL⟩ := hJ
   refine CW.condM (t := s_j1) f2141 hm (fun hb2142 hm => ?_) (fun hb2142 hm => ?_)
   · refine CSR ?_
     refine OV (.agg #[(.int .i64 x2123.1.Boats), v2126, v2128]) rfl (x_loadN (cs := [(.int .i64 x2123.1.Boats), v2126, v2128]) U26 Tryz_T26 rfl f2140 (hL.cellsB 0 rfl (o := 0) (l := [(.int .i64 x2123.1.Boats), v2126, v2128]) (by intro j u hj; exact (by simpa using hj)))) ?_
     refine OW.cons (S_storeN (l := [(.int .i64 x2123.1.Boats), v2126, v2128]) (cs' := #[(.int .i64 x2123.1.Boats), v2126, v2128]) hL 5 rfl Tryz_T26 f2139 rfl (List.forall_mem_cons.2 ⟨rfl, (List.forall_mem_cons.2 ⟨rdL_one (hL.rdO 1 rfl), (List.forall_mem_cons.2 ⟨rdL_one (hL.rdO 2 rfl), (fun _ h => by cases h)⟩)⟩)⟩) rfl (Nat.le_of_ble_eq_true rfl) rfl ?_)
     intro wd2143 hL
     refine OW.nil ?_
     refine CW.ret ?_
     have hL := hL.cndIn 1 rfl (M.spec_IsTable x2123.1 = some true)
     simp only [lC, lD] at hL
     have hL := hL.rdxIn 2 rfl
     simp only [lC, lD] at hL
     obtain rfl := Option.some.inj hm
     exact RRc rfl f2139 (run_loadBlk U26 Tryz_T26 (hL.get 5 rfl) rfl) ⟨v2126, S2125, v2128, S2127, rfl, hL.mutOut 7 rfl [6, 1, 2] (by decide) (by decide) rfl⟩
   refine CW.skip ?_
   refine CSR ?_
   refine OV (.pointer (some ⟨b1, 0, none⟩)) rfl (x_mv f2138) ?_
   refine OV (.pointer (some ⟨b2133, 1, none⟩)) rfl (x_fieldAddr (fsz := 1) 0 1 1 U26 rfl Tryz_T24 rfl f2140 rfl) ?_
   refine OV v2126 rfl (x_load1 U24 rfl rfl (hL.cellB 0 rfl rfl)) ?_
   refine OV (.int .i64 (x2123.1.Points.length : Int)) rfl (x_lenR U24 rfl (hL.rdO 1 rfl)) ?_
   obtain ⟨x2144, hx2145, hm⟩ := bndE hm
   refine OW.cons (OP.call rfl (x_call (vs := [(.pointer (some ⟨b1, 0, none⟩)), (.int .i64 (x2123.1.Points.length : Int))]) Tryz_C40 ⟨rfl, rfl, trivial⟩) (M.spec_l01Next_ok _ (Src.mk a0.code s_l1.1 s_l1.2.1) (hL.exZ 7 6 (by decide) rfl rfl h3) (hL.get 6 rfl) (x2123.1.Points.length : Int) hx2145) ?_)
   rintro e2146 wd2147 ⟨rfl, hF2148⟩
   refine ⟨_, rfl, ?_⟩
   have hL := hL.mut 6 rfl hF2148
   simp only [lA, lB, lC, lD] at hL
   refine OV (.int .i64 x2144.1) rfl (x_assign) ?_
   refine ONR ?_
   refine OV (.pointer (some ⟨b1, 0, none⟩)) rfl (x_mv f2138) ?_
   refine OV (.pointer (some ⟨b2133, 0, none⟩)) rfl (x_fieldAddr (fsz := 1) 0 0 0 U26 rfl Tryz_T2 rfl f2140 rfl) ?_
   refine OV (.int .i64 x2123.1.Boats) rfl (x_load1 U2 rfl rfl (hL.cellB 0 rfl rfl)) ?_
   obtain ⟨x2149, hx2150, hm⟩ := bndE hm
   refine OW.cons (OP.call rfl (x_call (vs := [(.pointer (some ⟨b1, 0, none⟩)), (.int .i64 x2123.1.Boats)]) Tryz_C40 ⟨rfl, rfl, trivial⟩) (M.spec_l01Next_ok _ (Src.mk a0.code x2144.2.1 x2144.2.2) (hL.exZ 7 6 (by decide) rfl rfl h3) (hL.get 6 rfl) x2123.1.Boats hx2150) ?_)
   rintro e2151 wd2152 ⟨rfl, hF2153⟩
   refine ⟨_, rfl, ?_⟩
   have hL := hL.mut 6 rfl hF2153
   simp only [lA, lB, lC, lD] at hL
   refine OV (.int .i64 x2149.1) rfl (x_assign) ?_
   refine OW.nil ?_
   refine CW.seqJ (fun (s_j2 : Int × Int × (List (List Int)) × (List (List Int))) (F : Fr) (w : World) => ∃ (v2711 : Value) (S2712 : Nat → Prop) (v2713 : Value) (S2714 : Nat → Prop), F 2 = (.pointer (some ⟨b6, 0, none⟩)) ∧ F 7 = (.pointer (some ⟨b2133, 0, none⟩)) ∧ Hp w0 [Ent.cnd (M.spec_IsTable (Table.mk x2123.1.Boats s_j2.2.2.1 s_j2.2.2.2) = some true) 27 S2712 v2711 s_j2.2.2.1, Ent.rdx S2714 v2713 s_j2.2.2.2, Ent.blk b2133 26 #[(.int .i64 x2123.1.Boats), v2711, v2713], Ent.blk b15 38 #[(.int .i64 x7.1.Boats), (.int .i64 x7.1.Scheme), v10], Ent.own 101 S2112 v10 s_l1.2.2.1, Ent.blk b6 26 #[(.int .i64 0), (.slice none 0 0), (.slice none 0 0)], Ent.blk b1 92 #[v2, (.int .i64 s_j2.1), (.int .i64 s_j2.2.1)], Ent.frz w0 (Ent.blk b1 92 #[v2, .int .i64 a0.at_, .int .i64 a0.seed]).S] w) (fun s_j2 => M.spec_l26DrawTable_j2 x2123 s_j2 = some r) ?_ ?_
   · refine CSR ?_
     refine OV (.pointer (some ⟨b1, 0, none⟩)) rfl (x_mv f2138) ?_
     obtain ⟨x2720, hx2721, hm⟩ := bndE hm
     refine OW.cons (OP.call rfl (x_call (vs := [(.pointer (some ⟨b1, 0, none⟩)), (.int .i64 20)]) Tryz_C40 ⟨rfl, rfl, trivial⟩) (M.spec_l01Next_ok _ (Src.mk a0.code x2149.2.1 x2149.2.2) (hL.exZ 7 6 (by decide) rfl rfl h3) (hL.get 6 rfl) 20 hx2721) ?_)
     rintro e2722 wd2723 ⟨rfl, hF2724⟩
     refine ⟨_, rfl, ?_⟩
     have hL := hL.mut 6 rfl hF2724
     simp only [lA, lB, lC, lD] at hL
     refine OW.nil ?_
     refine CW.blockJ (fun (s_j3 : Int × Int × (List (List Int)) × (List (List Int))) (F : Fr) (w : World) => ∃ (v2997 : Value) (S2998 : Nat → Prop) (v2999 : Value) (S3000 : Nat → Prop), F 2 = (.pointer (some ⟨b6, 0, none⟩)) ∧ F 7 = (.pointer (some ⟨b2133, 0, none⟩)) ∧ Hp w0 [Ent.cnd (M.spec_IsTable (Table.mk x2123.1.Boats s_j3.2.2.1 s_j3.2.2.2) = some true) 27 S2998 v2997 s_j3.2.2.1, Ent.rdx S3000 v2999 s_j3.2.2.2, Ent.blk b2133 26 #[(.int .i64 x2123.1.Boats), v2997, v2999], Ent.blk b15 38 #[(.int .i64 x7.1.Boats), (.int .i64 x7.1.Scheme), v10], Ent.own 101 S2112 v10 s_l1.2.2.1, Ent.blk b6 26 #[(.int .i64 0), (.slice none 0 0), (.slice none 0 0)], Ent.blk b1 92 #[v2, (.int .i64 s_j3.1), (.int .i64 s_j3.2.1)], Ent.frz w0 (Ent.blk b1 92 #[v2, .int .i64 a0.at_, .int .i64 a0.seed]).S] w) (fun s_j3 => M.spec_l26DrawTable_j3 x2123 s_j3 = some r) ?_ ?_
     · refine CSR ?_
       refine OV (.bool (x2720.1 == 0)) rfl (x_eql rfl rfl) ?_
       refine OV (.bool (x2720.1 == 0)) rfl (x_assign) ?_
       refine OW.nil ?_
       refine CW.condM (t := x2720.1 == 0) rfl hm (fun hb3005 hm => ?_) (fun hb3005 hm => ?_)
       · obtain ⟨wz3006, hL, ho3007⟩ := hL.freeze 1 rfl
         simp only [lC, lD] at hL
         obtain ⟨wz3008, hL, ho3009⟩ := hL.freeze 2 rfl
         simp only [lC, lD] at hL
         obtain ⟨wz3010, hL, ho3011⟩ := hL.freeze 4 rfl
         simp only [lC, lD] at hL
         refine CW.drawH (fun w' => Hp w0 [Ent.blk b2133 26 #[(.int .i64 x2123.1.Boats), v2126, v2128], Ent.frzS wz3008 S2127, Ent.blk b15 38 #[(.int .i64 x7.1.Boats), (.int .i64 x7.1.Scheme), v10], Ent.frzS wz3010 S2112, Ent.blk b6 26 #[(.int .i64 0), (.slice none 0 0), (.slice none 0 0)], Ent.frz w0 (Ent.blk b1 92 #[v2, .int .i64 a0.at_, .int .i64 a0.seed]).S] w') Tryz_mixed ?_
         have hL := hL.call (Mod.drew _)
         have hS := (hL.sel [0, 2, 3, 4, 5, 7] (by decide) rfl)
         refine DH.take 0 rfl (by kernel_rfl) (by kernel_rfl) (by kernel_rfl) rfl rfl hS (YH.val (v := (.pointer (some ⟨b2133, 1, none⟩))) (fun w' hS' => x_fieldAddr (fsz := 1) 0 1 1 U26 rfl Tryz_T24 rfl f2140 rfl)) ?_
         have hS := (hL.sel [0, 2, 3, 4, 5, 7] (by decide) rfl)
         refine DH.take 1 rfl (by kernel_rfl) (by kernel_rfl) (by kernel_rfl) rfl rfl hS (YH.val (v := v2126) (fun w' hS' => x_load1 U24 rfl rfl (hS'.cellB 0 rfl rfl))) ?_
         have hS := (hL.sel [0, 2, 3, 4, 5, 7] (by decide) rfl)
         refine DH.take 2 rfl (by kernel_rfl) (by kernel_rfl) (by kernel_rfl) rfl rfl hS (YH.val (v := (.int .i64 x2144.1)) (fun w' hS' => x_move)) ?_
         have hS := (hL.sel [0, 2, 3, 4, 5, 7] (by decide) rfl)
         obtain ⟨x3045, ha3046, hm⟩ := bndE hm
         obtain ⟨hz3047, ha3055⟩ := idxE ha3046
         obtain ⟨b3048, q3049, v3050, hix3051, hs3052, hc3053, hr3054⟩ := rdN_at ho3007.1.rdL hz3047 ha3055
         refine DH.take 3 rfl (by kernel_rfl) (by kernel_rfl) (by kernel_rfl) rfl rfl hS (YH.val (v := (.pointer (some ⟨b3048, q3049, none⟩))) (fun w' hS' => x_ix U24 Tryz_T27 rfl rfl hix3051)) ?_
         have hS := (hL.sel [0, 2, 3, 4, 5, 7] (by decide) rfl)
         refine DH.take 5 rfl (by kernel_rfl) (by kernel_rfl) (by kernel_rfl) rfl rfl hS (YH.val (v := (.int .i64 x2149.1)) (fun w' hS' => x_move)) ?_
         have hS := (hL.sel [0, 2, 3, 4, 5, 7] (by decide) rfl)
         refine DH.take 6 rfl (by kernel_rfl) (by kernel_rfl) (by kernel_rfl) rfl rfl hS (YH.val (v := (.pointer (some ⟨b1, 0, none⟩))) (fun w' hS' => x_mv f2138)) ?_
         obtain ⟨x3056, hx3057, hm⟩ := bndE hm
         obtain ⟨x3061, ha3062, hm⟩ := bndE hm
         refine DH.node (listed' := (bma 11 2047)) (fuel' := 0) (fun (F : Fr) (w : World) => ∃ (S3103 : Nat → Prop), F 2 = (.pointer (some ⟨b6, 0, none⟩)) ∧ F 7 = (.pointer (some ⟨b2133, 0, none⟩)) ∧ Hp w0 [Ent.blk b2133 26 #[(.int .i64 x2123.1.Boats), v2126, v2128], Ent.own 27 S3103 v2126 (x2123.1.Points.set (x2144.1 : Int).toNat (x3045.set (x2149.1 : Int).toNat (w64 (10000 + x3056.1)))), Ent.frzS wz3008 S2127, Ent.blk b15 38 #[(.int .i64 x7.1.Boats), (.int .i64 x7.1.Scheme), v10], Ent.frzS wz3010 S2112, Ent.blk b6 26 #[(.int .i64 0), (.slice none 0 0), (.slice none 0 0)], Ent.blk b1 92 #[v2, (.int .i64 x3056.2.1), (.int .i64 x3056.2.2)], Ent.frz w0 (Ent.blk b1 92 #[v2, .int .i64 a0.at_, .int .i64 a0.seed]).S] w) ?_ (fun hN3099 => ?_)
         · intro F3107 wd3108 hJ
           obtain ⟨S3103, f3109, f3110, hL⟩ := hJ
           refine DH.done (by kernel_rfl) ?_
           have hL := hL.thaw 2 rfl ho3009
           have hL := hL.thaw 4 rfl ho3011
           have hL := hL.cndIn 1 rfl (M.spec_IsTable (Table.mk x2123.1.Boats (x2123.1.Points.set (x2144.1 : Int).toNat (x3045.set (x2149.1 : Int).toNat (w64 (10000 + x3056.1)))) x2123.1.Codes) = some true)
           simp only [lC, lD] at hL
           have hL := hL.rdxIn 2 rfl
           simp only [lC, lD] at hL
           have hL := hL.sel [1, 2, 0, 3, 4, 5, 6, 7] (by decide) rfl
           exact ⟨(x3056.2.1, x3056.2.2, x2123.1.Points.set (x2144.1 : Int).toNat (x3045.set (x2149.1 : Int).toNat (w64 (10000 + x3056.1))), x2123.1.Codes), hm, ⟨v2126, S3103, v2128, S2127, f3109, f3110, hL⟩⟩
         refine DH.node (listed' := (bma 11 1023)) (fuel' := 1) (fun (F : Fr) (w : World) => ∃ (b3104 : Nat) (q3105 : Nat), IxAddr v3050 (GoT.sz Int) x2149.1 b3104 q3105 ∧ F 2 = (.pointer (some ⟨b6, 0, none⟩)) ∧ F 7 = (.pointer (some ⟨b2133, 0, none⟩)) ∧ F 95 = (.int .i64 (w64 (10000 + x3056.1))) ∧ F 96 = (.pointer (some ⟨b3104, q3105, none⟩)) ∧ Hp w0 [Ent.blk b2133 26 #[(.int .i64 x2123.1.Boats), v2126, v2128], Ent.frzS wz3006 S2125, Ent.frzS wz3008 S2127, Ent.blk b15 38 #[(.int .i64 x7.1.Boats), (.int .i64 x7.1.Scheme), v10], Ent.frzS wz3010 S2112, Ent.blk b6 26 #[(.int .i64 0), (.slice none 0 0), (.slice none 0 0)], Ent.blk b1 92 #[v2, (.int .i64 x3056.2.1), (.int .i64 x3056.2.2)], Ent.frz w0 (Ent.blk b1 92 #[v2, .int .i64 a0.at_, .int .i64 a0.seed]).S] w) ?_ (fun hN3100 => ?_)
         · intro F3111 wd3112 hJ
           obtain ⟨b3104, q3105, hix3106, f3113, f3114, f3115, f3116, hL⟩ := hJ
           obtain ⟨_, ha3085⟩ := idxE ha3062
           have hc3118 := hL.cellF 1 rfl hs3052 hc3053
           have hL := hL.thaw 1 rfl ho3007
           simp only [lC, lD] at hL
           refine DH.only 10 rfl (by kernel_rfl) (S_inRow (α := Int) (x3045.set (x2149.1 : Int).toNat (w64 (10000 + x3056.1))) (x3045.set (x2149.1 : Int).toNat (w64 (10000 + x3056.1))) rfl hL 1 rfl hix3051 ha3055 hc3118 (fun E2 S1 hL hK => S_storeX (j := 0) (w64 (10000 + x3056.1)) hL 0 rfl Tryz_T2 hix3106 ha3085 f3116 rfl rfl f3115 rfl rfl hK) ?_)
           intro wd3117 S3119 hL
           simp only [lC, lD] at hL
           refine ⟨(hL.sel [0, 2, 3, 4, 5, 7] (by decide) rfl), ?_⟩
           exact DH.relist (listed' := (bma 11 2047)) (by kernel_rfl) (hN3099 _ _ ⟨S3119, f3113, f3114, hL⟩)
         refine DH.node (listed' := (bma 11 495)) (fuel' := 3) (fun (F : Fr) (w : World) => F 2 = (.pointer (some ⟨b6, 0, none⟩)) ∧ F 7 = (.pointer (some ⟨b2133, 0, none⟩)) ∧ F 90 = (.pointer (some ⟨b3048, q3049, none⟩)) ∧ F 92 = (.int .i64 x2149.1) ∧ F 95 = (.int .i64 (w64 (10000 + x3056.1))) ∧ Hp w0 [Ent.blk b2133 26 #[(.int .i64 x2123.1.Boats), v2126, v2128], Ent.frzS wz3006 S2125, Ent.frzS wz3008 S2127, Ent.blk b15 38 #[(.int .i64 x7.1.Boats), (.int .i64 x7.1.Scheme), v10], Ent.frzS wz3010 S2112, Ent.blk b6 26 #[(.int .i64 0), (.slice none 0 0), (.slice none 0 0)], Ent.blk b1 92 #[v2, (.int .i64 x3056.2.1), (.int .i64 x3056.2.2)], Ent.frz w0 (Ent.blk b1 92 #[v2, .int .i64 a0.at_, .int .i64 a0.seed]).S] w) ?_ (fun hN3101 => ?_)
         · intro F3122 wd3123 hJ
           obtain ⟨f3124, f3125, f3126, f3127, f3128, hL⟩ := hJ
           refine DH.only 4 rfl (by kernel_rfl) (OP.val (v := v3050) rfl (x_load1 U27 rfl f3126 (hL.cellF 1 rfl hs3052 hc3053)) ?_)
           refine ⟨(hL.sel [0, 2, 3, 4, 5, 7] (by decide) rfl), ?_⟩
           have hS := (hL.sel [0, 2, 3, 4, 5, 7] (by decide) rfl)
           obtain ⟨hz3129, ha3133⟩ := idxE ha3062
           obtain ⟨b3130, q3131, hix3132⟩ := rdL_ix (hL.rdF 1 rfl hr3054) hz3129 ha3133
           refine DH.take 9 rfl (by kernel_rfl) (by kernel_rfl) (by kernel_rfl) rfl rfl hS (YH.val (v := (.pointer (some ⟨b3130, q3131, none⟩))) (fun w' hS' => x_ix U27 Tryz_T2 rfl f3127 hix3132)) ?_
           exact DH.relist (listed' := (bma 11 1023)) (by kernel_rfl) (hN3100 _ _ ⟨b3130, q3131, hix3132, f3124, f3125, f3128, rfl, hL⟩)
         refine DH.node (listed' := (bma 11 127)) (fuel' := 4) (fun (F : Fr) (w : World) => F 2 = (.pointer (some ⟨b6, 0, none⟩)) ∧ F 7 = (.pointer (some ⟨b2133, 0, none⟩)) ∧ F 91 = v3050 ∧ F 92 = (.int .i64 x2149.1) ∧ F 93 = (.pointer (some ⟨b1, 0, none⟩)) ∧ Hp w0 [Ent.blk b2133 26 #[(.int .i64 x2123.1.Boats), v2126, v2128], Ent.frzS wz3006 S2125, Ent.frzS wz3008 S2127, Ent.blk b15 38 #[(.int .i64 x7.1.Boats), (.int .i64 x7.1.Scheme), v10], Ent.frzS wz3010 S2112, Ent.blk b6 26 #[(.int .i64 0), (.slice none 0 0), (.slice none 0 0)], Ent.blk b1 92 #[v2, (.int .i64 x2720.2.1), (.int .i64 x2720.2.2)], Ent.frz w0 (Ent.blk b1 92 #[v2, .int .i64 a0.at_, .int .i64 a0.seed]).S] w) ?_ (fun hN3102 => ?_)
         · intro F3134 wd3135 hJ
           obtain ⟨f3136, f3137, f3138, f3139, f3140, hL⟩ := hJ
           refine DH.only 7 rfl (by kernel_rfl) (OP.call rfl (x_call (vs := [(.pointer (some ⟨b1, 0, none⟩)), (.int .i64 2)]) Tryz_C40 ⟨f3140, rfl, trivial⟩) (M.spec_l01Next_ok _ (Src.mk a0.code x2720.2.1 x2720.2.2) (hL.exZ 7 6 (by decide) rfl rfl h3) (hL.get 6 rfl) 2 hx3057) ?_)
           rintro e3141 wd3142 ⟨rfl, hF3143⟩
           refine ⟨_, rfl, ?_⟩
           have hL := hL.mut 6 rfl hF3143
           simp only [lA, lB, lC, lD] at hL
           refine ⟨(hL.sel [0, 2, 3, 4, 5, 7] (by decide) rfl), ?_⟩
           have hS := (hL.sel [0, 2, 3, 4, 5, 7] (by decide) rfl)
           refine DH.take 8 rfl (by kernel_rfl) (by kernel_rfl) (by kernel_rfl) rfl rfl hS (YH.val (v := (.int .i64 (w64 (10000 + x3056.1)))) (fun w' hS' => x_add rfl rfl)) ?_
           have hS := (hL.sel [0, 2, 3, 4, 5, 7] (by decide) rfl)
           obtain ⟨hz3144, ha3148⟩ := idxE ha3062
           obtain ⟨b3145, q3146, hix3147⟩ := rdL_ix (hL.rdF 1 rfl hr3054) hz3144 ha3148
           refine DH.take 9 rfl (by kernel_rfl) (by kernel_rfl) (by kernel_rfl) rfl rfl hS (YH.val (v := (.pointer (some ⟨b3145, q3146, none⟩))) (fun w' hS' => x_ix U27 Tryz_T2 f3138 f3139 hix3147)) ?_
           exact DH.relist (listed' := (bma 11 1023)) (by kernel_rfl) (hN3100 _ _ ⟨b3145, q3146, hix3147, f3136, f3137, rfl, rfl, hL⟩)
         refine DH.all (rs := [4, 7]) (by kernel_rfl) (by simp) ?_
         intro i3149 hi3150
         simp only [List.mem_cons, List.not_mem_nil, or_false] at hi3150
         rcases hi3150 with rfl | rfl
         · refine ⟨_, rfl, ?_⟩
           refine OP.val (v := v3050) rfl (x_load1 U27 rfl rfl (hL.cellF 1 rfl hs3052 hc3053)) ?_
           refine ⟨(hL.sel [0, 2, 3, 4, 5, 7] (by decide) rfl), ?_⟩
           exact DH.relist (listed' := (bma 11 127)) (by kernel_rfl) (hN3102 _ _ ⟨f2139, f2140, rfl, rfl, rfl, hL⟩)
         refine ⟨_, rfl, ?_⟩
         refine OP.call rfl (x_call (vs := [(.pointer (some ⟨b1, 0, none⟩)), (.int .i64 2)]) Tryz_C40 ⟨rfl, rfl, trivial⟩) (M.spec_l01Next_ok _ (Src.mk a0.code x2720.2.1 x2720.2.2) (hL.exZ 7 6 (by decide) rfl rfl h3) (hL.get 6 rfl) 2 hx3057) ?_
         rintro e3151 wd3152 ⟨rfl, hF3153⟩
         refine ⟨_, rfl, ?_⟩
         have hL := hL.mut 6 rfl hF3153
         simp only [lA, lB, lC, lD] at hL
         refine ⟨(hL.sel [0, 2, 3, 4, 5, 7] (by decide) rfl), ?_⟩
         have hS := (hL.sel [0, 2, 3, 4, 5, 7] (by decide) rfl)
         refine DH.take 8 rfl (by kernel_rfl) (by kernel_rfl) (by kernel_rfl) rfl rfl hS (YH.val (v := (.int .i64 (w64 (10000 + x3056.1)))) (fun w' hS' => x_add rfl rfl)) ?_
         exact DH.relist (listed' := (bma 11 495)) (by kernel_rfl) (hN3101 _ _ ⟨f2139, f2140, rfl, rfl, rfl, hL⟩)
       refine CSR ?_
       refine OV (.bool (x2720.1 == 1)) rfl (x_eql rfl rfl) ?_
       refine OV (.bool (x2720.1 == 1)) rfl (x_assign) ?_
       refine OW.nil ?_
       refine CW.condM (t := x2720.1 == 1) rfl hm (fun hb3154 hm => ?_) (fun hb3154 hm => ?_)
       · obtain ⟨wz3155, hL, ho3156⟩ := hL.freeze 1 rfl
         simp only [lC, lD] at hL
         obtain ⟨wz3157, hL, ho3158⟩ := hL.freeze 2 rfl
         simp only [lC, lD] at hL
         obtain ⟨wz3159, hL, ho3160⟩ := hL.freeze 4 rfl
         simp only [lC, lD] at hL
         refine CW.drawH (fun w' => Hp w0 [Ent.blk b2133 26 #[(.int .i64 x2123.1.Boats), v2126, v2128], Ent.frzS wz3155 S2125, Ent.blk b15 38 #[(.int .i64 x7.1.Boats), (.int .i64 x7.1.Scheme), v10], Ent.frzS wz3159 S2112, Ent.blk b6 26 #[(.int .i64 0), (.slice none 0 0), (.slice none 0 0)], Ent.frz w0 (Ent.blk b1 92 #[v2, .int .i64 a0.at_, .int .i64 a0.seed]).S] w') Tryz_mixed ?_
         have hL := hL.call (Mod.drew _)
         have hS := (hL.sel [0, 1, 3, 4, 5, 7] (by decide) rfl)
         refine DH.take 0 rfl (by kernel_rfl) (by kernel_rfl) (by kernel_rfl) rfl rfl hS (YH.val (v := (.pointer (some ⟨b2133, 2, none⟩))) (fun w' hS' => x_fieldAddr (fsz := 1) 0 2 2 U26 rfl Tryz_T24 rfl f2140 rfl)) ?_
         have hS := (hL.sel [0, 1, 3, 4, 5, 7] (by decide) rfl)
         refine DH.take 1 rfl (by kernel_rfl) (by kernel_rfl) (by kernel_rfl) rfl rfl hS (YH.val (v := v2128) (fun w' hS' => x_load1 U24 rfl rfl (hS'.cellB 0 rfl rfl))) ?_
         have hS := (hL.sel [0, 1, 3, 4, 5, 7] (by decide) rfl)
         refine DH.take 2 rfl (by kernel_rfl) (by kernel_rfl) (by kernel_rfl) rfl rfl hS (YH.val (v := (.int .i64 x2144.1)) (fun w' hS' => x_move)) ?_
         have hS := (hL.sel [0, 1, 3, 4, 5, 7] (by decide) rfl)
         obtain ⟨x3194, ha3195, hm⟩ := bndE hm
         obtain ⟨hz3196, ha3204⟩ := idxE ha3195
         obtain ⟨b3197, q3198, v3199, hix3200, hs3201, hc3202, hr3203⟩ := rdN_at ho3158.1.rdL hz3196 ha3204
         refine DH.take 3 rfl (by kernel_rfl) (by kernel_rfl) (by kernel_rfl) rfl rfl hS (YH.val (v := (.pointer (some ⟨b3197, q3198, none⟩))) (fun w' hS' => x_ix U24 Tryz_T27 rfl rfl hix3200)) ?_
         have hS := (hL.sel [0, 1, 3, 4, 5, 7] (by decide) rfl)
         refine DH.take 5 rfl (by kernel_rfl) (by kernel_rfl) (by kernel_rfl) rfl rfl hS (YH.val (v := (.int .i64 x2149.1)) (fun w' hS' => x_move)) ?_
         have hS := (hL.sel [0, 1, 3, 4, 5, 7] (by decide) rfl)
         refine DH.take 6 rfl (by kernel_rfl) (by kernel_rfl) (by kernel_rfl) rfl rfl hS (YH.val (v := (.pointer (some ⟨b1, 0, none⟩))) (fun w' hS' => x_mv f2138)) ?_
         obtain ⟨x3205, hx3206, hm⟩ := bndE hm
         obtain ⟨x3210, ha3211, hm⟩ := bndE hm
         refine DH.node (listed' := (bma 11 2047)) (fuel' := 0) (fun (F : Fr) (w : World) => ∃ (S3252 : Nat → Prop), F 2 = (.pointer (some ⟨b6, 0, none⟩)) ∧ F 7 = (.pointer (some ⟨b2133, 0, none⟩)) ∧ Hp w0 [Ent.blk b2133 26 #[(.int .i64 x2123.1.Boats), v2126, v2128], Ent.frzS wz3155 S2125, Ent.own 27 S3252 v2128 (x2123.1.Codes.set (x2144.1 : Int).toNat (x3194.set (x2149.1 : Int).toNat (w64 (10 - x3205.1)))), Ent.blk b15 38 #[(.int .i64 x7.1.Boats), (.int .i64 x7.1.Scheme), v10], Ent.frzS wz3159 S2112, Ent.blk b6 26 #[(.int .i64 0), (.slice none 0 0), (.slice none 0 0)], Ent.blk b1 92 #[v2, (.int .i64 x3205.2.1), (.int .i64 x3205.2.2)], Ent.frz w0 (Ent.blk b1 92 #[v2, .int .i64 a0.at_, .int .i64 a0.seed]).S] w) ?_ (fun hN3248 => ?_)
         · intro F3256 wd3257 hJ
           obtain ⟨S3252, f3258, f3259, hL⟩ := hJ
           refine DH.done (by kernel_rfl) ?_
           have hL := hL.thaw 1 rfl ho3156
           have hL := hL.thaw 4 rfl ho3160
           have hL := hL.cndIn 1 rfl (M.spec_IsTable (Table.mk x2123.1.Boats x2123.1.Points (x2123.1.Codes.set (x2144.1 : Int).toNat (x3194.set (x2149.1 : Int).toNat (w64 (10 - x3205.1))))) = some true)
           simp only [lC, lD] at hL
           have hL := hL.rdxIn 2 rfl
           simp only [lC, lD] at hL
           have hL := hL.sel [1, 2, 0, 3, 4, 5, 6, 7] (by decide) rfl
           exact ⟨(x3205.2.1, x3205.2.2, x2123.1.Points, x2123.1.Codes.set (x2144.1 : Int).toNat (x3194.set (x2149.1 : Int).toNat (w64 (10 - x3205.1)))), hm, ⟨v2126, S2125, v2128, S3252, f3258, f3259, hL⟩⟩
         refine DH.node (listed' := (bma 11 1023)) (fuel' := 1) (fun (F : Fr) (w : World) => ∃ (b3253 : Nat) (q3254 : Nat), IxAddr v3199 (GoT.sz Int) x2149.1 b3253 q3254 ∧ F 2 = (.pointer (some ⟨b6, 0, none⟩)) ∧ F 7 = (.pointer (some ⟨b2133, 0, none⟩)) ∧ F 107 = (.int .i64 (w64 (10 - x3205.1))) ∧ F 108 = (.pointer (some ⟨b3253, q3254, none⟩)) ∧ Hp w0 [Ent.blk b2133 26 #[(.int .i64 x2123.1.Boats), v2126, v2128], Ent.frzS wz3155 S2125, Ent.frzS wz3157 S2127, Ent.blk b15 38 #[(.int .i64 x7.1.Boats), (.int .i64 x7.1.Scheme), v10], Ent.frzS wz3159 S2112, Ent.blk b6 26 #[(.int .i64 0), (.slice none 0 0), (.slice none 0 0)], Ent.blk b1 92 #[v2, (.int .i64 x3205.2.1), (.int .i64 x3205.2.2)], Ent.frz w0 (Ent.blk b1 92 #[v2, .int .i64 a0.at_, .int .i64 a0.seed]).S] w) ?_ (fun hN3249 => ?_)
         · intro F3260 wd3261 hJ
           obtain ⟨b3253, q3254, hix3255, f3262, f3263, f3264, f3265, hL⟩ := hJ
           obtain ⟨_, ha3234⟩ := idxE ha3211
           have hc3267 := hL.cellF 2 rfl hs3201 hc3202
           have hL := hL.thaw 2 rfl ho3158
           simp only [lC, lD] at hL
           refine DH.only 10 rfl (by kernel_rfl) (S_inRow (α := Int) (x3194.set (x2149.1 : Int).toNat (w64 (10 - x3205.1))) (x3194.set (x2149.1 : Int).toNat (w64 (10 - x3205.1))) rfl hL 2 rfl hix3200 ha3204 hc3267 (fun E2 S1 hL hK => S_storeX (j := 0) (w64 (10 - x3205.1)) hL 0 rfl Tryz_T2 hix3255 ha3234 f3265 rfl rfl f3264 rfl rfl hK) ?_)
           intro wd3266 S3268 hL
           simp only [lC, lD] at hL
           refine ⟨(hL.sel [0, 1, 3, 4, 5, 7] (by decide) rfl), ?_⟩
           exact DH.relist (listed' := (bma 11 2047)) (by kernel_rfl) (hN3248 _ _ ⟨S3268, f3262, f3263, hL⟩)
         refine DH.node (listed' := (bma 11 495)) (fuel' := 3) (fun (F : Fr) (w : World) => F 2 = (.pointer (some ⟨b6, 0, none⟩)) ∧ F 7 = (.pointer (some ⟨b2133, 0, none⟩)) ∧ F 102 = (.pointer (some ⟨b3197, q3198, none⟩)) ∧ F 104 = (.int .i64 x2149.1) ∧ F 107 = (.int .i64 (w64 (10 - x3205.1))) ∧ Hp w0 [Ent.blk b2133 26 #[(.int .i64 x2123.1.Boats), v2126, v2128], Ent.frzS wz3155 S2125, Ent.frzS wz3157 S2127, Ent.blk b15 38 #[(.int .i64 x7.1.Boats), (.int .i64 x7.1.Scheme), v10], Ent.frzS wz3159 S2112, Ent.blk b6 26 #[(.int .i64 0), (.slice none 0 0), (.slice none 0 0)], Ent.blk b1 92 #[v2, (.int .i64 x3205.2.1), (.int .i64 x3205.2.2)], Ent.frz w0 (Ent.blk b1 92 #[v2, .int .i64 a0.at_, .int .i64 a0.seed]).S] w) ?_ (fun hN3250 => ?_)
         · intro F3271 wd3272 hJ
           obtain ⟨f3273, f3274, f3275, f3276, f3277, hL⟩ := hJ
           refine DH.only 4 rfl (by kernel_rfl) (OP.val (v := v3199) rfl (x_load1 U27 rfl f3275 (hL.cellF 2 rfl hs3201 hc3202)) ?_)
           refine ⟨(hL.sel [0, 1, 3, 4, 5, 7] (by decide) rfl), ?_⟩
           have hS := (hL.sel [0, 1, 3, 4, 5, 7] (by decide) rfl)
           obtain ⟨hz3278, ha3282⟩ := idxE ha3211
           obtain ⟨b3279, q3280, hix3281⟩ := rdL_ix (hL.rdF 2 rfl hr3203) hz3278 ha3282
           refine DH.take 9 rfl (by kernel_rfl) (by kernel_rfl) (by kernel_rfl) rfl rfl hS (YH.val (v := (.pointer (some ⟨b3279, q3280, none⟩))) (fun w' hS' => x_ix U27 Tryz_T2 rfl f3276 hix3281)) ?_
           exact DH.relist (listed' := (bma 11 1023)) (by kernel_rfl) (hN3249 _ _ ⟨b3279, q3280, hix3281, f3273, f3274, f3277, rfl, hL⟩)
         refine DH.node (listed' := (bma 11 127)) (fuel' := 4) (fun (F : Fr) (w : World) => F 2 = (.pointer (some ⟨b6, 0, none⟩)) ∧ F 7 = (.pointer (some ⟨b2133, 0, none⟩)) ∧ F 103 = v3199 ∧ F 104 = (.int .i64 x2149.1) ∧ F 105 = (.pointer (some ⟨b1, 0, none⟩)) ∧ Hp w0 [Ent.blk b2133 26 #[(.int .i64 x2123.1.Boats), v2126, v2128], Ent.frzS wz3155 S2125, Ent.frzS wz3157 S2127, Ent.blk b15 38 #[(.int .i64 x7.1.Boats), (.int .i64 x7.1.Scheme), v10], Ent.frzS wz3159 S2112, Ent.blk b6 26 #[(.int .i64 0), (.slice none 0 0), (.slice none 0 0)], Ent.blk b1 92 #[v2, (.int .i64 x2720.2.1), (.int .i64 x2720.2.2)], Ent.frz w0 (Ent.blk b1 92 #[v2, .int .i64 a0.at_, .int .i64 a0.seed]).S] w) ?_ (fun hN3251 => ?_)
         · intro F3283 wd3284 hJ
           obtain ⟨f3285, f3286, f3287, f3288, f3289, hL⟩ := hJ
           refine DH.only 7 rfl (by kernel_rfl) (OP.call rfl (x_call (vs := [(.pointer (some ⟨b1, 0, none⟩)), (.int .i64 2)]) Tryz_C40 ⟨f3289, rfl, trivial⟩) (M.spec_l01Next_ok _ (Src.mk a0.code x2720.2.1 x2720.2.2) (hL.exZ 7 6 (by decide) rfl rfl h3) (hL.get 6 rfl) 2 hx3206) ?_)
           rintro e3290 wd3291 ⟨rfl, hF3292⟩
           refine ⟨_, rfl, ?_⟩
           have hL := hL.mut 6 rfl hF3292
           simp only [lA, lB, lC, lD] at hL
           refine ⟨(hL.sel [0, 1, 3, 4, 5, 7] (by decide) rfl), ?_⟩
           have hS := (hL.sel [0, 1, 3, 4, 5, 7] (by decide) rfl)
           refine DH.take 8 rfl (by kernel_rfl) (by kernel_rfl) (by kernel_rfl) rfl rfl hS (YH.val (v := (.int .i64 (w64 (10 - x3205.1)))) (fun w' hS' => x_sub rfl rfl)) ?_
           have hS := (hL.sel [0, 1, 3, 4, 5, 7] (by decide) rfl)
           obtain ⟨hz3293, ha3297⟩ := idxE ha3211
           obtain ⟨b3294, q3295, hix3296⟩ := rdL_ix (hL.rdF 2 rfl hr3203) hz3293 ha3297
           refine DH.take 9 rfl (by kernel_rfl) (by kernel_rfl) (by kernel_rfl) rfl rfl hS (YH.val (v := (.pointer (some ⟨b3294, q3295, none⟩))) (fun w' hS' => x_ix U27 Tryz_T2 f3287 f3288 hix3296)) ?_
           exact DH.relist (listed' := (bma 11 1023)) (by kernel_rfl) (hN3249 _ _ ⟨b3294, q3295, hix3296, f3285, f3286, rfl, rfl, hL⟩)
         refine DH.all (rs := [4, 7]) (by kernel_rfl) (by simp) ?_
         intro i3298 hi3299
         simp only [List.mem_cons, List.not_mem_nil, or_false] at hi3299
         rcases hi3299 with rfl | rfl
         · refine ⟨_, rfl, ?_⟩
           refine OP.val (v := v3199) rfl (x_load1 U27 rfl rfl (hL.cellF 2 rfl hs3201 hc3202)) ?_
           refine ⟨(hL.sel [0, 1, 3, 4, 5, 7] (by decide) rfl), ?_⟩
           exact DH.relist (listed' := (bma 11 127)) (by kernel_rfl) (hN3251 _ _ ⟨f2139, f2140, rfl, rfl, rfl, hL⟩)
         refine ⟨_, rfl, ?_⟩
         refine OP.call rfl (x_call (vs := [(.pointer (some ⟨b1, 0, none⟩)), (.int .i64 2)]) Tryz_C40 ⟨rfl, rfl, trivial⟩) (M.spec_l01Next_ok _ (Src.mk a0.code x2720.2.1 x2720.2.2) (hL.exZ 7 6 (by decide) rfl rfl h3) (hL.get 6 rfl) 2 hx3206) ?_
         rintro e3300 wd3301 ⟨rfl, hF3302⟩
         refine ⟨_, rfl, ?_⟩
         have hL := hL.mut 6 rfl hF3302
         simp only [lA, lB, lC, lD] at hL
         refine ⟨(hL.sel [0, 1, 3, 4, 5, 7] (by decide) rfl), ?_⟩
         have hS := (hL.sel [0, 1, 3, 4, 5, 7] (by decide) rfl)
         refine DH.take 8 rfl (by kernel_rfl) (by kernel_rfl) (by kernel_rfl) rfl rfl hS (YH.val (v := (.int .i64 (w64 (10 - x3205.1)))) (fun w' hS' => x_sub rfl rfl)) ?_
         exact DH.relist (listed' := (bma 11 495)) (by kernel_rfl) (hN3250 _ _ ⟨f2139, f2140, rfl, rfl, rfl, hL⟩)
       refine CSR ?_
       refine OV (.bool (x2720.1 == 2)) rfl (x_eql rfl rfl) ?_
       refine OV (.bool (x2720.1 == 2)) rfl (x_assign) ?_
       refine OW.nil ?_
       refine CW.condM (t := x2720.1 == 2) rfl hm (fun hb3303 hm => ?_) (fun hb3303 hm => ?_)
       · obtain ⟨wz3304, hL, ho3305⟩ := hL.freeze 1 rfl
         simp only [lC, lD] at hL
         obtain ⟨wz3306, hL, ho3307⟩ := hL.freeze 2 rfl
         simp only [lC, lD] at hL
         obtain ⟨wz3308, hL, ho3309⟩ := hL.freeze 4 rfl
         simp only [lC, lD] at hL
         refine CW.draw Tryz_mixed ?_
         have hL := hL.call (Mod.drew _)
         refine DW.pre (fuel := 1) (fin := bma 11 1023) (C := fun w' => Mod None_ _ w') [0, 1, 2, 3, 4, 5, 6, 7, 8, 9] (Mod.refl _ _) (by kernel_rfl) (by kernel_rfl) ?_
         refine QW.cons rfl (QP.val (v := (.pointer (some ⟨b2133, 1, none⟩))) rfl (fun w' hm' => x_fieldAddr (fsz := 1) 0 1 1 U26 rfl Tryz_T24 rfl f2140 rfl) ?_)
         refine QW.cons rfl (QP.val (v := v2126) rfl (fun w' hm' => x_load1 U24 rfl rfl ((hL.call hm').cellB 0 rfl rfl)) ?_)
         refine QW.cons rfl (QP.val (v := (.int .i64 x2144.1)) rfl (fun w' hm' => x_move) ?_)
         refine QW.cons rfl (QP.val (v := (.pointer (some ⟨b2133, 1, none⟩))) rfl (fun w' hm' => x_fieldAddr (fsz := 1) 0 1 1 U26 rfl Tryz_T24 rfl f2140 rfl) ?_)
         refine QW.cons rfl (QP.val (v := v2126) rfl (fun w' hm' => x_load1 U24 rfl rfl ((hL.call hm').cellB 0 rfl rfl)) ?_)
         refine QW.cons rfl (QP.val (v := (.int .i64 x2144.1)) rfl (fun w' hm' => x_move) ?_)
         obtain ⟨x3310, ha3311, hm⟩ := bndE hm
         obtain ⟨hz3312, ha3320⟩ := idxE ha3311
         obtain ⟨b3313, q3314, v3315, hix3316, hs3317, hc3318, hr3319⟩ := rdN_at ho3305.1.rdL hz3312 ha3320
         refine QW.cons rfl (QP.val (v := (.pointer (some ⟨b3313, q3314, none⟩))) rfl (fun w' hm' => x_ix U24 Tryz_T27 rfl rfl hix3316) ?_)
         refine QW.cons rfl (QP.val (v := v3315) rfl (fun w' hm' => x_load1 U27 rfl rfl ((hL.call hm').cellF 1 rfl hs3317 hc3318)) ?_)
         obtain ⟨hc3323, hm⟩ := chkE hm
         obtain ⟨v3321, hs3322⟩ := subV_of (hL.rdF 1 rfl hr3319) hc3323
         refine QW.cons rfl (QP.val (v := v3321) rfl (fun w' hm' => x_slice1 U27 Tryz_T2 rfl rfl (subV_len (hL.rdF 1 rfl hr3319)) hs3322) ?_)
         obtain ⟨x3324, ha3325, hm⟩ := bndE hm
         obtain ⟨hz3326, ha3334⟩ := idxE ha3325
         obtain ⟨b3327, q3328, v3329, hix3330, hs3331, hc3332, hr3333⟩ := rdN_at ho3305.1.rdL hz3326 ha3334
         refine QW.cons rfl (QP.val (v := (.pointer (some ⟨b3327, q3328, none⟩))) rfl (fun w' hm' => x_ix U24 Tryz_T27 rfl rfl hix3330) ?_)
         refine QW.nil ?_
         intro wd3335 hmod
         have hL := hL.call hmod
         have hc3337 := hL.cellF 1 rfl hs3317 hc3318
         have hL := hL.thaw 1 rfl ho3305
         simp only [lC, lD] at hL
         refine DW.only 10 rfl (by kernel_rfl) (S_rowTail (subL x3310 1 (x3310.length : Int)) hL 1 rfl Tryz_T27 hix3316 ha3320 hc3337 (fun S w h => SubV.rdL hs3322 h) hix3330 rfl rfl ?_)
         intro wd3336 hL
         simp only [lC, lD] at hL
         obtain ⟨hC3338, hm⟩ := chkE hm
         have hL := hL.cndNo 1 rfl (M.spec_IsTable (Table.mk x2123.1.Boats (x2123.1.Points.set (x2144.1 : Int).toNat (subL x3310 1 (x3310.length : Int))) x2123.1.Codes) = some true) 27 hC3338
         simp only [lC, lD] at hL
         refine DW.done (by kernel_rfl) ?_
         have hL := hL.thaw 2 rfl ho3307
         have hL := hL.thaw 4 rfl ho3309
         have hL := hL.rdxIn 2 rfl
         simp only [lC, lD] at hL
         have hL := hL.sel [1, 2, 0, 3, 4, 5, 6, 7] (by decide) rfl
         exact ⟨(x2720.2.1, x2720.2.2, x2123.1.Points.set (x2144.1 : Int).toNat (subL x3310 1 (x3310.length : Int)), x2123.1.Codes), hm, ⟨v2126, S2125, v2128, S2127, f2139, f2140, hL⟩⟩
       refine CSR ?_
       refine OV (.bool (x2720.1 == 3)) rfl (x_eql rfl rfl) ?_
       refine OV (.bool (x2720.1 == 3)) rfl (x_assign) ?_
       refine OW.nil ?_
       refine CW.condM (t := x2720.1 == 3) rfl hm (fun hb3339 hm => ?_) (fun hb3339 hm => ?_)
       · refine CW.regionL ?_
         refine OV (.pointer (some ⟨b2133, 2, none⟩)) rfl (x_fieldAddr (fsz := 1) 0 2 2 U26 rfl Tryz_T24 rfl f2140 rfl) ?_
         refine OV v2128 rfl (x_load1 U24 rfl rfl (hL.cellB 0 rfl rfl)) ?_
         obtain ⟨hc3342, hm⟩ := chkE hm
         obtain ⟨v3340, hs3341⟩ := subV_of (hL.rdO 2 rfl) hc3342
         refine OV v3340 rfl (x_slice1 U24 Tryz_T27 rfl rfl (subV_len (hL.rdO 2 rfl)) hs3341) ?_
         refine OV (.pointer (some ⟨b2133, 2, none⟩)) rfl (x_fieldAddr (fsz := 1) 0 2 2 U26 rfl Tryz_T24 rfl f2140 rfl) ?_
         refine OW.cons (S_store (cs' := #[(.int .i64 x2123.1.Boats), v2126, v3340]) hL 0 rfl Tryz_T24 rfl (rdL_one (SubV.rdL hs3341 (hL.rdO 2 rfl))) rfl rfl rfl ?_)
         intro wd3343 hL
         refine OW.nil ?_
         have hL := hL.cndIn 1 rfl (M.spec_IsTable (Table.mk x2123.1.Boats x2123.1.Points (subL x2123.1.Codes 1 (x2123.1.Codes.length : Int))) = some true)
         simp only [lC, lD] at hL
         have hL := hL.rdxSub 2 rfl hs3341
         simp only [lC, lD] at hL
         have hL := hL.sel [1, 2, 0, 3, 4, 5, 6, 7] (by decide) rfl
         exact ⟨(x2720.2.1, x2720.2.2, x2123.1.Points, subL x2123.1.Codes 1 (x2123.1.Codes.length : Int)), hm, ⟨v2126, S2125, v3340, S2127, f2139, f2140, hL⟩⟩
       refine CW.seqJ (fun (s_j4 : Bool) (F : Fr) (w : World) => F 0 = (.pointer (some ⟨b1, 0, none⟩)) ∧ F 2 = (.pointer (some ⟨b6, 0, none⟩)) ∧ F 7 = (.pointer (some ⟨b2133, 0, none⟩)) ∧ F 9 = (.int .i64 x2144.1) ∧ F 10 = (.int .i64 x2149.1) ∧ F 127 = (.bool s_j4) ∧ Hp w0 [Ent.blk b2133 26 #[(.int .i64 x2123.1.Boats), v2126, v2128], Ent.own 27 S2125 v2126 x2123.1.Points, Ent.own 27 S2127 v2128 x2123.1.Codes, Ent.blk b15 38 #[(.int .i64 x7.1.Boats), (.int .i64 x7.1.Scheme), v10], Ent.own 101 S2112 v10 s_l1.2.2.1, Ent.blk b6 26 #[(.int .i64 0), (.slice none 0 0), (.slice none 0 0)], Ent.blk b1 92 #[v2, (.int .i64 x2720.2.1), (.int .i64 x2720.2.2)], Ent.frz w0 (Ent.blk b1 92 #[v2, .int .i64 a0.at_, .int .i64 a0.seed]).S] w) (fun s_j4 => M.spec_l26DrawTable_j4 a0 x2123 x2144 x2149 x2720 s_j4 = some r) ?_ ?_
       · refine CSR ?_
         refine OV (.bool (x2720.1 == 4)) rfl (x_eql rfl rfl) ?_
         refine OV (.bool (x2720.1 == 4)) rfl (x_assign) ?_
         refine OW.nil ?_
         refine CW.condM (t := x2720.1 == 4) rfl hm (fun hb3503 hm => ?_) (fun hb3503 hm => ?_)
         · refine CW.skip ?_
           exact ⟨x2720.1 == 4, hm, ⟨f2138, f2139, f2140, rfl, rfl, rfl, hL⟩⟩
         refine CSR ?_
         refine OV (.bool (x2720.1 == 5)) rfl (x_eql rfl rfl) ?_
         refine OV (.bool (x2720.1 == 5)) rfl (x_assign) ?_
         refine OW.nil ?_
         refine CW.condM (t := x2720.1 == 5) rfl hm (fun hb3504 hm => ?_) (fun hb3504 hm => ?_)
         · refine CW.skip ?_
           exact ⟨x2720.1 == 5, hm, ⟨f2138, f2139, f2140, rfl, rfl, rfl, hL⟩⟩
         refine CW.regionL ?_
         refine OV (.bool (x2720.1 == 6)) rfl (x_eql rfl rfl) ?_
         refine OV (.bool (x2720.1 == 6)) rfl (x_assign) ?_
         refine OW.nil ?_
         exact ⟨x2720.1 == 6, hm, ⟨f2138, f2139, f2140, rfl, rfl, rfl, hL⟩⟩
       intro s_j4 F3346 wd3347 hJ hm
       unfold M.spec_l26DrawTable_j4 at hm
       obtain ⟨f3348, f3349, f3350, f3351, f3352, f3353, hL⟩ := hJ
       refine CW.condM (t := s_j4) f3353 hm (fun hb3354 hm => ?_) (fun hb3354 hm => ?_)
       · obtain ⟨wz3355, hL, ho3356⟩ := hL.freeze 1 rfl
         simp only [lC, lD] at hL
         obtain ⟨wz3357, hL, ho3358⟩ := hL.freeze 2 rfl
         simp only [lC, lD] at hL
         obtain ⟨wz3359, hL, ho3360⟩ := hL.freeze 4 rfl
         simp only [lC, lD] at hL
         refine CW.drawH (fun w' => Hp w0 [Ent.blk b2133 26 #[(.int .i64 x2123.1.Boats), v2126, v2128], Ent.frzS wz3357 S2127, Ent.blk b15 38 #[(.int .i64 x7.1.Boats), (.int .i64 x7.1.Scheme), v10], Ent.frzS wz3359 S2112, Ent.blk b6 26 #[(.int .i64 0), (.slice none 0 0), (.slice none 0 0)], Ent.frz w0 (Ent.blk b1 92 #[v2, .int .i64 a0.at_, .int .i64 a0.seed]).S] w') Tryz_mixed ?_
         have hL := hL.call (Mod.drew _)
         have hS := (hL.sel [0, 2, 3, 4, 5, 7] (by decide) rfl)
         refine DH.take 0 rfl (by kernel_rfl) (by kernel_rfl) (by kernel_rfl) rfl rfl hS (YH.val (v := (.pointer (some ⟨b2133, 1, none⟩))) (fun w' hS' => x_fieldAddr (fsz := 1) 0 1 1 U26 rfl Tryz_T24 rfl f3350 rfl)) ?_
         have hS := (hL.sel [0, 2, 3, 4, 5, 7] (by decide) rfl)
         refine DH.take 1 rfl (by kernel_rfl) (by kernel_rfl) (by kernel_rfl) rfl rfl hS (YH.val (v := v2126) (fun w' hS' => x_load1 U24 rfl rfl (hS'.cellB 0 rfl rfl))) ?_
         have hS := (hL.sel [0, 2, 3, 4, 5, 7] (by decide) rfl)
         refine DH.take 2 rfl (by kernel_rfl) (by kernel_rfl) (by kernel_rfl) rfl rfl hS (YH.val (v := (.int .i64 x2144.1)) (fun w' hS' => x_mv f3351)) ?_
         have hS := (hL.sel [0, 2, 3, 4, 5, 7] (by decide) rfl)
         obtain ⟨x3394, ha3395, hm⟩ := bndE hm
         obtain ⟨hz3396, ha3404⟩ := idxE ha3395
         obtain ⟨b3397, q3398, v3399, hix3400, hs3401, hc3402, hr3403⟩ := rdN_at ho3356.1.rdL hz3396 ha3404
         refine DH.take 3 rfl (by kernel_rfl) (by kernel_rfl) (by kernel_rfl) rfl rfl hS (YH.val (v := (.pointer (some ⟨b3397, q3398, none⟩))) (fun w' hS' => x_ix U24 Tryz_T27 rfl rfl hix3400)) ?_
         have hS := (hL.sel [0, 2, 3, 4, 5, 7] (by decide) rfl)
         refine DH.take 5 rfl (by kernel_rfl) (by kernel_rfl) (by kernel_rfl) rfl rfl hS (YH.val (v := (.int .i64 x2149.1)) (fun w' hS' => x_mv f3352)) ?_
         have hS := (hL.sel [0, 2, 3, 4, 5, 7] (by decide) rfl)
         refine DH.take 6 rfl (by kernel_rfl) (by kernel_rfl) (by kernel_rfl) rfl rfl hS (YH.val (v := (.pointer (some ⟨b1, 0, none⟩))) (fun w' hS' => x_mv f3348)) ?_
         obtain ⟨x3405, hx3406, hm⟩ := bndE hm
         obtain ⟨x3410, ha3411, hm⟩ := bndE hm
         refine DH.node (listed' := (bma 11 2047)) (fuel' := 0) (fun (F : Fr) (w : World) => ∃ (S3452 : Nat → Prop), F 2 = (.pointer (some ⟨b6, 0, none⟩)) ∧ F 7 = (.pointer (some ⟨b2133, 0, none⟩)) ∧ Hp w0 [Ent.blk b2133 26 #[(.int .i64 x2123.1.Boats), v2126, v2128], Ent.own 27 S3452 v2126 (x2123.1.Points.set (x2144.1 : Int).toNat (x3394.set (x2149.1 : Int).toNat (w64 (10 * x3405.1)))), Ent.frzS wz3357 S2127, Ent.blk b15 38 #[(.int .i64 x7.1.Boats), (.int .i64 x7.1.Scheme), v10], Ent.frzS wz3359 S2112, Ent.blk b6 26 #[(.int .i64 0), (.slice none 0 0), (.slice none 0 0)], Ent.blk b1 92 #[v2, (.int .i64 x3405.2.1), (.int .i64 x3405.2.2)], Ent.frz w0 (Ent.blk b1 92 #[v2, .int .i64 a0.at_, .int .i64 a0.seed]).S] w) ?_ (fun hN3448 => ?_)
         · intro F3456 wd3457 hJ
           obtain ⟨S3452, f3458, f3459, hL⟩ := hJ
           refine DH.done (by kernel_rfl) ?_
           have hL := hL.thaw 2 rfl ho3358
           have hL := hL.thaw 4 rfl ho3360
           have hL := hL.cndIn 1 rfl (M.spec_IsTable (Table.mk x2123.1.Boats (x2123.1.Points.set (x2144.1 : Int).toNat (x3394.set (x2149.1 : Int).toNat (w64 (10 * x3405.1)))) x2123.1.Codes) = some true)
           simp only [lC, lD] at hL
           have hL := hL.rdxIn 2 rfl
           simp only [lC, lD] at hL
           have hL := hL.sel [1, 2, 0, 3, 4, 5, 6, 7] (by decide) rfl
           exact ⟨(x3405.2.1, x3405.2.2, x2123.1.Points.set (x2144.1 : Int).toNat (x3394.set (x2149.1 : Int).toNat (w64 (10 * x3405.1))), x2123.1.Codes), hm, ⟨v2126, S3452, v2128, S2127, f3458, f3459, hL⟩⟩
         refine DH.node (listed' := (bma 11 1023)) (fuel' := 1) (fun (F : Fr) (w : World) => ∃ (b3453 : Nat) (q3454 : Nat), IxAddr v3399 (GoT.sz Int) x2149.1 b3453 q3454 ∧ F 2 = (.pointer (some ⟨b6, 0, none⟩)) ∧ F 7 = (.pointer (some ⟨b2133, 0, none⟩)) ∧ F 139 = (.int .i64 (w64 (10 * x3405.1))) ∧ F 140 = (.pointer (some ⟨b3453, q3454, none⟩)) ∧ Hp w0 [Ent.blk b2133 26 #[(.int .i64 x2123.1.Boats), v2126, v2128], Ent.frzS wz3355 S2125, Ent.frzS wz3357 S2127, Ent.blk b15 38 #[(.int .i64 x7.1.Boats), (.int .i64 x7.1.Scheme), v10], Ent.frzS wz3359 S2112, Ent.blk b6 26 #[(.int .i64 0), (.slice none 0 0), (.slice none 0 0)], Ent.blk b1 92 #[v2, (.int .i64 x3405.2.1), (.int .i64 x3405.2.2)], Ent.frz w0 (Ent.blk b1 92 #[v2, .int .i64 a0.at_, .int .i64 a0.seed]).S] w) ?_ (fun hN3449 => ?_)
         · intro F3460 wd3461 hJ
           obtain ⟨b3453, q3454, hix3455, f3462, f3463, f3464, f3465, hL⟩ := hJ
           obtain ⟨_, ha3434⟩ := idxE ha3411
           have hc3467 := hL.cellF 1 rfl hs3401 hc3402
           have hL := hL.thaw 1 rfl ho3356
           simp only [lC, lD] at hL
           refine DH.only 10 rfl (by kernel_rfl) (S_inRow (α := Int) (x3394.set (x2149.1 : Int).toNat (w64 (10 * x3405.1))) (x3394.set (x2149.1 : Int).toNat (w64 (10 * x3405.1))) rfl hL 1 rfl hix3400 ha3404 hc3467 (fun E2 S1 hL hK => S_storeX (j := 0) (w64 (10 * x3405.1)) hL 0 rfl Tryz_T2 hix3455 ha3434 f3465 rfl rfl f3464 rfl rfl hK) ?_)
           intro wd3466 S3468 hL
           simp only [lC, lD] at hL
           refine ⟨(hL.sel [0, 2, 3, 4, 5, 7] (by decide) rfl), ?_⟩
           exact DH.relist (listed' := (bma 11 2047)) (by kernel_rfl) (hN3448 _ _ ⟨S3468, f3462, f3463, hL⟩)
         refine DH.node (listed' := (bma 11 495)) (fuel' := 3) (fun (F : Fr) (w : World) => F 2 = (.pointer (some ⟨b6, 0, none⟩)) ∧ F 7 = (.pointer (some ⟨b2133, 0, none⟩)) ∧ F 134 = (.pointer (some ⟨b3397, q3398, none⟩)) ∧ F 136 = (.int .i64 x2149.1) ∧ F 139 = (.int .i64 (w64 (10 * x3405.1))) ∧ Hp w0 [Ent.blk b2133 26 #[(.int .i64 x2123.1.Boats), v2126, v2128], Ent.frzS wz3355 S2125, Ent.frzS wz3357 S2127, Ent.blk b15 38 #[(.int .i64 x7.1.Boats), (.int .i64 x7.1.Scheme), v10], Ent.frzS wz3359 S2112, Ent.blk b6 26 #[(.int .i64 0), (.slice none 0 0), (.slice none 0 0)], Ent.blk b1 92 #[v2, (.int .i64 x3405.2.1), (.int .i64 x3405.2.2)], Ent.frz w0 (Ent.blk b1 92 #[v2, .int .i64 a0.at_, .int .i64 a0.seed]).S] w) ?_ (fun hN3450 => ?_)
         · intro F3471 wd3472 hJ
           obtain ⟨f3473, f3474, f3475, f3476, f3477, hL⟩ := hJ
           refine DH.only 4 rfl (by kernel_rfl) (OP.val (v := v3399) rfl (x_load1 U27 rfl f3475 (hL.cellF 1 rfl hs3401 hc3402)) ?_)
           refine ⟨(hL.sel [0, 2, 3, 4, 5, 7] (by decide) rfl), ?_⟩
           have hS := (hL.sel [0, 2, 3, 4, 5, 7] (by decide) rfl)
           obtain ⟨hz3478, ha3482⟩ := idxE ha3411
           obtain ⟨b3479, q3480, hix3481⟩ := rdL_ix (hL.rdF 1 rfl hr3403) hz3478 ha3482
           refine DH.take 9 rfl (by kernel_rfl) (by kernel_rfl) (by kernel_rfl) rfl rfl hS (YH.val (v := (.pointer (some ⟨b3479, q3480, none⟩))) (fun w' hS' => x_ix U27 Tryz_T2 rfl f3476 hix3481)) ?_
           exact DH.relist (listed' := (bma 11 1023)) (by kernel_rfl) (hN3449 _ _ ⟨b3479, q3480, hix3481, f3473, f3474, f3477, rfl, hL⟩)
         refine DH.node (listed' := (bma 11 127)) (fuel' := 4) (fun (F : Fr) (w : World) => F 2 = (.pointer (some ⟨b6, 0, none⟩)) ∧ F 7 = (.pointer (some ⟨b2133, 0, none⟩)) ∧ F 135 = v3399 ∧ F 136 = (.int .i64 x2149.1) ∧ F 137 = (.pointer (some ⟨b1, 0, none⟩)) ∧ Hp w0 [Ent.blk b2133 26 #[(.int .i64 x2123.1.Boats), v2126, v2128], Ent.frzS wz3355 S2125, Ent.frzS wz3357 S2127, Ent.blk b15 38 #[(.int .i64 x7.1.Boats), (.int .i64 x7.1.Scheme), v10], Ent.frzS wz3359 S2112, Ent.blk b6 26 #[(.int .i64 0), (.slice none 0 0), (.slice none 0 0)], Ent.blk b1 92 #[v2, (.int .i64 x2720.2.1), (.int .i64 x2720.2.2)], Ent.frz w0 (Ent.blk b1 92 #[v2, .int .i64 a0.at_, .int .i64 a0.seed]).S] w) ?_ (fun hN3451 => ?_)
         · intro F3483 wd3484 hJ
           obtain ⟨f3485, f3486, f3487, f3488, f3489, hL⟩ := hJ
           refine DH.only 7 rfl (by kernel_rfl) (OP.call rfl (x_call (vs := [(.pointer (some ⟨b1, 0, none⟩)), (.int .i64 8)]) Tryz_C40 ⟨f3489, rfl, trivial⟩) (M.spec_l01Next_ok _ (Src.mk a0.code x2720.2.1 x2720.2.2) (hL.exZ 7 6 (by decide) rfl rfl h3) (hL.get 6 rfl) 8 hx3406) ?_)
           rintro e3490 wd3491 ⟨rfl, hF3492⟩
           refine ⟨_, rfl, ?_⟩
           have hL := hL.mut 6 rfl hF3492
           simp only [lA, lB, lC, lD] at hL
           refine ⟨(hL.sel [0, 2, 3, 4, 5, 7] (by decide) rfl), ?_⟩
           have hS := (hL.sel [0, 2, 3, 4, 5, 7] (by decide) rfl)
           refine DH.take 8 rfl (by kernel_rfl) (by kernel_rfl) (by kernel_rfl) rfl rfl hS (YH.val (v := (.int .i64 (w64 (10 * x3405.1)))) (fun w' hS' => x_mul rfl rfl)) ?_
           have hS := (hL.sel [0, 2, 3, 4, 5, 7] (by decide) rfl)
           obtain ⟨hz3493, ha3497⟩ := idxE ha3411
           obtain ⟨b3494, q3495, hix3496⟩ := rdL_ix (hL.rdF 1 rfl hr3403) hz3493 ha3497
           refine DH.take 9 rfl (by kernel_rfl) (by kernel_rfl) (by kernel_rfl) rfl rfl hS (YH.val (v := (.pointer (some ⟨b3494, q3495, none⟩))) (fun w' hS' => x_ix U27 Tryz_T2 f3487 f3488 hix3496)) ?_
           exact DH.relist (listed' := (bma 11 1023)) (by kernel_rfl) (hN3449 _ _ ⟨b3494, q3495, hix3496, f3485, f3486, rfl, rfl, hL⟩)
         refine DH.all (rs := [4, 7]) (by kernel_rfl) (by simp) ?_
         intro i3498 hi3499
         simp only [List.mem_cons, List.not_mem_nil, or_false] at hi3499
         rcases hi3499 with rfl | rfl
         · refine ⟨_, rfl, ?_⟩
           refine OP.val (v := v3399) rfl (x_load1 U27 rfl rfl (hL.cellF 1 rfl hs3401 hc3402)) ?_
           refine ⟨(hL.sel [0, 2, 3, 4, 5, 7] (by decide) rfl), ?_⟩
           exact DH.relist (listed' := (bma 11 127)) (by kernel_rfl) (hN3451 _ _ ⟨f3349, f3350, rfl, rfl, rfl, hL⟩)
         refine ⟨_, rfl, ?_⟩
         refine OP.call rfl (x_call (vs := [(.pointer (some ⟨b1, 0, none⟩)), (.int .i64 8)]) Tryz_C40 ⟨rfl, rfl, trivial⟩) (M.spec_l01Next_ok _ (Src.mk a0.code x2720.2.1 x2720.2.2) (hL.exZ 7 6 (by decide) rfl rfl h3) (hL.get 6 rfl) 8 hx3406) ?_
         rintro e3500 wd3501 ⟨rfl, hF3502⟩
         refine ⟨_, rfl, ?_⟩
         have hL := hL.mut 6 rfl hF3502
         simp only [lA, lB, lC, lD] at hL
         refine ⟨(hL.sel [0, 2, 3, 4, 5, 7] (by decide) rfl), ?_⟩
         have hS := (hL.sel [0, 2, 3, 4, 5, 7] (by decide) rfl)
         refine DH.take 8 rfl (by kernel_rfl) (by kernel_rfl) (by kernel_rfl) rfl rfl hS (YH.val (v := (.int .i64 (w64 (10 * x3405.1)))) (fun w' hS' => x_mul rfl rfl)) ?_
         exact DH.relist (listed' := (bma 11 495)) (by kernel_rfl) (hN3450 _ _ ⟨f3349, f3350, rfl, rfl, rfl, hL⟩)
       refine CW.skip ?_
       have hL := hL.cndIn 1 rfl (M.spec_IsTable x2123.1 = some true)
       simp only [lC, lD] at hL
       have hL := hL.rdxIn 2 rfl
       simp only [lC, lD] at hL
       have hL := hL.sel [1, 2, 0, 3, 4, 5, 6, 7] (by decide) rfl
       exact ⟨(x2720.2.1, x2720.2.2, x2123.1.Points, x2123.1.Codes), hm, ⟨v2126, S2125, v2128, S2127, f3349, f3350, hL⟩⟩
     intro s_j3 F3001 wd3002 hJ hm
     unfold M.spec_l26DrawTable_j3 at hm
     obtain ⟨v2997, S2998, v2999, S3000, f3003, f3004, hL⟩ := hJ
     exact ⟨(s_j3.1, s_j3.2.1, s_j3.2.2.1, s_j3.2.2.2), hm, ⟨v2997, S2998, v2999, S3000, f3003, f3004, hL⟩⟩
   intro s_j2 F2715 wd2716 hJ hm
   unfold M.spec_l26DrawTable_j2 at hm
   obtain ⟨v2711, S2712, v2713, S2714, f2717, f2718, hL⟩ := hJ
   refine CSR ?_
   refine OV (.agg #[(.int .i64 x2123.1.Boats), v2711, v2713]) rfl (x_loadN (cs := [(.int .i64 x2123.1.Boats), v2711, v2713]) U26 Tryz_T26 rfl f2718 (hL.cellsB 2 rfl (o := 0) (l := [(.int .i64 x2123.1.Boats), v2711, v2713]) (by intro j u hj; exact (by simpa using hj)))) ?_
   refine OW.cons (S_storeN (l := [(.int .i64 x2123.1.Boats), v2711, v2713]) (cs' := #[(.int .i64 x2123.1.Boats), v2711, v2713]) hL 5 rfl Tryz_T26 f2717 rfl (List.forall_mem_cons.2 ⟨rfl, (List.forall_mem_cons.2 ⟨rdL_one (hL.rdC 0 rfl), (List.forall_mem_cons.2 ⟨rdL_one (hL.rdX 1 rfl), (fun _ h => by cases h)⟩)⟩)⟩) rfl (Nat.le_of_ble_eq_true rfl) rfl ?_)
   intro wd2719 hL
   refine OW.nil ?_
   refine CW.ret ?_
   obtain rfl := Option.some.inj hm
   exact RRc rfl f2717 (run_loadBlk U26 Tryz_T26 (hL.get 5 rfl) rfl) ⟨v2711, S2712, v2713, S2714, rfl, hL.mutOut 7 rfl [6, 0, 1] (by decide) (by decide) rfl⟩
 intro s_l1 F3506 wd3507 t2113 hJ hm hr2114
 unfold M.spec_l26DrawTable_l1 at hm
 obtain ⟨S2112, f3508, f3509, f3510, f3511, hL⟩ := hJ
 refine CW.seq ?_
 refine CSR ?_
 refine OV (.int .i64 s_l1.2.2.2) rfl (x_mv f3511) ?_
 refine OV (.pointer (some ⟨b15, 2, none⟩)) rfl (x_fieldAddr (fsz := 1) 0 2 2 U38 rfl Tryz_T36 rfl f3510 rfl) ?_
 refine OV v10 rfl (x_load1 U36 rfl rfl (hL.cellB 0 rfl rfl)) ?_
 refine OV (.int .i64 (s_l1.2.2.1.length : Int)) rfl (x_lenR U36 rfl (hL.rdO 1 rfl)) ?_
 refine OV (.bool (decide (s_l1.2.2.2 < (s_l1.2.2.1.length : Int)))) rfl (x_lss rfl rfl) ?_
 refine OW.nil ?_
 refine CW.condM (t := decide (s_l1.2.2.2 < (s_l1.2.2.1.length : Int))) rfl hm (fun hb3512 hm => ?_) (fun hb3512 hm => ?_)
 · refine CW.skip ?_
   refine CW.seq ?_
   refine CW.block ?_
   refine CSR ?_
   refine OV (.int .i64 0) rfl (x_assign) ?_
   refine OW.nil ?_
   obtain ⟨o4201, ho4202, hm⟩ := bndE hm
   refine CW.loopB (fun (s_l2 : Int × Int × (List Race) × Int) (F : Fr) (w : World) => ∃ (S4198 : Nat → Prop), F 0 = (.pointer (some ⟨b1, 0, none⟩)) ∧ F 2 = (.pointer (some ⟨b6, 0, none⟩)) ∧ F 3 = (.pointer (some ⟨b15, 0, none⟩)) ∧ F 4 = (.int .i64 s_l1.2.2.2) ∧ F 5 = (.int .i64 s_l2.2.2.2) ∧ Hp w0 [Ent.blk b15 38 #[(.int .i64 x7.1.Boats), (.int .i64 x7.1.Scheme), v10], Ent.own 101 S4198 v10 s_l2.2.2.1, Ent.blk b6 26 #[(.int .i64 0), (.slice none 0 0), (.slice none 0 0)], Ent.blk b1 92 #[v2, (.int .i64 s_l2.1), (.int .i64 s_l2.2.1)], Ent.frz w0 (Ent.blk b1 92 #[v2, .int .i64 a0.at_, .int .i64 a0.seed]).S] w) (fun o => outc o (fun x => some (.ret x)) (fun s => M.spec_l26DrawTable_a2 s_l1 s) = some t2113) ho4202 hm ⟨S2112, f3508, f3509, f3510, f3511, rfl, hL⟩ ?_ ?_
   · intro s_l2 F4203 wd4204 hJ hm
     have hm := outcE hm
     have hm : M.spec_l26DrawTable_a2 s_l1 s_l2 = some t2113 := hm
     unfold M.spec_l26DrawTable_a2 at hm
     obtain ⟨S4198, f4205, f4206, f4207, f4208, f4209, hL⟩ := hJ
     refine CW.regionL ?_
     refine OV (.int .i64 s_l1.2.2.2) rfl (x_mv f4208) ?_
     refine OV (.int .i64 (w64 (s_l1.2.2.2 + 1))) rfl (x_add rfl rfl) ?_
     refine OV (.int .i64 (w64 (s_l1.2.2.2 + 1))) rfl (x_assign) ?_
     refine OW.nil ?_
     obtain rfl := Option.some.inj hm
     exact ⟨_, rfl, ⟨S4198, f4205, f4206, f4207, rfl, hL⟩⟩
   intro s_l2 F4210 wd4211 t4199 hJ hm hr4200
   unfold M.spec_l26DrawTable_l2 at hm
   obtain ⟨S4198, f4212, f4213, f4214, f4215, f4216, hL⟩ := hJ
   refine CW.seq ?_
   refine CSR ?_
   refine OV (.int .i64 s_l2.2.2.2) rfl (x_mv f4216) ?_
   refine OV (.pointer (some ⟨b15, 2, none⟩)) rfl (x_fieldAddr (fsz := 1) 0 2 2 U38 rfl Tryz_T36 rfl f4214 rfl) ?_
   refine OV v10 rfl (x_load1 U36 rfl rfl (hL.cellB 0 rfl rfl)) ?_
   refine OV (.int .i64 s_l1.2.2.2) rfl (x_mv f4215) ?_
   obtain ⟨wz4217, hL, ho4218⟩ := hL.freeze 1 rfl
   simp only [lC, lD] at hL
   obtain ⟨x4219, ha4220, hm⟩ := bndE hm
   obtain ⟨hz4221, ha4229⟩ := idxE ha4220
   obtain ⟨b4222, q4223, v4224, hix4225, hs4226, hc4227, hr4228⟩ := rdN_at ho4218.1.rdL hz4221 ha4229
   refine OV (.pointer (some ⟨b4222, q4223, none⟩)) rfl (x_ix U36 Tryz_T101 rfl rfl hix4225) ?_
   refine OV (.pointer (some ⟨b4222, q4223, none⟩)) rfl (x_fieldAddr (fsz := 1) q4223 0 q4223 U101 rfl Tryz_T99 rfl rfl rfl) ?_
   refine OV v4224 rfl (x_load1 U99 rfl rfl (hL.cellF 1 rfl hs4226 hc4227)) ?_
   refine OV (.int .i64 (x4219.Finishes.length : Int)) rfl (x_lenR U99 rfl (hL.rdF 1 rfl hr4228)) ?_
   refine OV (.bool (decide (s_l2.2.2.2 < (x4219.Finishes.length : Int)))) rfl (x_lss rfl rfl) ?_
   refine OW.nil ?_
   refine CW.condM (t := decide (s_l2.2.2.2 < (x4219.Finishes.length : Int))) rfl hm (fun hb4230 hm => ?_) (fun hb4230 hm => ?_)
   · refine CW.skip ?_
     have hL := hL.thaw 1 rfl ho4218
     refine CW.seqJ (fun (s_j5 : Int × Int × (List Race)) (F : Fr) (w : World) => ∃ (S4391 : Nat → Prop), F 0 = (.pointer (some ⟨b1, 0, none⟩)) ∧ F 2 = (.pointer (some ⟨b6, 0, none⟩)) ∧ F 3 = (.pointer (some ⟨b15, 0, none⟩)) ∧ F 4 = (.int .i64 s_l1.2.2.2) ∧ F 5 = (.int .i64 s_l2.2.2.2) ∧ Hp w0 [Ent.blk b15 38 #[(.int .i64 x7.1.Boats), (.int .i64 x7.1.Scheme), v10], Ent.own 101 S4391 v10 s_j5.2.2, Ent.blk b6 26 #[(.int .i64 0), (.slice none 0 0), (.slice none 0 0)], Ent.blk b1 92 #[v2, (.int .i64 s_j5.1), (.int .i64 s_j5.2.1)], Ent.frz w0 (Ent.blk b1 92 #[v2, .int .i64 a0.at_, .int .i64 a0.seed]).S] w) (fun s_j5 => M.spec_l26DrawTable_j5 s_l2 s_j5 = some t4199) ?_ ?_
     · refine CW.blockJ (fun (s_j6 : Int × Int × (List Race)) (F : Fr) (w : World) => ∃ (S4475 : Nat → Prop), F 0 = (.pointer (some ⟨b1, 0, none⟩)) ∧ F 2 = (.pointer (some ⟨b6, 0, none⟩)) ∧ F 3 = (.pointer (some ⟨b15, 0, none⟩)) ∧ F 4 = (.int .i64 s_l1.2.2.2) ∧ F 5 = (.int .i64 s_l2.2.2.2) ∧ Hp w0 [Ent.blk b15 38 #[(.int .i64 x7.1.Boats), (.int .i64 x7.1.Scheme), v10], Ent.own 101 S4475 v10 s_j6.2.2, Ent.blk b6 26 #[(.int .i64 0), (.slice none 0 0), (.slice none 0 0)], Ent.blk b1 92 #[v2, (.int .i64 s_j6.1), (.int .i64 s_j6.2.1)], Ent.frz w0 (Ent.blk b1 92 #[v2, .int .i64 a0.at_, .int .i64 a0.seed]).S] w) (fun s_j6 => M.spec_l26DrawTable_j6 s_l2 s_j6 = some t4199) ?_ ?_
       · refine CSR ?_
         refine OV (.pointer (some ⟨b15, 2, none⟩)) rfl (x_fieldAddr (fsz := 1) 0 2 2 U38 rfl Tryz_T36 rfl f4214 rfl) ?_
         refine OV v10 rfl (x_load1 U36 rfl rfl (hL.cellB 0 rfl rfl)) ?_
         refine OV (.int .i64 s_l1.2.2.2) rfl (x_mv f4215) ?_
         obtain ⟨wz4483, hL, ho4484⟩ := hL.freeze 1 rfl
         simp only [lC, lD] at hL
         obtain ⟨x4485, ha4486, hm⟩ := bndE hm
         obtain ⟨hz4487, ha4495⟩ := idxE ha4486
         obtain ⟨b4488, q4489, v4490, hix4491, hs4492, hc4493, hr4494⟩ := rdN_at ho4484.1.rdL hz4487 ha4495
         refine OV (.pointer (some ⟨b4488, q4489, none⟩)) rfl (x_ix U36 Tryz_T101 rfl rfl hix4491) ?_
         refine OV (.pointer (some ⟨b4488, q4489, none⟩)) rfl (x_fieldAddr (fsz := 1) q4489 0 q4489 U101 rfl Tryz_T99 rfl rfl rfl) ?_
         refine OV v4490 rfl (x_load1 U99 rfl rfl (hL.cellF 1 rfl hs4492 hc4493)) ?_
         refine OV (.int .i64 s_l2.2.2.2) rfl (x_mv f4216) ?_
         obtain ⟨x4496, ha4497, hm⟩ := bndE hm
         obtain ⟨hz4498, ha4502⟩ := idxE ha4497
         obtain ⟨b4499, q4500, hix4501⟩ := rdL_ix (hL.rdF 1 rfl hr4494) hz4498 ha4502
         refine OV (.pointer (some ⟨b4499, q4500, none⟩)) rfl (x_ix U99 Tryz_T103 rfl rfl hix4501) ?_
         refine OV (.agg #[(.int .i64 x4496.Boat), (.int .i64 x4496.Code), (.int .i64 x4496.Time)]) rfl (x_loadN (cs := [(.int .i64 x4496.Boat), (.int .i64 x4496.Code), (.int .i64 x4496.Time)]) U103 Tryz_T103 rfl rfl (rdF_cells (hL.rdF 1 rfl hr4494) hix4501 ha4502)) ?_
         refine OW.cons (S_alloc (cs := #[(.int .i64 0), (.int .i64 0), (.int .i64 0)]) hL Tryz_T103 rfl rfl ?_)
         intro wd4503 b4504 hL
         refine OW.cons (S_storeN (l := [(.int .i64 x4496.Boat), (.int .i64 x4496.Code), (.int .i64 x4496.Time)]) (cs' := #[(.int .i64 x4496.Boat), (.int .i64 x4496.Code), (.int .i64 x4496.Time)]) hL 0 rfl Tryz_T103 rfl rfl (List.forall_mem_cons.2 ⟨rfl, (List.forall_mem_cons.2 ⟨rfl, (List.forall_mem_cons.2 ⟨rfl, (fun _ h => by cases h)⟩)⟩)⟩) rfl (Nat.le_of_ble_eq_true rfl) rfl ?_)
         intro wd4505 hL
         refine OW.nil ?_
         have hL := hL.thaw 2 rfl ho4484
         refine CW.seqJ (fun (s_j7 : Int × Int × Bool) (F : Fr) (w : World) => F 0 = (.pointer (some ⟨b1, 0, none⟩)) ∧ F 2 = (.pointer (some ⟨b6, 0, none⟩)) ∧ F 3 = (.pointer (some ⟨b15, 0, none⟩)) ∧ F 4 = (.int .i64 s_l1.2.2.2) ∧ F 5 = (.int .i64 s_l2.2.2.2) ∧ F 6 = (.pointer (some ⟨b4504, 0, none⟩)) ∧ F 47 = (.bool s_j7.2.2) ∧ Hp w0 [Ent.blk b4504 103 #[(.int .i64 x4496.Boat), (.int .i64 x4496.Code), (.int .i64 x4496.Time)], Ent.blk b15 38 #[(.int .i64 x7.1.Boats), (.int .i64 x7.1.Scheme), v10], Ent.own 101 S4198 v10 s_l2.2.2.1, Ent.blk b6 26 #[(.int .i64 0), (.slice none 0 0), (.slice none 0 0)], Ent.blk b1 92 #[v2, (.int .i64 s_j7.1), (.int .i64 s_j7.2.1)], Ent.frz w0 (Ent.blk b1 92 #[v2, .int .i64 a0.at_, .int .i64 a0.seed]).S] w) (fun s_j7 => M.spec_l26DrawTable_j7 s_l1 s_l2 x4496 s_j7 = some t4199) ?_ ?_
         · refine CW.regionL ?_
           refine OV (.pointer (some ⟨b4504, 1, none⟩)) rfl (x_fieldAddr (fsz := 1) 0 1 1 U103 rfl Tryz_T2 rfl rfl rfl) ?_
           refine OV (.int .i64 x4496.Code) rfl (x_load1 U2 rfl rfl (hL.cellB 0 rfl rfl)) ?_
           refine OV (.bool (x4496.Code == 9)) rfl (x_eql rfl rfl) ?_
           refine OV (.bool (x4496.Code == 9)) rfl (x_move) ?_
           refine ifB_elim hm (fun hb4553 hm => ?_) (fun hb4553 hm => ?_)
           · refine OW.cons (OP.yes' rfl rfl hb4553 (OP.val (v := (.pointer (some ⟨b1, 0, none⟩))) rfl (x_mv f4212) ?_))
             obtain ⟨x4554, hx4555, hm⟩ := bndE hm
             refine OW.cons (OP.yes' rfl rfl hb4553 (OP.call rfl (x_call (vs := [(.pointer (some ⟨b1, 0, none⟩)), (.int .i64 2)]) Tryz_C40 ⟨rfl, rfl, trivial⟩) (M.spec_l01Next_ok _ (Src.mk a0.code s_l2.1 s_l2.2.1) (hL.exZ 5 4 (by decide) rfl rfl h3) (hL.get 4 rfl) 2 hx4555) ?_))
             rintro e4556 wd4557 ⟨rfl, hF4558⟩
             refine ⟨_, rfl, ?_⟩
             have hL := hL.mut 4 rfl hF4558
             simp only [lA, lB, lC, lD] at hL
             refine OW.cons (OP.yes' rfl rfl hb4553 (OP.val (v := (.bool (x4554.1 == 0))) rfl (x_eql rfl rfl) ?_))
             refine OV (.bool (x4554.1 == 0)) rfl (x_pickT' rfl hb4553 rfl) ?_
             refine OW.nil ?_
             exact ⟨(x4554.2.1, x4554.2.2, x4554.1 == 0), hm, ⟨f4212, f4213, f4214, f4215, f4216, rfl, rfl, hL⟩⟩
           refine OW.cons (OP.no' rfl rfl hb4553 rfl ?_)
           refine OW.cons (OP.no' rfl rfl hb4553 rfl ?_)
           refine OW.cons (OP.no' rfl rfl hb4553 rfl ?_)
           refine OV (.bool false) rfl (x_pickF' rfl hb4553 rfl) ?_
           refine OW.nil ?_
           exact ⟨(s_l2.1, s_l2.2.1, false), hm, ⟨f4212, f4213, f4214, f4215, f4216, rfl, rfl, hL⟩⟩
         intro s_j7 F4512 wd4513 hJ hm
         unfold M.spec_l26DrawTable_j7 at hm
         obtain ⟨f4514, f4515, f4516, f4517, f4518, f4519, f4520, hL⟩ := hJ
         refine CW.condM (t := s_j7.2.2) f4520 hm (fun hb4521 hm => ?_) (fun hb4521 hm => ?_)
         · obtain ⟨wz4522, hL, ho4523⟩ := hL.freeze 2 rfl
           simp only [lC, lD] at hL
           refine CW.draw Tryz_mixed ?_
           have hL := hL.call (Mod.drew _)
           refine DW.pre (fuel := 1) (fin := bma 12 2047) (C := fun w' => Mod None_ _ w') [0, 1, 2, 3, 4, 5, 6, 7, 8, 9, 10] (Mod.refl _ _) (by kernel_rfl) (by kernel_rfl) ?_
           refine QW.cons rfl (QP.val (v := (.pointer (some ⟨b15, 2, none⟩))) rfl (fun w' hm' => x_fieldAddr (fsz := 1) 0 2 2 U38 rfl Tryz_T36 rfl f4516 rfl) ?_)
           refine QW.cons rfl (QP.val (v := v10) rfl (fun w' hm' => x_load1 U36 rfl rfl ((hL.call hm').cellB 1 rfl rfl)) ?_)
           refine QW.cons rfl (QP.val (v := (.int .i64 s_l1.2.2.2)) rfl (fun w' hm' => x_mv f4517) ?_)
           obtain ⟨x4524, ha4525, hm⟩ := bndE hm
           obtain ⟨hz4526, ha4534⟩ := idxE ha4525
           obtain ⟨b4527, q4528, v4529, hix4530, hs4531, hc4532, hr4533⟩ := rdN_at ho4523.1.rdL hz4526 ha4534
           refine QW.cons rfl (QP.val (v := (.pointer (some ⟨b4527, q4528, none⟩))) rfl (fun w' hm' => x_ix U36 Tryz_T101 rfl rfl hix4530) ?_)
           refine QW.cons rfl (QP.val (v := (.pointer (some ⟨b4527, q4528, none⟩))) rfl (fun w' hm' => x_fieldAddr (fsz := 1) q4528 0 q4528 U101 rfl Tryz_T99 rfl rfl rfl) ?_)
           refine QW.cons rfl (QP.val (v := v4529) rfl (fun w' hm' => x_load1 U99 rfl rfl ((hL.call hm').cellF 2 rfl hs4531 hc4532)) ?_)
           refine QW.cons rfl (QP.val (v := (.int .i64 s_l2.2.2.2)) rfl (fun w' hm' => x_mv f4518) ?_)
           refine QW.cons rfl (QP.val (v := (.pointer (some ⟨b4504, 0, none⟩))) rfl (fun w' hm' => x_fieldAddr (fsz := 1) 0 0 0 U103 rfl Tryz_T2 rfl f4519 rfl) ?_)
           refine QW.cons rfl (QP.val (v := (.int .i64 x4496.Boat)) rfl (fun w' hm' => x_load1 U2 rfl rfl ((hL.call hm').cellB 0 rfl rfl)) ?_)
           refine QW.cons rfl (QP.val (v := (.agg #[(.int .i64 x4496.Boat), (.int .i64 4), (.int .i64 0)])) rfl (fun w' hm' => x_build Tryz_B103 (ps := [(0, (.int .i64 x4496.Boat)), (1, (.int .i64 4))]) ⟨⟨rfl, rfl⟩, ⟨rfl, rfl⟩, trivial⟩ (by simp [Instr.fill, cells_int, cells_bool, cells_string, cells_agg, cells_slice, cells_pointer])) ?_)
           obtain ⟨x4535, ha4536, hm⟩ := bndE hm
           obtain ⟨hz4537, ha4541⟩ := idxE ha4536
           obtain ⟨b4538, q4539, hix4540⟩ := rdL_ix (hL.rdF 2 rfl hr4533) hz4537 ha4541
           refine QW.cons rfl (QP.val (v := (.pointer (some ⟨b4538, q4539, none⟩))) rfl (fun w' hm' => x_ix U99 Tryz_T103 rfl rfl hix4540) ?_)
           refine QW.nil ?_
           intro wd4542 hmod
           have hL := hL.call hmod
           have hc4544 := hL.cellF 2 rfl hs4531 hc4532
           have hL := hL.thaw 2 rfl ho4523
           simp only [lC, lD] at hL
           refine DW.only 11 rfl (by kernel_rfl) (S_inRowC (α := Finish) (x4524.Finishes.set (s_l2.2.2.2 : Int).toNat (Finish.mk x4496.Boat 4 0)) (Race.mk (x4524.Finishes.set (s_l2.2.2.2 : Int).toNat (Finish.mk x4496.Boat 4 0))) rfl hL 2 rfl hix4530 ha4534 hc4544 (fun E2 S1 hL hK => S_storeXN (l := [(.int .i64 x4496.Boat), (.int .i64 4), (.int .i64 0)]) (Finish.mk x4496.Boat 4 0) hL 0 rfl Tryz_T103 hix4540 ha4541 rfl rfl rfl hK) ?_)
           intro wd4543 S4545 hL hc4546 ha4547
           simp only [lC, lD] at hL
           obtain ⟨wz4548, hL, ho4549, hs4550, hc4551, hr4552⟩ := hL.freezeAt (α := Finish) 2 rfl hix4530 ha4547 hc4546
           simp only [lC, lD] at hL
           refine DW.done (by kernel_rfl) ?_
           have hL := hL.thaw 2 rfl ho4549
           have hL := hL.sel [1, 2, 3, 4, 5] (by decide) rfl
           exact ⟨(s_j7.1, s_j7.2.1, s_l2.2.2.1.set (s_l1.2.2.2 : Int).toNat (Race.mk (x4524.Finishes.set (s_l2.2.2.2 : Int).toNat (Finish.mk x4496.Boat 4 0)))), hm, ⟨S4545, f4514, f4515, f4516, f4517, f4518, hL⟩⟩
         refine CW.skip ?_
         have hL := hL.sel [1, 2, 3, 4, 5] (by decide) rfl
         exact ⟨(s_j7.1, s_j7.2.1, s_l2.2.2.1), hm, ⟨S4198, f4514, f4515, f4516, f4517, f4518, hL⟩⟩
       intro s_j6 F4476 wd4477 hJ hm
       unfold M.spec_l26DrawTable_j6 at hm
       obtain ⟨S4475, f4478, f4479, f4480, f4481, f4482, hL⟩ := hJ
       exact ⟨(s_j6.1, s_j6.2.1, s_j6.2.2), hm, ⟨S4475, f4478, f4479, f4480, f4481, f4482, hL⟩⟩
     intro s_j5 F4392 wd4393 hJ hm
     unfold M.spec_l26DrawTable_j5 at hm
     obtain ⟨S4391, f4394, f4395, f4396, f4397, f4398, hL⟩ := hJ
     refine CW.regionL ?_
     refine OV (.int .i64 s_l2.2.2.2) rfl (x_mv f4398) ?_
     refine OV (.int .i64 (w64 (s_l2.2.2.2 + 1))) rfl (x_add rfl rfl) ?_
     refine OV (.int .i64 (w64 (s_l2.2.2.2 + 1))) rfl (x_assign) ?_
     refine OW.nil ?_
     obtain rfl := Option.some.inj hm
     exact ⟨_, rfl, ⟨S4391, f4394, f4395, f4396, f4397, rfl, hL⟩⟩
   refine CW.exit ?_
   refine XJ.hit ?_
   have hL := hL.thaw 1 rfl ho4218
   obtain rfl := Option.some.inj hm
   exact ⟨_, rfl, ⟨S4198, f4212, f4213, f4214, f4215, f4216, hL⟩⟩
 refine CW.exit ?_
 refine XJ.hit ?_
 obtain rfl := Option.some.inj hm
 exact ⟨_, rfl, ⟨S2112, f3508, f3509, f3510, f3511, hL⟩⟩

theorem M.spec_IsTable_ok (w0 : World) (a0 : Table) {v1 : Value} {v3 : Value} (h2 : rdL (· < w0.heap.size) w0 v1 a0.Points) (h4 : rdL (· < w0.heap.size) w0 v3 a0.Codes) {r : Bool} (hm : M.spec_IsTable a0 = some r) :
    Calls Tryz.prog 64 #[(.agg #[(.int .i64 a0.Boats), v1, v3])] w0 fun e w' => e = .returned (.bool r) ∧ Fresh w0 w' [] := by
 unfold M.spec_IsTable at hm
 refine calls_CW (args := [(.agg #[(.int .i64 a0.Boats), v1, v3])]) Tryz.func64 rfl rfl rfl ?_
 have hL := Hp.start w0
 refine CSR ?_
 refine OW.cons (S_box (cs := #[(.int .i64 a0.Boats), v1, v3]) hL rfl rfl rfl ?_)
 intro wd5 b6 hL
 refine OV (.bool false) rfl (x_assign) ?_
 refine ONS ?_
 refine CW.seqJ (fun (s_j1 : Bool) (F : Fr) (w : World) => F 1 = (.pointer (some ⟨b6, 0, none⟩)) ∧ F 23 = (.bool s_j1) ∧ Hp w0 [Ent.blk b6 26 #[(.int .i64 a0.Boats), v1, v3], Ent.snap w0 w0.heap.size] w) (fun s_j1 => M.spec_IsTable_j1 a0 s_j1 = some r) ?_ ?_
 · refine CW.regionL ?_
   refine OV (.pointer (some ⟨b6, 0, none⟩)) rfl (x_fieldAddr (fsz := 1) 0 0 0 U26 rfl Tryz_T2 rfl rfl rfl) ?_
   refine OV (.int .i64 a0.Boats) rfl (x_load1 U2 rfl rfl (hL.cellB 0 rfl rfl)) ?_
   obtain ⟨x1162, hx1163, hm⟩ := bndE hm
   refine OW.cons (OP.call rfl (x_call (vs := [(.int .i64 a0.Boats), (.int .i64 1), (.int .i64 16)]) Tryz_C48 ⟨rfl, rfl, rfl, trivial⟩) (M.spec_l01In_ok _ a0.Boats 1 16 hx1163) ?_)
   rintro e1164 wd1165 ⟨rfl, hF1166⟩
   refine ⟨_, rfl, ?_⟩
   have hL := hL.pushAll hF1166
   simp only [lA, lB, lC, lD] at hL
   refine OV (.bool (!x1162)) rfl (x_not rfl) ?_
   refine OV (.bool (!x1162)) rfl (x_move) ?_
   refine ifB_elim hm (fun hb1167 hm => ?_) (fun hb1167 hm => ?_)
   · refine OW.cons (OP.no' rfl rfl hb1167 rfl ?_)
     refine OW.cons (OP.no' rfl rfl hb1167 rfl ?_)
     refine OW.cons (OP.no' rfl rfl hb1167 rfl ?_)
     refine OW.cons (OP.no' rfl rfl hb1167 rfl ?_)
     refine OV (.bool true) rfl (x_pickT' rfl hb1167 rfl) ?_
     refine OV (.bool true) rfl (x_move) ?_
     refine OW.cons (OP.no' rfl rfl rfl rfl ?_)
     refine OW.cons (OP.no' rfl rfl rfl rfl ?_)
     refine OW.cons (OP.no' rfl rfl rfl rfl ?_)
     refine OW.cons (OP.no' rfl rfl rfl rfl ?_)
     refine OW.cons (OP.no' rfl rfl rfl rfl ?_)
     refine OW.cons (OP.no' rfl rfl rfl rfl ?_)
     refine OW.cons (OP.no' rfl rfl rfl rfl ?_)
     refine OV (.bool true) rfl (x_pickT' rfl rfl rfl) ?_
     refine OW.nil ?_
     exact ⟨true, hm, ⟨rfl, rfl, hL⟩⟩
   refine OW.cons (OP.yes' rfl rfl hb1167 (OP.val (v := (.pointer (some ⟨b6, 1, none⟩))) rfl (x_fieldAddr (fsz := 1) 0 1 1 U26 rfl Tryz_T24 rfl rfl rfl) ?_))
   refine OW.cons (OP.yes' rfl rfl hb1167 (OP.val (v := v1) rfl (x_load1 U24 rfl rfl (hL.cellB 0 rfl rfl)) ?_))
   refine OW.cons (OP.yes' rfl rfl hb1167 (OP.val (v := (.int .i64 (a0.Points.length : Int))) rfl (x_lenR U24 rfl (hL.rdS 1 rfl h2)) ?_))
   refine OW.cons (OP.yes' rfl rfl hb1167 (OP.val (v := (.bool (decide (12 < (a0.Points.length : Int))))) rfl (x_gtr rfl rfl) ?_))
   refine OV (.bool (decide (12 < (a0.Points.length : Int)))) rfl (x_pickF' rfl hb1167 rfl) ?_
   refine OV (.bool (decide (12 < (a0.Points.length : Int)))) rfl (x_move) ?_
   refine ifB_elim hm (fun hb1168 hm => ?_) (fun hb1168 hm => ?_)
   · refine OW.cons (OP.no' rfl rfl hb1168 rfl ?_)
     refine OW.cons (OP.no' rfl rfl hb1168 rfl ?_)
     refine OW.cons (OP.no' rfl rfl hb1168 rfl ?_)
     refine OW.cons (OP.no' rfl rfl hb1168 rfl ?_)
     refine OW.cons (OP.no' rfl rfl hb1168 rfl ?_)
     refine OW.cons (OP.no' rfl rfl hb1168 rfl ?_)
     refine OW.cons (OP.no' rfl rfl hb1168 rfl ?_)
     refine OV (.bool true) rfl (x_pickT' rfl hb1168 rfl) ?_
     refine OW.nil ?_
     exact ⟨true, hm, ⟨rfl, rfl, hL⟩⟩
   refine OW.cons (OP.yes' rfl rfl hb1168 (OP.val (v := (.pointer (some ⟨b6, 2, none⟩))) rfl (x_fieldAddr (fsz := 1) 0 2 2 U26 rfl Tryz_T24 rfl rfl rfl) ?_))
   refine OW.cons (OP.yes' rfl rfl hb1168 (OP.val (v := v3) rfl (x_load1 U24 rfl rfl (hL.cellB 0 rfl rfl)) ?_))
   refine OW.cons (OP.yes' rfl rfl hb1168 (OP.val (v := (.int .i64 (a0.Codes.length : Int))) rfl (x_lenR U24 rfl (hL.rdS 1 rfl h4)) ?_))
   refine OW.cons (OP.yes' rfl rfl hb1168 (OP.val (v := (.pointer (some ⟨b6, 1, none⟩))) rfl (x_fieldAddr (fsz := 1) 0 1 1 U26 rfl Tryz_T24 rfl rfl rfl) ?_))
   refine OW.cons (OP.yes' rfl rfl hb1168 (OP.val (v := v1) rfl (x_load1 U24 rfl rfl (hL.cellB 0 rfl rfl)) ?_))
   refine OW.cons (OP.yes' rfl rfl hb1168 (OP.val (v := (.int .i64 (a0.Points.length : Int))) rfl (x_lenR U24 rfl (hL.rdS 1 rfl h2)) ?_))
   refine OW.cons (OP.yes' rfl rfl hb1168 (OP.val (v := (.bool ((a0.Codes.length : Int) != (a0.Points.length : Int)))) rfl (x_neq rfl rfl) ?_))
   refine OV (.bool ((a0.Codes.length : Int) != (a0.Points.length : Int))) rfl (x_pickF' rfl hb1168 rfl) ?_
   refine OW.nil ?_
   exact ⟨(a0.Codes.length : Int) != (a0.Points.length : Int), hm, ⟨rfl, rfl, hL⟩⟩
 intro s_j1 F14 wd15 hJ hm
 unfold M.spec_IsTable_j1 at hm
 obtain ⟨f16, f17, hL⟩ := hJ
 refine CW.condM (t := s_j1) f17 hm (fun hb18 hm => ?_) (fun hb18 hm => ?_)
 · refine CSR ?_
   refine OV (.bool false) rfl (x_assign) ?_
   refine OW.nil ?_
   refine CW.ret ?_
   obtain rfl := Option.some.inj hm
   exact RR1 rfl rfl ⟨rfl, hL.fresh 1 rfl [] (by decide) (by decide) rfl⟩
 refine CW.skip ?_
 refine CW.seq ?_
 refine CSR ?_
 refine OV (.int .i64 0) rfl (x_assign) ?_
 refine OW.nil ?_
 obtain ⟨o775, ho776, hm⟩ := bndE hm
 refine CW.loopB (fun (s_l1 : Int) (F : Fr) (w : World) => F 1 = (.pointer (some ⟨b6, 0, none⟩)) ∧ F 3 = (.int .i64 s_l1) ∧ Hp w0 [Ent.blk b6 26 #[(.int .i64 a0.Boats), v1, v3], Ent.snap w0 w0.heap.size] w) (fun o => outc o (fun x => some x) (fun s => M.spec_IsTable_a1 s) = some r) ho776 hm ⟨f16, rfl, hL⟩ ?_ ?_
 · intro s_l1 F777 wd778 hJ hm
   have hm := outcE hm
   have hm : M.spec_IsTable_a1 s_l1 = some r := hm
   unfold M.spec_IsTable_a1 at hm
   obtain ⟨f779, f780, hL⟩ := hJ
   refine CSR ?_
   refine OV (.bool true) rfl (x_assign) ?_
   refine OW.nil ?_
   refine CW.ret ?_
   obtain rfl := Option.some.inj hm
   exact RR1 rfl rfl ⟨rfl, hL.fresh 1 rfl [] (by decide) (by decide) rfl⟩
 intro s_l1 F781 wd782 t773 hJ hm hr774
 unfold M.spec_IsTable_l1 at hm
 obtain ⟨f783, f784, hL⟩ := hJ
 refine CW.seq ?_
 refine CSR ?_
 refine OV (.int .i64 s_l1) rfl (x_mv f784) ?_
 refine OV (.pointer (some ⟨b6, 1, none⟩)) rfl (x_fieldAddr (fsz := 1) 0 1 1 U26 rfl Tryz_T24 rfl f783 rfl) ?_
 refine OV v1 rfl (x_load1 U24 rfl rfl (hL.cellB 0 rfl rfl)) ?_
 refine OV (.int .i64 (a0.Points.length : Int)) rfl (x_lenR U24 rfl (hL.rdS 1 rfl h2)) ?_
 refine OV (.bool (decide (s_l1 < (a0.Points.length : Int)))) rfl (x_lss rfl rfl) ?_
 refine OW.nil ?_
 refine CW.condM (t := decide (s_l1 < (a0.Points.length : Int))) rfl hm (fun hb785 hm => ?_) (fun hb785 hm => ?_)
 · refine CW.skip ?_
   refine CW.seq ?_
   refine CW.block ?_
   refine CW.seq ?_
   refine CW.seqJ (fun (s_j2 : Bool) (F : Fr) (w : World) => F 1 = (.pointer (some ⟨b6, 0, none⟩)) ∧ F 3 = (.int .i64 s_l1) ∧ F 50 = (.bool s_j2) ∧ Hp w0 [Ent.blk b6 26 #[(.int .i64 a0.Boats), v1, v3], Ent.snap w0 w0.heap.size] w) (fun s_j2 => M.spec_IsTable_j2 a0 s_l1 s_j2 = some t773) ?_ ?_
   · refine CW.draw Tryz_mixed ?_
     have hL := hL.call (Mod.drew _)
     refine DW.pre (fuel := 0) (fin := bma 20 1048575) (C := fun w' => Mod None_ _ w') [0, 1, 2, 3, 4, 5, 6, 7, 8, 9, 10, 11, 12, 13, 14, 15, 16, 17, 18, 19] (Mod.refl _ _) (by kernel_rfl) (by kernel_rfl) ?_
     refine QW.cons rfl (QP.val (v := (.pointer (some ⟨b6, 1, none⟩))) rfl (fun w' hm' => x_fieldAddr (fsz := 1) 0 1 1 U26 rfl Tryz_T24 rfl f783 rfl) ?_)
     refine QW.cons rfl (QP.val (v := v1) rfl (fun w' hm' => x_load1 U24 rfl rfl ((hL.call hm').cellB 0 rfl rfl)) ?_)
     refine QW.cons rfl (QP.val (v := (.int .i64 s_l1)) rfl (fun w' hm' => x_mv f784) ?_)
     obtain ⟨x1137, ha1138, hm⟩ := bndE hm
     obtain ⟨hz1139, ha1147⟩ := idxE ha1138
     obtain ⟨b1140, q1141, v1142, hix1143, hs1144, hc1145, hr1146⟩ := rdN_at h2 hz1139 ha1147
     refine QW.cons rfl (QP.val (v := (.pointer (some ⟨b1140, q1141, none⟩))) rfl (fun w' hm' => x_ix U24 Tryz_T27 rfl rfl hix1143) ?_)
     refine QW.cons rfl (QP.val (v := v1142) rfl (fun w' hm' => x_load1 U27 rfl rfl ((hL.call hm').cellS 1 rfl hs1144 hc1145)) ?_)
     refine QW.cons rfl (QP.val (v := (.int .i64 (x1137.length : Int))) rfl (fun w' hm' => x_lenR U27 rfl ((hL.call hm').rdS 1 rfl hr1146)) ?_)
     refine QW.cons rfl (QP.val (v := (.pointer (some ⟨b6, 0, none⟩))) rfl (fun w' hm' => x_fieldAddr (fsz := 1) 0 0 0 U26 rfl Tryz_T2 rfl f783 rfl) ?_)
     refine QW.cons rfl (QP.val (v := (.int .i64 a0.Boats)) rfl (fun w' hm' => x_load1 U2 rfl rfl ((hL.call hm').cellB 0 rfl rfl)) ?_)
     refine QW.cons rfl (QP.val (v := (.bool ((x1137.length : Int) != a0.Boats))) rfl (fun w' hm' => x_neq rfl rfl) ?_)
     refine QW.cons rfl (QP.val (v := (.bool ((x1137.length : Int) != a0.Boats))) rfl (fun w' hm' => x_move) ?_)
     refine ifB_elim hm (fun hb1148 hm => ?_) (fun hb1148 hm => ?_)
     · refine QW.cons rfl (QP.no' rfl rfl hb1148 rfl ?_)
       refine QW.cons rfl (QP.no' rfl rfl hb1148 rfl ?_)
       refine QW.cons rfl (QP.no' rfl rfl hb1148 rfl ?_)
       refine QW.cons rfl (QP.no' rfl rfl hb1148 rfl ?_)
       refine QW.cons rfl (QP.no' rfl rfl hb1148 rfl ?_)
       refine QW.cons rfl (QP.no' rfl rfl hb1148 rfl ?_)
       refine QW.cons rfl (QP.no' rfl rfl hb1148 rfl ?_)
       refine QW.cons rfl (QP.no' rfl rfl hb1148 rfl ?_)
       refine QW.cons rfl (QP.no' rfl rfl hb1148 rfl ?_)
       refine QW.cons rfl (QP.val (v := (.bool true)) rfl (fun w' hm' => x_pickT' rfl hb1148 rfl) ?_)
       refine QW.nil ?_
       intro wd1149 hmod
       have hL := hL.call hmod
       refine DW.done (by kernel_rfl) ?_
       exact ⟨true, hm, ⟨f783, f784, rfl, hL⟩⟩
     refine QW.cons rfl (QP.yes' rfl rfl hb1148 (QP.val (v := (.pointer (some ⟨b6, 2, none⟩))) rfl (fun w' hm' => x_fieldAddr (fsz := 1) 0 2 2 U26 rfl Tryz_T24 rfl f783 rfl) ?_))
     refine QW.cons rfl (QP.yes' rfl rfl hb1148 (QP.val (v := v3) rfl (fun w' hm' => x_load1 U24 rfl rfl ((hL.call hm').cellB 0 rfl rfl)) ?_))
     refine QW.cons rfl (QP.yes' rfl rfl hb1148 (QP.val (v := (.int .i64 s_l1)) rfl (fun w' hm' => x_mv f784) ?_))
     obtain ⟨x1150, ha1151, hm⟩ := bndE hm
     obtain ⟨hz1152, ha1160⟩ := idxE ha1151
     obtain ⟨b1153, q1154, v1155, hix1156, hs1157, hc1158, hr1159⟩ := rdN_at h4 hz1152 ha1160
     refine QW.cons rfl (QP.yes' rfl rfl hb1148 (QP.val (v := (.pointer (some ⟨b1153, q1154, none⟩))) rfl (fun w' hm' => x_ix U24 Tryz_T27 rfl rfl hix1156) ?_))
     refine QW.cons rfl (QP.yes' rfl rfl hb1148 (QP.val (v := v1155) rfl (fun w' hm' => x_load1 U27 rfl rfl ((hL.call hm').cellS 1 rfl hs1157 hc1158)) ?_))
     refine QW.cons rfl (QP.yes' rfl rfl hb1148 (QP.val (v := (.int .i64 (x1150.length : Int))) rfl (fun w' hm' => x_lenR U27 rfl ((hL.call hm').rdS 1 rfl hr1159)) ?_))
     refine QW.cons rfl (QP.yes' rfl rfl hb1148 (QP.val (v := (.pointer (some ⟨b6, 0, none⟩))) rfl (fun w' hm' => x_fieldAddr (fsz := 1) 0 0 0 U26 rfl Tryz_T2 rfl f783 rfl) ?_))
     refine QW.cons rfl (QP.yes' rfl rfl hb1148 (QP.val (v := (.int .i64 a0.Boats)) rfl (fun w' hm' => x_load1 U2 rfl rfl ((hL.call hm').cellB 0 rfl rfl)) ?_))
     refine QW.cons rfl (QP.yes' rfl rfl hb1148 (QP.val (v := (.bool ((x1150.length : Int) != a0.Boats))) rfl (fun w' hm' => x_neq rfl rfl) ?_))
     refine QW.cons rfl (QP.val (v := (.bool ((x1150.length : Int) != a0.Boats))) rfl (fun w' hm' => x_pickF' rfl hb1148 rfl) ?_)
     refine QW.nil ?_
     intro wd1161 hmod
     have hL := hL.call hmod
     refine DW.done (by kernel_rfl) ?_
     exact ⟨(x1150.length : Int) != a0.Boats, hm, ⟨f783, f784, rfl, hL⟩⟩
   intro s_j2 F811 wd812 hJ hm
   unfold M.spec_IsTable_j2 at hm
   obtain ⟨f813, f814, f815, hL⟩ := hJ
   refine CW.condM (t := s_j2) f815 hm (fun hb816 hm => ?_) (fun hb816 hm => ?_)
   · refine CSR ?_
     refine OV (.bool false) rfl (x_assign) ?_
     refine OW.nil ?_
     refine CW.ret ?_
     obtain rfl := Option.some.inj hm
     have hm := hr774 _ rfl
     obtain rfl := Option.some.inj hm
     exact RR1 rfl rfl ⟨rfl, hL.fresh 1 rfl [] (by decide) (by decide) rfl⟩
   refine CW.skip ?_
   refine CSR ?_
   refine OV (.int .i64 0) rfl (x_assign) ?_
   refine OW.nil ?_
   obtain ⟨o1023, ho1024, hm⟩ := bndE hm
   refine CW.loopB (fun (s_l2 : Int) (F : Fr) (w : World) => F 1 = (.pointer (some ⟨b6, 0, none⟩)) ∧ F 3 = (.int .i64 s_l1) ∧ F 4 = (.int .i64 s_l2) ∧ Hp w0 [Ent.blk b6 26 #[(.int .i64 a0.Boats), v1, v3], Ent.snap w0 w0.heap.size] w) (fun o => outc o (fun x => some (.ret x)) (fun s => M.spec_IsTable_a2 s_l1 s) = some t773) ho1024 hm ⟨f813, f814, rfl, hL⟩ ?_ ?_
   · intro s_l2 F1025 wd1026 hJ hm
     have hm := outcE hm
     have hm : M.spec_IsTable_a2 s_l1 s_l2 = some t773 := hm
     unfold M.spec_IsTable_a2 at hm
     obtain ⟨f1027, f1028, f1029, hL⟩ := hJ
     refine CW.regionL ?_
     refine OV (.int .i64 s_l1) rfl (x_mv f1028) ?_
     refine OV (.int .i64 (w64 (s_l1 + 1))) rfl (x_add rfl rfl) ?_
     refine OV (.int .i64 (w64 (s_l1 + 1))) rfl (x_assign) ?_
     refine OW.nil ?_
     obtain rfl := Option.some.inj hm
     exact ⟨_, rfl, ⟨f1027, rfl, hL⟩⟩
   intro s_l2 F1030 wd1031 t1021 hJ hm hr1022
   unfold M.spec_IsTable_l2 at hm
   obtain ⟨f1032, f1033, f1034, hL⟩ := hJ
   refine CW.seq ?_
   refine CSR ?_
   refine OV (.int .i64 s_l2) rfl (x_mv f1034) ?_
   refine OV (.pointer (some ⟨b6, 0, none⟩)) rfl (x_fieldAddr (fsz := 1) 0 0 0 U26 rfl Tryz_T2 rfl f1032 rfl) ?_
   refine OV (.int .i64 a0.Boats) rfl (x_load1 U2 rfl rfl (hL.cellB 0 rfl rfl)) ?_
   refine OV (.bool (decide (s_l2 < a0.Boats))) rfl (x_lss rfl rfl) ?_
   refine OW.nil ?_
   refine CW.condM (t := decide (s_l2 < a0.Boats)) rfl hm (fun hb1035 hm => ?_) (fun hb1035 hm => ?_)
   · refine CW.skip ?_
     refine CW.seq ?_
     refine CW.block ?_
     refine CW.seqJ (fun (s_j3 : Bool) (F : Fr) (w : World) => F 1 = (.pointer (some ⟨b6, 0, none⟩)) ∧ F 3 = (.int .i64 s_l1) ∧ F 4 = (.int .i64 s_l2) ∧ F 78 = (.bool s_j3) ∧ Hp w0 [Ent.blk b6 26 #[(.int .i64 a0.Boats), v1, v3], Ent.snap w0 w0.heap.size] w) (fun s_j3 => M.spec_IsTable_j3 s_l2 s_j3 = some t1021) ?_ ?_
     · refine CW.regionL ?_
       refine OV (.pointer (some ⟨b6, 1, none⟩)) rfl (x_fieldAddr (fsz := 1) 0 1 1 U26 rfl Tryz_T24 rfl f1032 rfl) ?_
       refine OV v1 rfl (x_load1 U24 rfl rfl (hL.cellB 0 rfl rfl)) ?_
       refine OV (.int .i64 s_l1) rfl (x_mv f1033) ?_
       obtain ⟨x1090, ha1091, hm⟩ := bndE hm
       obtain ⟨hz1092, ha1100⟩ := idxE ha1091
       obtain ⟨b1093, q1094, v1095, hix1096, hs1097, hc1098, hr1099⟩ := rdN_at h2 hz1092 ha1100
       refine OV (.pointer (some ⟨b1093, q1094, none⟩)) rfl (x_ix U24 Tryz_T27 rfl rfl hix1096) ?_
       refine OV v1095 rfl (x_load1 U27 rfl rfl (hL.cellS 1 rfl hs1097 hc1098)) ?_
       refine OV (.int .i64 s_l2) rfl (x_mv f1034) ?_
       obtain ⟨x1101, ha1102, hm⟩ := bndE hm
       obtain ⟨hz1103, ha1107⟩ := idxE ha1102
       obtain ⟨b1104, q1105, hix1106⟩ := rdL_ix (hL.rdS 1 rfl hr1099) hz1103 ha1107
       refine OV (.pointer (some ⟨b1104, q1105, none⟩)) rfl (x_ix U27 Tryz_T2 rfl rfl hix1106) ?_
       refine OV (.int .i64 x1101) rfl (x_load1 U2 rfl rfl (rdF_cells (hL.rdS 1 rfl hr1099) hix1106 ha1107 0 _ rfl)) ?_
       obtain ⟨x1108, hx1109, hm⟩ := bndE hm
       refine OW.cons (OP.call rfl (x_call (vs := [(.int .i64 x1101), (.int .i64 0), (.int .i64 10000)]) Tryz_C48 ⟨rfl, rfl, rfl, trivial⟩) (M.spec_l01In_ok _ x1101 0 10000 hx1109) ?_)
       rintro e1110 wd1111 ⟨rfl, hF1112⟩
       refine ⟨_, rfl, ?_⟩
       have hL := hL.pushAll hF1112
       simp only [lA, lB, lC, lD] at hL
       refine OV (.bool (!x1108)) rfl (x_not rfl) ?_
       refine OV (.bool (!x1108)) rfl (x_move) ?_
       refine ifB_elim hm (fun hb1113 hm => ?_) (fun hb1113 hm => ?_)
       · refine OW.cons (OP.no' rfl rfl hb1113 rfl ?_)
         refine OW.cons (OP.no' rfl rfl hb1113 rfl ?_)
         refine OW.cons (OP.no' rfl rfl hb1113 rfl ?_)
         refine OW.cons (OP.no' rfl rfl hb1113 rfl ?_)
         refine OW.cons (OP.no' rfl rfl hb1113 rfl ?_)
         refine OW.cons (OP.no' rfl rfl hb1113 rfl ?_)
         refine OW.cons (OP.no' rfl rfl hb1113 rfl ?_)
         refine OW.cons (OP.no' rfl rfl hb1113 rfl ?_)
         refine OW.cons (OP.no' rfl rfl hb1113 rfl ?_)
         refine OW.cons (OP.no' rfl rfl hb1113 rfl ?_)
         refine OV (.bool true) rfl (x_pickT' rfl hb1113 rfl) ?_
         refine OW.nil ?_
         exact ⟨true, hm, ⟨f1032, f1033, f1034, rfl, hL⟩⟩
       refine OW.cons (OP.yes' rfl rfl hb1113 (OP.val (v := (.pointer (some ⟨b6, 2, none⟩))) rfl (x_fieldAddr (fsz := 1) 0 2 2 U26 rfl Tryz_T24 rfl f1032 rfl) ?_))
       refine OW.cons (OP.yes' rfl rfl hb1113 (OP.val (v := v3) rfl (x_load1 U24 rfl rfl (hL.cellB 0 rfl rfl)) ?_))
       refine OW.cons (OP.yes' rfl rfl hb1113 (OP.val (v := (.int .i64 s_l1)) rfl (x_mv f1033) ?_))
       obtain ⟨x1114, ha1115, hm⟩ := bndE hm
       obtain ⟨hz1116, ha1124⟩ := idxE ha1115
       obtain ⟨b1117, q1118, v1119, hix1120, hs1121, hc1122, hr1123⟩ := rdN_at h4 hz1116 ha1124
       refine OW.cons (OP.yes' rfl rfl hb1113 (OP.val (v := (.pointer (some ⟨b1117, q1118, none⟩))) rfl (x_ix U24 Tryz_T27 rfl rfl hix1120) ?_))
       refine OW.cons (OP.yes' rfl rfl hb1113 (OP.val (v := v1119) rfl (x_load1 U27 rfl rfl (hL.cellS 1 rfl hs1121 hc1122)) ?_))
       refine OW.cons (OP.yes' rfl rfl hb1113 (OP.val (v := (.int .i64 s_l2)) rfl (x_mv f1034) ?_))
       obtain ⟨x1125, ha1126, hm⟩ := bndE hm
       obtain ⟨hz1127, ha1131⟩ := idxE ha1126
       obtain ⟨b1128, q1129, hix1130⟩ := rdL_ix (hL.rdS 1 rfl hr1123) hz1127 ha1131
       refine OW.cons (OP.yes' rfl rfl hb1113 (OP.val (v := (.pointer (some ⟨b1128, q1129, none⟩))) rfl (x_ix U27 Tryz_T2 rfl rfl hix1130) ?_))
       refine OW.cons (OP.yes' rfl rfl hb1113 (OP.val (v := (.int .i64 x1125)) rfl (x_load1 U2 rfl rfl (rdF_cells (hL.rdS 1 rfl hr1123) hix1130 ha1131 0 _ rfl)) ?_))
       obtain ⟨x1132, hx1133, hm⟩ := bndE hm
       refine OW.cons (OP.yes' rfl rfl hb1113 (OP.call rfl (x_call (vs := [(.int .i64 x1125)]) Tryz_C96 ⟨rfl, trivial⟩) (M.spec_l26Code_ok _ x1125 hx1133) ?_))
       rintro e1134 wd1135 ⟨rfl, hF1136⟩
       refine ⟨_, rfl, ?_⟩
       have hL := hL.pushAll hF1136
       simp only [lA, lB, lC, lD] at hL
       refine OW.cons (OP.yes' rfl rfl hb1113 (OP.val (v := (.bool (!x1132))) rfl (x_not rfl) ?_))
       refine OV (.bool (!x1132)) rfl (x_pickF' rfl hb1113 rfl) ?_
       refine OW.nil ?_
       exact ⟨!x1132, hm, ⟨f1032, f1033, f1034, rfl, hL⟩⟩
     intro s_j3 F1083 wd1084 hJ hm
     unfold M.spec_IsTable_j3 at hm
     obtain ⟨f1085, f1086, f1087, f1088, hL⟩ := hJ
     refine CW.condM (t := s_j3) f1088 hm (fun hb1089 hm => ?_) (fun hb1089 hm => ?_)
     · refine CSR ?_
       refine OV (.bool false) rfl (x_assign) ?_
       refine OW.nil ?_
       refine CW.ret ?_
       obtain rfl := Option.some.inj hm
       have hm := hr1022 _ rfl
       obtain rfl := Option.some.inj hm
       have hm := hr774 _ rfl
       obtain rfl := Option.some.inj hm
       exact RR1 rfl rfl ⟨rfl, hL.fresh 1 rfl [] (by decide) (by decide) rfl⟩
     refine CW.skip ?_
     refine CW.regionL ?_
     refine OV (.int .i64 s_l2) rfl (x_mv f1087) ?_
     refine OV (.int .i64 (w64 (s_l2 + 1))) rfl (x_add rfl rfl) ?_
     refine OV (.int .i64 (w64 (s_l2 + 1))) rfl (x_assign) ?_
     refine OW.nil ?_
     obtain rfl := Option.some.inj hm
     exact ⟨_, rfl, ⟨f1085, f1086, rfl, hL⟩⟩
   refine CW.exit ?_
   refine XJ.hit ?_
   obtain rfl := Option.some.inj hm
   exact ⟨_, rfl, ⟨f1032, f1033, f1034, hL⟩⟩
 refine CW.exit ?_
 refine XJ.hit ?_
 obtain rfl := Option.some.inj hm
 exact ⟨_, rfl, ⟨f783, f784, hL⟩⟩

theorem M.spec_l27DrawRule_ok (w0 : World) {b1 : Nat} {v2 : Value} (a0 : Src) (h3 : rdL (fun k => k < w0.heap.size ∧ ¬ (Ent.blk b1 92 #[v2, .int .i64 a0.at_, .int .i64 a0.seed]).S k) w0 v2 a0.code) (he4 : (Ent.blk b1 92 #[v2, .int .i64 a0.at_, .int .i64 a0.seed]).H w0) {r : ((List Int)) × (Int × Int)} (hm : M.spec_l27DrawRule a0 = some r) :
    Calls Tryz.prog 39 #[(.pointer (some ⟨b1, 0, none⟩))] w0 fun e w' => ∃ (rv0 : Value) (rS0 : Nat → Prop), e = .returned rv0 ∧ Mut w0 w' (Ent.blk b1 92 #[v2, .int .i64 a0.at_, .int .i64 a0.seed]).S [Ent.blk b1 92 #[v2, .int .i64 r.2.1, .int .i64 r.2.2], Ent.own 2 rS0 rv0 r.1] := by
 unfold M.spec_l27DrawRule at hm
 refine calls_CW (args := [(.pointer (some ⟨b1, 0, none⟩))]) Tryz.func39 rfl rfl rfl ?_
 have hL := Hp.startIO he4
 refine CSR ?_
 refine OV (.slice none 0 0) rfl (x_assign) ?_
 refine ONR ?_
 refine OW.cons (S_lit ([] : List Int) hL U27 Tryz_T2 rfl (by decide) (by first | (simp [Instr.fill, madeCells, Value.cells, ev, upd, Flat.enc, Flat.sz]; done) | rfl | kernel_rfl) rfl rfl ?_)
 intro wd5 v6 S7 hL
 refine OV v6 rfl (x_assign) ?_
 refine ONR ?_
 refine OV (.int .i64 0) rfl (x_assign) ?_
 refine ONS ?_
 refine CSR ?_
 refine OV (.pointer (some ⟨b1, 0, none⟩)) rfl (x_move) ?_
 obtain ⟨x8, hx9, hm⟩ := bndE hm
 refine OW.cons (OP.call rfl (x_call (vs := [(.pointer (some ⟨b1, 0, none⟩)), (.int .i64 4)]) Tryz_C40 ⟨rfl, rfl, trivial⟩) (M.spec_l01Next_ok _ (Src.mk a0.code a0.at_ a0.seed) (hL.exZ 2 1 (by decide) rfl rfl h3) (hL.get 1 rfl) 4 hx9) ?_)
 rintro e10 wd11 ⟨rfl, hF12⟩
 refine ⟨_, rfl, ?_⟩
 have hL := hL.mut 1 rfl hF12
 simp only [lA, lB, lC, lD] at hL
 refine OV (.int .i64 x8.1) rfl (x_assign) ?_
 refine OW.nil ?_
 obtain ⟨o45, ho46, hm⟩ := bndE hm
 refine CW.loopB (fun (s_l1 : Int × Int × (List Int) × Int × Int) (F : Fr) (w : World) => ∃ (v41 : Value) (S42 : Nat → Prop), F 0 = (.pointer (some ⟨b1, 0, none⟩)) ∧ F 3 = v41 ∧ F 4 = (.int .i64 s_l1.2.2.2.1) ∧ F 5 = (.int .i64 s_l1.2.2.2.2) ∧ Hp w0 [Ent.own 2 S42 v41 s_l1.2.2.1, Ent.blk b1 92 #[v2, (.int .i64 s_l1.1), (.int .i64 s_l1.2.1)], Ent.frz w0 (Ent.blk b1 92 #[v2, .int .i64 a0.at_, .int .i64 a0.seed]).S] w) (fun o => outc o (fun x => some x) (fun s => M.spec_l27DrawRule_a1 a0 s) = some r) ho46 hm ⟨v6, S7, rfl, rfl, rfl, rfl, hL⟩ ?_ ?_
 · intro s_l1 F47 wd48 hJ hm
   have hm := outcE hm
   have hm : M.spec_l27DrawRule_a1 a0 s_l1 = some r := hm
   unfold M.spec_l27DrawRule_a1 at hm
   obtain ⟨v41, S42, f49, f50, f51, f52, hL⟩ := hJ
   refine CW.seq ?_
   refine CSR ?_
   refine OV (.pointer (some ⟨b1, 0, none⟩)) rfl (x_mv f49) ?_
   obtain ⟨x53, hx54, hm⟩ := bndE hm
   refine OW.cons (OP.call rfl (x_call (vs := [(.pointer (some ⟨b1, 0, none⟩)), (.int .i64 30)]) Tryz_C40 ⟨rfl, rfl, trivial⟩) (M.spec_l01Next_ok _ (Src.mk a0.code s_l1.1 s_l1.2.1) (hL.exZ 2 1 (by decide) rfl rfl h3) (hL.get 1 rfl) 30 hx54) ?_)
   rintro e55 wd56 ⟨rfl, hF57⟩
   refine ⟨_, rfl, ?_⟩
   have hL := hL.mut 1 rfl hF57
   simp only [lA, lB, lC, lD] at hL
   refine OW.nil ?_
   refine CW.block ?_
   refine CSR ?_
   refine OV (.bool (x53.1 == 0)) rfl (x_eql rfl rfl) ?_
   refine OV (.bool (x53.1 == 0)) rfl (x_assign) ?_
   refine OW.nil ?_
   refine CW.condM (t := x53.1 == 0) rfl hm (fun hb58 hm => ?_) (fun hb58 hm => ?_)
   · refine CSR ?_
     refine OV v41 rfl (x_mv f50) ?_
     refine OV (.int .i64 s_l1.2.2.2.1) rfl (x_mv f51) ?_
     refine OW.cons (S_lit ([s_l1.2.2.2.1] : List Int) hL U27 Tryz_T2 rfl (by decide) (by first | (simp [Instr.fill, madeCells, Value.cells, ev, upd, Flat.enc, Flat.sz]; done) | rfl | kernel_rfl) rfl rfl ?_)
     intro wd59 v60 S61 hL
     obtain ⟨hc65, hm⟩ := chkE hm
     refine OW.cons (S_append (ys := ([s_l1.2.2.2.1] : List Int)) hL 1 rfl U27 Tryz_T2 rfl rfl rfl (hL.rdO 0 rfl) hc65 (by decide) rfl ?_)
     intro wd62 v63 S64 hL
     refine OV v63 rfl (x_assign) ?_
     refine OW.nil ?_
     refine CW.ret ?_
     obtain rfl := Option.some.inj hm
     exact RR1 rfl rfl ⟨v63, S64, rfl, hL.mutOut 3 rfl [2, 1] (by decide) (by decide) rfl⟩
   refine CSR ?_
   refine OV (.bool (x53.1 == 1)) rfl (x_eql rfl rfl) ?_
   refine OV (.bool (x53.1 == 1)) rfl (x_assign) ?_
   refine OW.nil ?_
   refine CW.condM (t := x53.1 == 1) rfl hm (fun hb66 hm => ?_) (fun hb66 hm => ?_)
   · refine CSR ?_
     refine OV (.pointer (some ⟨b1, 0, none⟩)) rfl (x_mv f49) ?_
     obtain ⟨x67, hx68, hm⟩ := bndE hm
     refine OW.cons (OP.call rfl (x_call (vs := [(.pointer (some ⟨b1, 0, none⟩)), (.int .i64 2)]) Tryz_C40 ⟨rfl, rfl, trivial⟩) (M.spec_l01Next_ok _ (Src.mk a0.code x53.2.1 x53.2.2) (hL.exZ 2 1 (by decide) rfl rfl h3) (hL.get 1 rfl) 2 hx68) ?_)
     rintro e69 wd70 ⟨rfl, hF71⟩
     refine ⟨_, rfl, ?_⟩
     have hL := hL.mut 1 rfl hF71
     simp only [lA, lB, lC, lD] at hL
     refine OV (.int .i64 (w64 (13 * x67.1))) rfl (x_mul rfl rfl) ?_
     refine OW.cons (S_lit ([w64 (13 * x67.1)] : List Int) hL U27 Tryz_T2 rfl (by decide) (by first | (simp [Instr.fill, madeCells, Value.cells, ev, upd, Flat.enc, Flat.sz]; done) | rfl | kernel_rfl) rfl rfl ?_)
     intro wd72 v73 S74 hL
     refine OV v73 rfl (x_assign) ?_
     refine OW.nil ?_
     refine CW.ret ?_
     obtain rfl := Option.some.inj hm
     exact RR1 rfl rfl ⟨v73, S74, rfl, hL.mutOut 3 rfl [2, 0] (by decide) (by decide) rfl⟩
   refine CSR ?_
   refine OV (.bool (x53.1 == 2)) rfl (x_eql rfl rfl) ?_
   refine OV (.bool (x53.1 == 2)) rfl (x_assign) ?_
   refine OW.nil ?_
   refine CW.condM (t := x53.1 == 2) rfl hm (fun hb75 hm => ?_) (fun hb75 hm => ?_)
   · refine CSR ?_
     refine OW.cons (S_lit ([1, 2, 3, 4] : List Int) hL U27 Tryz_T2 rfl (by decide) (by first | (simp [Instr.fill, madeCells, Value.cells, ev, upd, Flat.enc, Flat.sz]; done) | rfl | kernel_rfl) rfl rfl ?_)
     intro wd76 v77 S78 hL
     refine OV v77 rfl (x_assign) ?_
     refine OW.nil ?_
     refine CW.ret ?_
     obtain rfl := Option.some.inj hm
     exact RR1 rfl rfl ⟨v77, S78, rfl, hL.mutOut 3 rfl [2, 0] (by decide) (by decide) rfl⟩
   refine CW.skip ?_
   refine CSR ?_
   refine OV v41 rfl (x_mv f50) ?_
   refine OV v41 rfl (x_assign) ?_
   refine OW.nil ?_
   refine CW.ret ?_
   obtain rfl := Option.some.inj hm
   exact RR1 rfl rfl ⟨v41, S42, rfl, hL.mutOut 2 rfl [1, 0] (by decide) (by decide) rfl⟩
 intro s_l1 F79 wd80 t43 hJ hm hr44
 unfold M.spec_l27DrawRule_l1 at hm
 obtain ⟨v41, S42, f81, f82, f83, f84, hL⟩ := hJ
 refine CW.seq ?_
 refine CSR ?_
 refine OV (.int .i64 s_l1.2.2.2.2) rfl (x_mv f84) ?_
 refine OV (.bool (decide (0 < s_l1.2.2.2.2))) rfl (x_gtr rfl rfl) ?_
 refine OW.nil ?_
 refine CW.condM (t := decide (0 < s_l1.2.2.2.2)) rfl hm (fun hb85 hm => ?_) (fun hb85 hm => ?_)
 · refine CW.skip ?_
   refine CW.seq ?_
   refine CW.block ?_
   refine CSR ?_
   refine OV (.int .i64 s_l1.2.2.2.1) rfl (x_mv f83) ?_
   refine OV (.int .i64 (w64 (s_l1.2.2.2.1 + 1))) rfl (x_add rfl rfl) ?_
   refine OV (.pointer (some ⟨b1, 0, none⟩)) rfl (x_mv f81) ?_
   obtain ⟨x86, hx87, hm⟩ := bndE hm
   refine OW.cons (OP.call rfl (x_call (vs := [(.pointer (some ⟨b1, 0, none⟩)), (.int .i64 4)]) Tryz_C40 ⟨rfl, rfl, trivial⟩) (M.spec_l01Next_ok _ (Src.mk a0.code s_l1.1 s_l1.2.1) (hL.exZ 2 1 (by decide) rfl rfl h3) (hL.get 1 rfl) 4 hx87) ?_)
   rintro e88 wd89 ⟨rfl, hF90⟩
   refine ⟨_, rfl, ?_⟩
   have hL := hL.mut 1 rfl hF90
   simp only [lA, lB, lC, lD] at hL
   refine OV (.int .i64 (w64 ((w64 (s_l1.2.2.2.1 + 1)) + x86.1))) rfl (x_add rfl rfl) ?_
   refine OV (.int .i64 (w64 ((w64 (s_l1.2.2.2.1 + 1)) + x86.1))) rfl (x_assign) ?_
   refine OW.nil ?_
   refine CW.regionL ?_
   refine OV v41 rfl (x_mv f82) ?_
   refine OV (.int .i64 (w64 ((w64 (s_l1.2.2.2.1 + 1)) + x86.1))) rfl (x_move) ?_
   refine OW.cons (S_lit ([w64 ((w64 (s_l1.2.2.2.1 + 1)) + x86.1)] : List Int) hL U27 Tryz_T2 rfl (by decide) (by first | (simp [Instr.fill, madeCells, Value.cells, ev, upd, Flat.enc, Flat.sz]; done) | rfl | kernel_rfl) rfl rfl ?_)
   intro wd91 v92 S93 hL
   obtain ⟨hc97, hm⟩ := chkE hm
   refine OW.cons (S_append (ys := ([w64 ((w64 (s_l1.2.2.2.1 + 1)) + x86.1)] : List Int)) hL 1 rfl U27 Tryz_T2 rfl rfl rfl (hL.rdO 0 rfl) hc97 (by decide) rfl ?_)
   intro wd94 v95 S96 hL
   refine OV v95 rfl (x_assign) ?_
   refine OW.nil ?_
   refine CW.regionL ?_
   refine OV (.int .i64 s_l1.2.2.2.2) rfl (x_mv f84) ?_
   refine OV (.int .i64 (w64 (s_l1.2.2.2.2 - 1))) rfl (x_sub rfl rfl) ?_
   refine OV (.int .i64 (w64 (s_l1.2.2.2.2 - 1))) rfl (x_assign) ?_
   refine OW.nil ?_
   have hL := hL.sel [1, 2, 3] (by decide) rfl
   obtain rfl := Option.some.inj hm
   exact ⟨_, rfl, ⟨v95, S96, f81, rfl, rfl, rfl, hL⟩⟩
 refine CW.exit ?_
 refine XJ.hit ?_
 obtain rfl := Option.some.inj hm
 exact ⟨_, rfl, ⟨v41, S42, f81, f82, f83, f84, hL⟩⟩

theorem M.spec_l27DrawBoat_ok (w0 : World) {b1 : Nat} {v2 : Value} (a0 : Src) (h3 : rdL (fun k => k < w0.heap.size ∧ ¬ (Ent.blk b1 92 #[v2, .int .i64 a0.at_, .int .i64 a0.seed]).S k) w0 v2 a0.code) (he4 : (Ent.blk b1 92 #[v2, .int .i64 a0.at_, .int .i64 a0.seed]).H w0) (a1 : Table) {v5 : Value} {v7 : Value} (h6 : rdL (fun k => k < w0.heap.size ∧ ¬ (Ent.blk b1 92 #[v2, .int .i64 a0.at_, .int .i64 a0.seed]).S k) w0 v5 a1.Points) (h8 : rdL (fun k => k < w0.heap.size ∧ ¬ (Ent.blk b1 92 #[v2, .int .i64 a0.at_, .int .i64 a0.seed]).S k) w0 v7 a1.Codes) {r : (Int) × (Int × Int)} (hm : M.spec_l27DrawBoat a0 a1 = some r) :
    Calls Tryz.prog 92 #[(.pointer (some ⟨b1, 0, none⟩)), (.agg #[(.int .i64 a1.Boats), v5, v7])] w0 fun e w' => e = .returned (.int .i64 r.1) ∧ Mut w0 w' (Ent.blk b1 92 #[v2, .int .i64 a0.at_, .int .i64 a0.seed]).S [Ent.blk b1 92 #[v2, .int .i64 r.2.1, .int .i64 r.2.2]] := by
 unfold M.spec_l27DrawBoat at hm
 refine calls_CW (args := [(.pointer (some ⟨b1, 0, none⟩)), (.agg #[(.int .i64 a1.Boats), v5, v7])]) Tryz.func92 rfl rfl rfl ?_
 have hL := Hp.startIO he4
 refine CSR ?_
 refine OW.cons (S_box (cs := #[(.int .i64 a1.Boats), v5, v7]) hL rfl rfl rfl ?_)
 intro wd9 b10 hL
 refine OV (.int .i64 0) rfl (x_assign) ?_
 refine ONS ?_
 refine CSR ?_
 refine OV (.pointer (some ⟨b1, 0, none⟩)) rfl (x_move) ?_
 obtain ⟨x11, hx12, hm⟩ := bndE hm
 refine OW.cons (OP.call rfl (x_call (vs := [(.pointer (some ⟨b1, 0, none⟩)), (.int .i64 24)]) Tryz_C40 ⟨rfl, rfl, trivial⟩) (M.spec_l01Next_ok _ (Src.mk a0.code a0.at_ a0.seed) (hL.exZ 2 1 (by decide) rfl rfl h3) (hL.get 1 rfl) 24 hx12) ?_)
 rintro e13 wd14 ⟨rfl, hF15⟩
 refine ⟨_, rfl, ?_⟩
 have hL := hL.mut 1 rfl hF15
 simp only [lA, lB, lC, lD] at hL
 refine OV (.bool (x11.1 == 0)) rfl (x_eql rfl rfl) ?_
 refine OW.nil ?_
 refine CW.condM (t := x11.1 == 0) rfl hm (fun hb16 hm => ?_) (fun hb16 hm => ?_)
 · refine CW.seq ?_
   refine CW.drawH (fun w' => Hp w0 [Ent.blk b10 26 #[(.int .i64 a1.Boats), v5, v7], Ent.frz w0 (Ent.blk b1 92 #[v2, .int .i64 a0.at_, .int .i64 a0.seed]).S] w') Tryz_mixed ?_
   have hL := hL.call (Mod.drew _)
   have hS := (hL.sel [0, 2] (by decide) rfl)
   refine DH.take 0 rfl (by kernel_rfl) (by kernel_rfl) (by kernel_rfl) rfl rfl hS (YH.val (v := (.pointer (some ⟨b10, 0, none⟩))) (fun w' hS' => x_fieldAddr (fsz := 1) 0 0 0 U26 rfl Tryz_T2 rfl rfl rfl)) ?_
   have hS := (hL.sel [0, 2] (by decide) rfl)
   refine DH.take 1 rfl (by kernel_rfl) (by kernel_rfl) (by kernel_rfl) rfl rfl hS (YH.val (v := (.int .i64 a1.Boats)) (fun w' hS' => x_load1 U2 rfl rfl (hS'.cellB 0 rfl rfl))) ?_
   have hS := (hL.sel [0, 2] (by decide) rfl)
   refine DH.take 2 rfl (by kernel_rfl) (by kernel_rfl) (by kernel_rfl) rfl rfl hS (YH.val (v := (.pointer (some ⟨b10, 0, none⟩))) (fun w' hS' => x_fieldAddr (fsz := 1) 0 0 0 U26 rfl Tryz_T2 rfl rfl rfl)) ?_
   have hS := (hL.sel [0, 2] (by decide) rfl)
   refine DH.take 3 rfl (by kernel_rfl) (by kernel_rfl) (by kernel_rfl) rfl rfl hS (YH.val (v := (.int .i64 a1.Boats)) (fun w' hS' => x_load1 U2 rfl rfl (hS'.cellB 0 rfl rfl))) ?_
   have hS := (hL.sel [0, 2] (by decide) rfl)
   refine DH.take 4 rfl (by kernel_rfl) (by kernel_rfl) (by kernel_rfl) rfl rfl hS (YH.val (v := (.int .i64 (w64 (a1.Boats + 1)))) (fun w' hS' => x_add rfl rfl)) ?_
   have hS := (hL.sel [0, 2] (by decide) rfl)
   refine DH.take 5 rfl (by kernel_rfl) (by kernel_rfl) (by kernel_rfl) rfl rfl hS (YH.val (v := (.pointer (some ⟨b1, 0, none⟩))) (fun w' hS' => x_move)) ?_
   obtain ⟨x22, hx23, hm⟩ := bndE hm
   refine DH.only 6 rfl (by kernel_rfl) (OP.call rfl (x_call (vs := [(.pointer (some ⟨b1, 0, none⟩)), (.int .i64 2)]) Tryz_C40 ⟨rfl, rfl, trivial⟩) (M.spec_l01Next_ok _ (Src.mk a0.code x11.2.1 x11.2.2) (hL.exZ 2 1 (by decide) rfl rfl h3) (hL.get 1 rfl) 2 hx23) ?_)
   rintro e24 wd25 ⟨rfl, hF26⟩
   refine ⟨_, rfl, ?_⟩
   have hL := hL.mut 1 rfl hF26
   simp only [lA, lB, lC, lD] at hL
   refine ⟨(hL.sel [0, 2] (by decide) rfl), ?_⟩
   have hS := (hL.sel [0, 2] (by decide) rfl)
   refine DH.take 7 rfl (by kernel_rfl) (by kernel_rfl) (by kernel_rfl) rfl rfl hS (YH.val (v := (.int .i64 (w64 ((w64 (a1.Boats + 1)) * x22.1)))) (fun w' hS' => x_mul rfl rfl)) ?_
   have hS := (hL.sel [0, 2] (by decide) rfl)
   refine DH.take 8 rfl (by kernel_rfl) (by kernel_rfl) (by kernel_rfl) rfl rfl hS (YH.val (v := (.int .i64 (w64 (a1.Boats - (w64 ((w64 (a1.Boats + 1)) * x22.1)))))) (fun w' hS' => x_sub rfl rfl)) ?_
   have hS := (hL.sel [0, 2] (by decide) rfl)
   refine DH.take 9 rfl (by kernel_rfl) (by kernel_rfl) (by kernel_rfl) rfl rfl hS (YH.val (v := (.int .i64 (w64 (a1.Boats - (w64 ((w64 (a1.Boats + 1)) * x22.1)))))) (fun w' hS' => x_assign)) ?_
   refine DH.done (by kernel_rfl) ?_
   refine CW.ret ?_
   obtain rfl := Option.some.inj hm
   exact RR1 rfl rfl ⟨rfl, hL.mutOut 2 rfl [1] (by decide) (by decide) rfl⟩
 refine CW.skip ?_
 refine CSR ?_
 refine OV (.pointer (some ⟨b1, 0, none⟩)) rfl (x_move) ?_
 refine OV (.pointer (some ⟨b10, 0, none⟩)) rfl (x_fieldAddr (fsz := 1) 0 0 0 U26 rfl Tryz_T2 rfl rfl rfl) ?_
 refine OV (.int .i64 a1.Boats) rfl (x_load1 U2 rfl rfl (hL.cellB 0 rfl rfl)) ?_
 refine OV (.int .i64 (max 1 a1.Boats)) rfl (x_max2 rfl rfl) ?_
 obtain ⟨x27, hx28, hm⟩ := bndE hm
 refine OW.cons (OP.call rfl (x_call (vs := [(.pointer (some ⟨b1, 0, none⟩)), (.int .i64 (max 1 a1.Boats))]) Tryz_C40 ⟨rfl, rfl, trivial⟩) (M.spec_l01Next_ok _ (Src.mk a0.code x11.2.1 x11.2.2) (hL.exZ 2 1 (by decide) rfl rfl h3) (hL.get 1 rfl) (max 1 a1.Boats) hx28) ?_)
 rintro e29 wd30 ⟨rfl, hF31⟩
 refine ⟨_, rfl, ?_⟩
 have hL := hL.mut 1 rfl hF31
 simp only [lA, lB, lC, lD] at hL
 refine OV (.int .i64 x27.1) rfl (x_assign) ?_
 refine OW.nil ?_
 refine CW.ret ?_
 obtain rfl := Option.some.inj hm
 exact RR1 rfl rfl ⟨rfl, hL.mutOut 2 rfl [1] (by decide) (by decide) rfl⟩

theorem M.spec_l28Draw_ok (w0 : World) (a0 : List UInt8) {v1 : Value} (h2 : rdL (· < w0.heap.size) w0 v1 a0) {r : Table × (List Int) × Int × Int} (hm : M.spec_l28Draw a0 = some r) :
    Calls Tryz.prog 60 #[v1] w0 fun e w' => ∃ (rv0 : Value) (rS0 : Nat → Prop), ∃ (rv1 : Value) (rS1 : Nat → Prop), ∃ (rv2 : Value) (rS2 : Nat → Prop), e = .returned (.tuple #[(.agg #[(.int .i64 r.1.Boats), rv0, rv1]), rv2, (.int .i64 r.2.2.1), (.int .i64 r.2.2.2)]) ∧ Fresh w0 w' [Ent.cnd (M.spec_IsTable r.1 = some true) 27 rS0 rv0 r.1.Points, Ent.rdx rS1 rv1 r.1.Codes, Ent.rdx rS2 rv2 r.2.1] := by
 unfold M.spec_l28Draw at hm
 refine calls_CW (args := [v1]) Tryz.func60 rfl rfl rfl ?_
 have hL := Hp.start w0
 refine CSR ?_
 refine OW.cons (S_alloc (cs := #[(.int .i64 0), (.slice none 0 0), (.slice none 0 0)]) hL Tryz_T26 rfl rfl ?_)
 intro wd3 b4 hL
 refine OV (.slice none 0 0) rfl (x_assign) ?_
 refine OV (.int .i64 0) rfl (x_assign) ?_
 refine OV (.int .i64 0) rfl (x_assign) ?_
 refine ONR ?_
 refine OV v1 rfl (x_move) ?_
 obtain ⟨x5, hx6, hm⟩ := bndE hm
 refine OW.cons (OP.call rfl (x_call (vs := [v1]) Tryz_C37 ⟨rfl, trivial⟩) (M.spec_l01From_ok _ a0 (hL.rdS 1 rfl h2) hx6) ?_)
 rintro e8 wd9 ⟨b7, rfl, hF10⟩
 refine ⟨_, rfl, ?_⟩
 have hL := hL.pushAll hF10
 simp only [lA, lB, lC, lD] at hL
 refine OV (.pointer (some ⟨b7, 0, none⟩)) rfl (x_assign) ?_
 refine ONR ?_
 refine OV (.pointer (some ⟨b7, 0, none⟩)) rfl (x_move) ?_
 obtain ⟨x11, hx12, hm⟩ := bndE hm
 refine OW.cons (OP.call rfl (x_call (vs := [(.pointer (some ⟨b7, 0, none⟩))]) Tryz_C91 ⟨rfl, trivial⟩) (M.spec_l26DrawTable_ok _ (Src.mk a0 x5.1 x5.2) (hL.exS 2 0 (by decide) rfl rfl h2) (hL.get 0 rfl) hx12) ?_)
 rintro e17 wd18 ⟨v14, S13, v16, S15, rfl, hF19⟩
 refine ⟨_, rfl, ?_⟩
 have hL := hL.mut 0 rfl hF19
 simp only [lA, lB, lC, lD] at hL
 obtain ⟨wz20, hL, ho21⟩ := hL.cndFz 0 rfl
 simp only [lC, lD] at hL
 obtain ⟨wz22, hL, ho23⟩ := hL.rdxFz 1 rfl
 simp only [lC, lD] at hL
 refine OW.cons (S_alloc (cs := #[(.int .i64 0), (.slice none 0 0), (.slice none 0 0)]) hL Tryz_T26 rfl rfl ?_)
 intro wd24 b25 hL
 refine OW.cons (S_storeN (l := [(.int .i64 x11.1.Boats), v14, v16]) (cs' := #[(.int .i64 x11.1.Boats), v14, v16]) hL 0 rfl Tryz_T26 rfl rfl (List.forall_mem_cons.2 ⟨rfl, (List.forall_mem_cons.2 ⟨rdL_one (hL.rdF 1 rfl ho21.1.rdL), (List.forall_mem_cons.2 ⟨rdL_one (hL.rdF 2 rfl ho23.1.rdL), (fun _ h => by cases h)⟩)⟩)⟩) rfl (Nat.le_of_ble_eq_true rfl) rfl ?_)
 intro wd26 hL
 refine OW.nil ?_
 refine CW.seqJ (fun (s_j1 : Int × Int × (List (List Int))) (F : Fr) (w : World) => ∃ (v858 : Value) (S859 : Nat → Prop), F 2 = (.pointer (some ⟨b4, 0, none⟩)) ∧ F 6 = (.pointer (some ⟨b7, 0, none⟩)) ∧ F 7 = (.pointer (some ⟨b25, 0, none⟩)) ∧ Hp w0 [Ent.cnd (M.spec_IsTable (Table.mk x11.1.Boats s_j1.2.2 x11.1.Codes) = some true) 27 S859 v858 s_j1.2.2, Ent.blk b25 26 #[(.int .i64 x11.1.Boats), v858, v16], Ent.frzS wz22 S15, Ent.blk b7 92 #[v1, (.int .i64 s_j1.1), (.int .i64 s_j1.2.1)], Ent.blk b4 26 #[(.int .i64 0), (.slice none 0 0), (.slice none 0 0)], Ent.snap w0 w0.heap.size] w) (fun s_j1 => M.spec_l28Draw_j1 a0 x11 s_j1 = some r) ?_ ?_
 · refine CW.seqJ (fun (s_j2 : Int × Int × Bool) (F : Fr) (w : World) => F 2 = (.pointer (some ⟨b4, 0, none⟩)) ∧ F 6 = (.pointer (some ⟨b7, 0, none⟩)) ∧ F 7 = (.pointer (some ⟨b25, 0, none⟩)) ∧ F 22 = (.bool s_j2.2.2) ∧ Hp w0 [Ent.blk b25 26 #[(.int .i64 x11.1.Boats), v14, v16], Ent.frzS wz20 S13, Ent.frzS wz22 S15, Ent.blk b7 92 #[v1, (.int .i64 s_j2.1), (.int .i64 s_j2.2.1)], Ent.blk b4 26 #[(.int .i64 0), (.slice none 0 0), (.slice none 0 0)], Ent.snap w0 w0.heap.size] w) (fun s_j2 => M.spec_l28Draw_j2 a0 x11 s_j2 = some r) ?_ ?_
   · refine CW.regionL ?_
     refine OV (.pointer (some ⟨b7, 0, none⟩)) rfl (x_move) ?_
     obtain ⟨x1797, hx1798, hm⟩ := bndE hm
     refine OW.cons (OP.call rfl (x_call (vs := [(.pointer (some ⟨b7, 0, none⟩)), (.int .i64 2)]) Tryz_C40 ⟨rfl, rfl, trivial⟩) (M.spec_l01Next_ok _ (Src.mk a0 x11.2.1 x11.2.2) (hL.exS 5 3 (by decide) rfl rfl h2) (hL.get 3 rfl) 2 hx1798) ?_)
     rintro e1799 wd1800 ⟨rfl, hF1801⟩
     refine ⟨_, rfl, ?_⟩
     have hL := hL.mut 3 rfl hF1801
     simp only [lA, lB, lC, lD] at hL
     refine OV (.bool (x1797.1 == 0)) rfl (x_eql rfl rfl) ?_
     refine OV (.bool (x1797.1 == 0)) rfl (x_move) ?_
     refine ifB_elim hm (fun hb1802 hm => ?_) (fun hb1802 hm => ?_)
     · refine OW.cons (OP.yes' rfl rfl hb1802 (OP.val (v := (.agg #[(.int .i64 x11.1.Boats), v14, v16])) rfl (x_loadN (cs := [(.int .i64 x11.1.Boats), v14, v16]) U26 Tryz_T26 rfl rfl (hL.cellsB 0 rfl (o := 0) (l := [(.int .i64 x11.1.Boats), v14, v16]) (by intro j u hj; exact (by simpa using hj)))) ?_))
       obtain ⟨x1803, hx1804, hm⟩ := bndE hm
       refine OW.cons (OP.yes' rfl rfl hb1802 (OP.call rfl (x_call (vs := [(.agg #[(.int .i64 x11.1.Boats), v14, v16])]) Tryz_C64 ⟨rfl, trivial⟩) (M.spec_IsTable_ok _ x11.1 (hL.rdF 1 rfl ho21.1.rdL) (hL.rdF 2 rfl ho23.1.rdL) hx1804) ?_))
       rintro e1805 wd1806 ⟨rfl, hF1807⟩
       refine ⟨_, rfl, ?_⟩
       have hL := hL.pushAll hF1807
       simp only [lA, lB, lC, lD] at hL
       refine OV (.bool x1803) rfl (x_pickT' rfl hb1802 rfl) ?_
       refine OW.nil ?_
       exact ⟨(x1797.2.1, x1797.2.2, x1803), hm, ⟨rfl, rfl, rfl, rfl, hL⟩⟩
     refine OW.cons (OP.no' rfl rfl hb1802 rfl ?_)
     refine OW.cons (OP.no' rfl rfl hb1802 rfl ?_)
     refine OV (.bool false) rfl (x_pickF' rfl hb1802 rfl) ?_
     refine OW.nil ?_
     exact ⟨(x1797.2.1, x1797.2.2, false), hm, ⟨rfl, rfl, rfl, rfl, hL⟩⟩
   intro s_j2 F900 wd901 hJ hm
   unfold M.spec_l28Draw_j2 at hm
   obtain ⟨f902, f903, f904, f905, hL⟩ := hJ
   refine CW.condM (t := s_j2.2.2) f905 hm (fun hb906 hm => ?_) (fun hb906 hm => ?_)
   · obtain ⟨hC907, hm⟩ := chkE hm
     have hL := hL.cndOwn 1 rfl ho21 hC907
     simp only [lC, lD] at hL
     refine CSR ?_
     refine OV (.int .i64 0) rfl (x_assign) ?_
     refine OW.nil ?_
     obtain ⟨o1434, ho1435, hm⟩ := bndE hm
     refine CW.loopB (fun (s_l1 : Int × Int × (List (List Int)) × Int) (F : Fr) (w : World) => ∃ (S1431 : Nat → Prop), F 2 = (.pointer (some ⟨b4, 0, none⟩)) ∧ F 6 = (.pointer (some ⟨b7, 0, none⟩)) ∧ F 7 = (.pointer (some ⟨b25, 0, none⟩)) ∧ F 8 = (.int .i64 s_l1.2.2.2) ∧ Hp w0 [Ent.blk b25 26 #[(.int .i64 x11.1.Boats), v14, v16], Ent.own 27 S1431 v14 s_l1.2.2.1, Ent.frzS wz22 S15, Ent.blk b7 92 #[v1, (.int .i64 s_l1.1), (.int .i64 s_l1.2.1)], Ent.blk b4 26 #[(.int .i64 0), (.slice none 0 0), (.slice none 0 0)], Ent.snap w0 w0.heap.size] w) (fun o => outc o (fun x => some x) (fun s => M.spec_l28Draw_a1 a0 x11 s) = some r) ho1435 hm ⟨S13, f902, f903, f904, rfl, hL⟩ ?_ ?_
     · intro s_l1 F1436 wd1437 hJ hm
       have hm := outcE hm
       have hm : M.spec_l28Draw_a1 a0 x11 s_l1 = some r := hm
       unfold M.spec_l28Draw_a1 at hm
       obtain ⟨S1431, f1438, f1439, f1440, f1441, hL⟩ := hJ
       have hL := hL.cndIn 1 rfl (M.spec_IsTable (Table.mk x11.1.Boats s_l1.2.2.1 x11.1.Codes) = some true)
       simp only [lC, lD] at hL
       have hL := hL.sel [1, 0, 2, 3, 4, 5] (by decide) rfl
       exact ⟨(s_l1.1, s_l1.2.1, s_l1.2.2.1), hm, ⟨v14, S1431, f1438, f1439, f1440, hL⟩⟩
     intro s_l1 F1442 wd1443 t1432 hJ hm hr1433
     unfold M.spec_l28Draw_l1 at hm
     obtain ⟨S1431, f1444, f1445, f1446, f1447, hL⟩ := hJ
     refine CW.seq ?_
     refine CSR ?_
     refine OV (.int .i64 s_l1.2.2.2) rfl (x_mv f1447) ?_
     refine OV (.pointer (some ⟨b25, 1, none⟩)) rfl (x_fieldAddr (fsz := 1) 0 1 1 U26 rfl Tryz_T24 rfl f1446 rfl) ?_
     refine OV v14 rfl (x_load1 U24 rfl rfl (hL.cellB 0 rfl rfl)) ?_
     refine OV (.int .i64 (s_l1.2.2.1.length : Int)) rfl (x_lenR U24 rfl (hL.rdO 1 rfl)) ?_
     refine OV (.bool (decide (s_l1.2.2.2 < (s_l1.2.2.1.length : Int)))) rfl (x_lss rfl rfl) ?_
     refine OW.nil ?_
     refine CW.condM (t := decide (s_l1.2.2.2 < (s_l1.2.2.1.length : Int))) rfl hm (fun hb1448 hm => ?_) (fun hb1448 hm => ?_)
     · refine CW.skip ?_
       refine CW.seq ?_
       refine CW.block ?_
       refine CSR ?_
       refine OV (.int .i64 0) rfl (x_assign) ?_
       refine OW.nil ?_
       obtain ⟨o1613, ho1614, hm⟩ := bndE hm
       refine CW.loopB (fun (s_l2 : Int × Int × (List (List Int)) × Int) (F : Fr) (w : World) => ∃ (S1610 : Nat → Prop), F 2 = (.pointer (some ⟨b4, 0, none⟩)) ∧ F 6 = (.pointer (some ⟨b7, 0, none⟩)) ∧ F 7 = (.pointer (some ⟨b25, 0, none⟩)) ∧ F 8 = (.int .i64 s_l1.2.2.2) ∧ F 9 = (.int .i64 s_l2.2.2.2) ∧ Hp w0 [Ent.blk b25 26 #[(.int .i64 x11.1.Boats), v14, v16], Ent.own 27 S1610 v14 s_l2.2.2.1, Ent.frzS wz22 S15, Ent.blk b7 92 #[v1, (.int .i64 s_l2.1), (.int .i64 s_l2.2.1)], Ent.blk b4 26 #[(.int .i64 0), (.slice none 0 0), (.slice none 0 0)], Ent.snap w0 w0.heap.size] w) (fun o => outc o (fun x => some (.ret x)) (fun s => M.spec_l28Draw_a2 s_l1 s) = some t1432) ho1614 hm ⟨S1431, f1444, f1445, f1446, f1447, rfl, hL⟩ ?_ ?_
       · intro s_l2 F1615 wd1616 hJ hm
         have hm := outcE hm
         have hm : M.spec_l28Draw_a2 s_l1 s_l2 = some t1432 := hm
         unfold M.spec_l28Draw_a2 at hm
         obtain ⟨S1610, f1617, f1618, f1619, f1620, f1621, hL⟩ := hJ
         refine CW.regionL ?_
         refine OV (.int .i64 s_l1.2.2.2) rfl (x_mv f1620) ?_
         refine OV (.int .i64 (w64 (s_l1.2.2.2 + 1))) rfl (x_add rfl rfl) ?_
         refine OV (.int .i64 (w64 (s_l1.2.2.2 + 1))) rfl (x_assign) ?_
         refine OW.nil ?_
         obtain rfl := Option.some.inj hm
         exact ⟨_, rfl, ⟨S1610, f1617, f1618, f1619, rfl, hL⟩⟩
       intro s_l2 F1622 wd1623 t1611 hJ hm hr1612
       unfold M.spec_l28Draw_l2 at hm
       obtain ⟨S1610, f1624, f1625, f1626, f1627, f1628, hL⟩ := hJ
       refine CW.seq ?_
       refine CSR ?_
       refine OV (.int .i64 s_l2.2.2.2) rfl (x_mv f1628) ?_
       refine OV (.pointer (some ⟨b25, 1, none⟩)) rfl (x_fieldAddr (fsz := 1) 0 1 1 U26 rfl Tryz_T24 rfl f1626 rfl) ?_
       refine OV v14 rfl (x_load1 U24 rfl rfl (hL.cellB 0 rfl rfl)) ?_
       refine OV (.int .i64 s_l1.2.2.2) rfl (x_mv f1627) ?_
       obtain ⟨wz1629, hL, ho1630⟩ := hL.freeze 1 rfl
       simp only [lC, lD] at hL
       obtain ⟨x1631, ha1632, hm⟩ := bndE hm
       obtain ⟨hz1633, ha1641⟩ := idxE ha1632
       obtain ⟨b1634, q1635, v1636, hix1637, hs1638, hc1639, hr1640⟩ := rdN_at ho1630.1.rdL hz1633 ha1641
       refine OV (.pointer (some ⟨b1634, q1635, none⟩)) rfl (x_ix U24 Tryz_T27 rfl rfl hix1637) ?_
       refine OV v1636 rfl (x_load1 U27 rfl rfl (hL.cellF 1 rfl hs1638 hc1639)) ?_
       refine OV (.int .i64 (x1631.length : Int)) rfl (x_lenR U27 rfl (hL.rdF 1 rfl hr1640)) ?_
       refine OV (.bool (decide (s_l2.2.2.2 < (x1631.length : Int)))) rfl (x_lss rfl rfl) ?_
       refine OW.nil ?_
       refine CW.condM (t := decide (s_l2.2.2.2 < (x1631.length : Int))) rfl hm (fun hb1642 hm => ?_) (fun hb1642 hm => ?_)
       · refine CW.skip ?_
         refine CW.seq ?_
         refine CW.block ?_
         refine CW.drawH (fun w' => Hp w0 [Ent.blk b25 26 #[(.int .i64 x11.1.Boats), v14, v16], Ent.frzS wz22 S15, Ent.blk b4 26 #[(.int .i64 0), (.slice none 0 0), (.slice none 0 0)], Ent.snap w0 w0.heap.size] w') Tryz_mixed ?_
         have hL := hL.call (Mod.drew _)
         have hS := (hL.sel [0, 2, 4, 5] (by decide) rfl)
         refine DH.take 0 rfl (by kernel_rfl) (by kernel_rfl) (by kernel_rfl) rfl rfl hS (YH.val (v := (.pointer (some ⟨b25, 1, none⟩))) (fun w' hS' => x_fieldAddr (fsz := 1) 0 1 1 U26 rfl Tryz_T24 rfl f1626 rfl)) ?_
         have hS := (hL.sel [0, 2, 4, 5] (by decide) rfl)
         refine DH.take 1 rfl (by kernel_rfl) (by kernel_rfl) (by kernel_rfl) rfl rfl hS (YH.val (v := v14) (fun w' hS' => x_load1 U24 rfl rfl (hS'.cellB 0 rfl rfl))) ?_
         have hS := (hL.sel [0, 2, 4, 5] (by decide) rfl)
         refine DH.take 2 rfl (by kernel_rfl) (by kernel_rfl) (by kernel_rfl) rfl rfl hS (YH.val (v := (.int .i64 s_l1.2.2.2)) (fun w' hS' => x_mv f1627)) ?_
         have hS := (hL.sel [0, 2, 4, 5] (by decide) rfl)
         obtain ⟨x1676, ha1677, hm⟩ := bndE hm
         obtain ⟨hz1678, ha1686⟩ := idxE ha1677
         obtain ⟨b1679, q1680, v1681, hix1682, hs1683, hc1684, hr1685⟩ := rdN_at ho1630.1.rdL hz1678 ha1686
         refine DH.take 3 rfl (by kernel_rfl) (by kernel_rfl) (by kernel_rfl) rfl rfl hS (YH.val (v := (.pointer (some ⟨b1679, q1680, none⟩))) (fun w' hS' => x_ix U24 Tryz_T27 rfl rfl hix1682)) ?_
         have hS := (hL.sel [0, 2, 4, 5] (by decide) rfl)
         refine DH.take 5 rfl (by kernel_rfl) (by kernel_rfl) (by kernel_rfl) rfl rfl hS (YH.val (v := (.int .i64 s_l2.2.2.2)) (fun w' hS' => x_mv f1628)) ?_
         have hS := (hL.sel [0, 2, 4, 5] (by decide) rfl)
         refine DH.take 6 rfl (by kernel_rfl) (by kernel_rfl) (by kernel_rfl) rfl rfl hS (YH.val (v := (.pointer (some ⟨b7, 0, none⟩))) (fun w' hS' => x_mv f1625)) ?_
         obtain ⟨x1687, hx1688, hm⟩ := bndE hm
         obtain ⟨x1692, ha1693, hm⟩ := bndE hm
         refine DH.node (listed' := (bma 12 4095)) (fuel' := 0) (fun (F : Fr) (w : World) => ∃ (S1734 : Nat → Prop), F 2 = (.pointer (some ⟨b4, 0, none⟩)) ∧ F 6 = (.pointer (some ⟨b7, 0, none⟩)) ∧ F 7 = (.pointer (some ⟨b25, 0, none⟩)) ∧ F 8 = (.int .i64 s_l1.2.2.2) ∧ F 9 = (.int .i64 s_l2.2.2.2) ∧ Hp w0 [Ent.blk b25 26 #[(.int .i64 x11.1.Boats), v14, v16], Ent.own 27 S1734 v14 (s_l2.2.2.1.set (s_l1.2.2.2 : Int).toNat (x1676.set (s_l2.2.2.2 : Int).toNat (w64 (10 * (w64 (1 + x1687.1)))))), Ent.frzS wz22 S15, Ent.blk b7 92 #[v1, (.int .i64 x1687.2.1), (.int .i64 x1687.2.2)], Ent.blk b4 26 #[(.int .i64 0), (.slice none 0 0), (.slice none 0 0)], Ent.snap w0 w0.heap.size] w) ?_ (fun hN1730 => ?_)
         · intro F1738 wd1739 hJ
           obtain ⟨S1734, f1740, f1741, f1742, f1743, f1744, hL⟩ := hJ
           refine DH.done (by kernel_rfl) ?_
           refine CW.regionL ?_
           refine OV (.int .i64 s_l2.2.2.2) rfl (x_mv f1744) ?_
           refine OV (.int .i64 (w64 (s_l2.2.2.2 + 1))) rfl (x_add rfl rfl) ?_
           refine OV (.int .i64 (w64 (s_l2.2.2.2 + 1))) rfl (x_assign) ?_
           refine OW.nil ?_
           obtain rfl := Option.some.inj hm
           exact ⟨_, rfl, ⟨S1734, f1740, f1741, f1742, f1743, rfl, hL⟩⟩
         refine DH.node (listed' := (bma 12 2047)) (fuel' := 1) (fun (F : Fr) (w : World) => ∃ (b1735 : Nat) (q1736 : Nat), IxAddr v1681 (GoT.sz Int) s_l2.2.2.2 b1735 q1736 ∧ F 2 = (.pointer (some ⟨b4, 0, none⟩)) ∧ F 6 = (.pointer (some ⟨b7, 0, none⟩)) ∧ F 7 = (.pointer (some ⟨b25, 0, none⟩)) ∧ F 8 = (.int .i64 s_l1.2.2.2) ∧ F 9 = (.int .i64 s_l2.2.2.2) ∧ F 49 = (.int .i64 (w64 (10 * (w64 (1 + x1687.1))))) ∧ F 50 = (.pointer (some ⟨b1735, q1736, none⟩)) ∧ Hp w0 [Ent.blk b25 26 #[(.int .i64 x11.1.Boats), v14, v16], Ent.frzS wz1629 S1610, Ent.frzS wz22 S15, Ent.blk b7 92 #[v1, (.int .i64 x1687.2.1), (.int .i64 x1687.2.2)], Ent.blk b4 26 #[(.int .i64 0), (.slice none 0 0), (.slice none 0 0)], Ent.snap w0 w0.heap.size] w) ?_ (fun hN1731 => ?_)
         · intro F1745 wd1746 hJ
           obtain ⟨b1735, q1736, hix1737, f1747, f1748, f1749, f1750, f1751, f1752, f1753, hL⟩ := hJ
           obtain ⟨_, ha1716⟩ := idxE ha1693
           have hc1755 := hL.cellF 1 rfl hs1683 hc1684
           have hL := hL.thaw 1 rfl ho1630
           simp only [lC, lD] at hL
           refine DH.only 11 rfl (by kernel_rfl) (S_inRow (α := Int) (x1676.set (s_l2.2.2.2 : Int).toNat (w64 (10 * (w64 (1 + x1687.1))))) (x1676.set (s_l2.2.2.2 : Int).toNat (w64 (10 * (w64 (1 + x1687.1))))) rfl hL 1 rfl hix1682 ha1686 hc1755 (fun E2 S1 hL hK => S_storeX (j := 0) (w64 (10 * (w64 (1 + x1687.1)))) hL 0 rfl Tryz_T2 hix1737 ha1716 f1753 rfl rfl f1752 rfl rfl hK) ?_)
           intro wd1754 S1756 hL
           simp only [lC, lD] at hL
           refine ⟨(hL.sel [0, 2, 4, 5] (by decide) rfl), ?_⟩
           exact DH.relist (listed' := (bma 12 4095)) (by kernel_rfl) (hN1730 _ _ ⟨S1756, f1747, f1748, f1749, f1750, f1751, hL⟩)
         refine DH.node (listed' := (bma 12 1007)) (fuel' := 3) (fun (F : Fr) (w : World) => F 2 = (.pointer (some ⟨b4, 0, none⟩)) ∧ F 6 = (.pointer (some ⟨b7, 0, none⟩)) ∧ F 7 = (.pointer (some ⟨b25, 0, none⟩)) ∧ F 8 = (.int .i64 s_l1.2.2.2) ∧ F 9 = (.int .i64 s_l2.2.2.2) ∧ F 43 = (.pointer (some ⟨b1679, q1680, none⟩)) ∧ F 45 = (.int .i64 s_l2.2.2.2) ∧ F 49 = (.int .i64 (w64 (10 * (w64 (1 + x1687.1))))) ∧ Hp w0 [Ent.blk b25 26 #[(.int .i64 x11.1.Boats), v14, v16], Ent.frzS wz1629 S1610, Ent.frzS wz22 S15, Ent.blk b7 92 #[v1, (.int .i64 x1687.2.1), (.int .i64 x1687.2.2)], Ent.blk b4 26 #[(.int .i64 0), (.slice none 0 0), (.slice none 0 0)], Ent.snap w0 w0.heap.size] w) ?_ (fun hN1732 => ?_)
         · intro F1759 wd1760 hJ
           obtain ⟨f1761, f1762, f1763, f1764, f1765, f1766, f1767, f1768, hL⟩ := hJ
           refine DH.only 4 rfl (by kernel_rfl) (OP.val (v := v1681) rfl (x_load1 U27 rfl f1766 (hL.cellF 1 rfl hs1683 hc1684)) ?_)
           refine ⟨(hL.sel [0, 2, 4, 5] (by decide) rfl), ?_⟩
           have hS := (hL.sel [0, 2, 4, 5] (by decide) rfl)
           obtain ⟨hz1769, ha1773⟩ := idxE ha1693
           obtain ⟨b1770, q1771, hix1772⟩ := rdL_ix (hL.rdF 1 rfl hr1685) hz1769 ha1773
           refine DH.take 10 rfl (by kernel_rfl) (by kernel_rfl) (by kernel_rfl) rfl rfl hS (YH.val (v := (.pointer (some ⟨b1770, q1771, none⟩))) (fun w' hS' => x_ix U27 Tryz_T2 rfl f1767 hix1772)) ?_
           exact DH.relist (listed' := (bma 12 2047)) (by kernel_rfl) (hN1731 _ _ ⟨b1770, q1771, hix1772, f1761, f1762, f1763, f1764, f1765, f1768, rfl, hL⟩)
         refine DH.node (listed' := (bma 12 127)) (fuel' := 5) (fun (F : Fr) (w : World) => F 2 = (.pointer (some ⟨b4, 0, none⟩)) ∧ F 6 = (.pointer (some ⟨b7, 0, none⟩)) ∧ F 7 = (.pointer (some ⟨b25, 0, none⟩)) ∧ F 8 = (.int .i64 s_l1.2.2.2) ∧ F 9 = (.int .i64 s_l2.2.2.2) ∧ F 44 = v1681 ∧ F 45 = (.int .i64 s_l2.2.2.2) ∧ F 46 = (.pointer (some ⟨b7, 0, none⟩)) ∧ Hp w0 [Ent.blk b25 26 #[(.int .i64 x11.1.Boats), v14, v16], Ent.frzS wz1629 S1610, Ent.frzS wz22 S15, Ent.blk b7 92 #[v1, (.int .i64 s_l2.1), (.int .i64 s_l2.2.1)], Ent.blk b4 26 #[(.int .i64 0), (.slice none 0 0), (.slice none 0 0)], Ent.snap w0 w0.heap.size] w) ?_ (fun hN1733 => ?_)
         · intro F1774 wd1775 hJ
           obtain ⟨f1776, f1777, f1778, f1779, f1780, f1781, f1782, f1783, hL⟩ := hJ
           refine DH.only 7 rfl (by kernel_rfl) (OP.call rfl (x_call (vs := [(.pointer (some ⟨b7, 0, none⟩)), (.int .i64 3)]) Tryz_C40 ⟨f1783, rfl, trivial⟩) (M.spec_l01Next_ok _ (Src.mk a0 s_l2.1 s_l2.2.1) (hL.exS 5 3 (by decide) rfl rfl h2) (hL.get 3 rfl) 3 hx1688) ?_)
           rintro e1784 wd1785 ⟨rfl, hF1786⟩
           refine ⟨_, rfl, ?_⟩
           have hL := hL.mut 3 rfl hF1786
           simp only [lA, lB, lC, lD] at hL
           refine ⟨(hL.sel [0, 2, 4, 5] (by decide) rfl), ?_⟩
           have hS := (hL.sel [0, 2, 4, 5] (by decide) rfl)
           refine DH.take 8 rfl (by kernel_rfl) (by kernel_rfl) (by kernel_rfl) rfl rfl hS (YH.val (v := (.int .i64 (w64 (1 + x1687.1)))) (fun w' hS' => x_add rfl rfl)) ?_
           have hS := (hL.sel [0, 2, 4, 5] (by decide) rfl)
           refine DH.take 9 rfl (by kernel_rfl) (by kernel_rfl) (by kernel_rfl) rfl rfl hS (YH.val (v := (.int .i64 (w64 (10 * (w64 (1 + x1687.1)))))) (fun w' hS' => x_mul rfl rfl)) ?_
           have hS := (hL.sel [0, 2, 4, 5] (by decide) rfl)
           obtain ⟨hz1787, ha1791⟩ := idxE ha1693
           obtain ⟨b1788, q1789, hix1790⟩ := rdL_ix (hL.rdF 1 rfl hr1685) hz1787 ha1791
           refine DH.take 10 rfl (by kernel_rfl) (by kernel_rfl) (by kernel_rfl) rfl rfl hS (YH.val (v := (.pointer (some ⟨b1788, q1789, none⟩))) (fun w' hS' => x_ix U27 Tryz_T2 f1781 f1782 hix1790)) ?_
           exact DH.relist (listed' := (bma 12 2047)) (by kernel_rfl) (hN1731 _ _ ⟨b1788, q1789, hix1790, f1776, f1777, f1778, f1779, f1780, rfl, rfl, hL⟩)
         refine DH.all (rs := [4, 7]) (by kernel_rfl) (by simp) ?_
         intro i1792 hi1793
         simp only [List.mem_cons, List.not_mem_nil, or_false] at hi1793
         rcases hi1793 with rfl | rfl
         · refine ⟨_, rfl, ?_⟩
           refine OP.val (v := v1681) rfl (x_load1 U27 rfl rfl (hL.cellF 1 rfl hs1683 hc1684)) ?_
           refine ⟨(hL.sel [0, 2, 4, 5] (by decide) rfl), ?_⟩
           exact DH.relist (listed' := (bma 12 127)) (by kernel_rfl) (hN1733 _ _ ⟨f1624, f1625, f1626, f1627, f1628, rfl, rfl, rfl, hL⟩)
         refine ⟨_, rfl, ?_⟩
         refine OP.call rfl (x_call (vs := [(.pointer (some ⟨b7, 0, none⟩)), (.int .i64 3)]) Tryz_C40 ⟨rfl, rfl, trivial⟩) (M.spec_l01Next_ok _ (Src.mk a0 s_l2.1 s_l2.2.1) (hL.exS 5 3 (by decide) rfl rfl h2) (hL.get 3 rfl) 3 hx1688) ?_
         rintro e1794 wd1795 ⟨rfl, hF1796⟩
         refine ⟨_, rfl, ?_⟩
         have hL := hL.mut 3 rfl hF1796
         simp only [lA, lB, lC, lD] at hL
         refine ⟨(hL.sel [0, 2, 4, 5] (by decide) rfl), ?_⟩
         have hS := (hL.sel [0, 2, 4, 5] (by decide) rfl)
         refine DH.take 8 rfl (by kernel_rfl) (by kernel_rfl) (by kernel_rfl) rfl rfl hS (YH.val (v := (.int .i64 (w64 (1 + x1687.1)))) (fun w' hS' => x_add rfl rfl)) ?_
         have hS := (hL.sel [0, 2, 4, 5] (by decide) rfl)
         refine DH.take 9 rfl (by kernel_rfl) (by kernel_rfl) (by kernel_rfl) rfl rfl hS (YH.val (v := (.int .i64 (w64 (10 * (w64 (1 + x1687.1)))))) (fun w' hS' => x_mul rfl rfl)) ?_
         exact DH.relist (listed' := (bma 12 1007)) (by kernel_rfl) (hN1732 _ _ ⟨f1624, f1625, f1626, f1627, f1628, rfl, rfl, rfl, hL⟩)
       refine CW.exit ?_
       refine XJ.hit ?_
       have hL := hL.thaw 1 rfl ho1630
       obtain rfl := Option.some.inj hm
       exact ⟨_, rfl, ⟨S1610, f1624, f1625, f1626, f1627, f1628, hL⟩⟩
     refine CW.exit ?_
     refine XJ.hit ?_
     obtain rfl := Option.some.inj hm
     exact ⟨_, rfl, ⟨S1431, f1444, f1445, f1446, f1447, hL⟩⟩
   refine CW.skip ?_
   have hL := hL.cndOut 1 rfl ho21
   simp only [lC, lD] at hL
   have hL := hL.sel [1, 0, 2, 3, 4, 5] (by decide) rfl
   exact ⟨(s_j2.1, s_j2.2.1, x11.1.Points), hm, ⟨v14, S13, f902, f903, f904, hL⟩⟩
 intro s_j1 F860 wd861 hJ hm
 unfold M.spec_l28Draw_j1 at hm
 obtain ⟨v858, S859, f862, f863, f864, hL⟩ := hJ
 refine CSR ?_
 refine OV (.pointer (some ⟨b7, 0, none⟩)) rfl (x_mv f863) ?_
 obtain ⟨x865, hx866, hm⟩ := bndE hm
 refine OW.cons (OP.call rfl (x_call (vs := [(.pointer (some ⟨b7, 0, none⟩))]) Tryz_C39 ⟨rfl, trivial⟩) (M.spec_l27DrawRule_ok _ (Src.mk a0 s_j1.1 s_j1.2.1) (hL.exS 5 3 (by decide) rfl rfl h2) (hL.get 3 rfl) hx866) ?_)
 rintro e869 wd870 ⟨v868, S867, rfl, hF871⟩
 refine ⟨_, rfl, ?_⟩
 have hL := hL.mut 3 rfl hF871
 simp only [lA, lB, lC, lD] at hL
 refine OV v868 rfl (x_assign) ?_
 refine ONR ?_
 refine OV (.pointer (some ⟨b7, 0, none⟩)) rfl (x_mv f863) ?_
 refine OV (.agg #[(.int .i64 x11.1.Boats), v858, v16]) rfl (x_loadN (cs := [(.int .i64 x11.1.Boats), v858, v16]) U26 Tryz_T26 rfl f864 (hL.cellsB 2 rfl (o := 0) (l := [(.int .i64 x11.1.Boats), v858, v16]) (by intro j u hj; exact (by simpa using hj)))) ?_
 obtain ⟨x872, hx873, hm⟩ := bndE hm
 refine OW.cons (OP.call rfl (x_call (vs := [(.pointer (some ⟨b7, 0, none⟩)), (.agg #[(.int .i64 x11.1.Boats), v858, v16])]) Tryz_C92 ⟨rfl, rfl, trivial⟩) (M.spec_l27DrawBoat_ok _ (Src.mk a0 x865.2.1 x865.2.2) (hL.exS 6 4 (by decide) rfl rfl h2) (hL.get 4 rfl) (Table.mk x11.1.Boats s_j1.2.2 x11.1.Codes) (hL.exE 1 4 (by decide) rfl rfl (hL.get 1 rfl).1) (hL.exF 3 4 (by decide) rfl rfl ho23.1.rdL) hx873) ?_)
 rintro e874 wd875 ⟨rfl, hF876⟩
 refine ⟨_, rfl, ?_⟩
 have hL := hL.mut 4 rfl hF876
 simp only [lA, lB, lC, lD] at hL
 refine OV (.int .i64 x872.1) rfl (x_assign) ?_
 refine ONS ?_
 refine CW.drawH (fun w' => Hp w0 [Ent.own 2 S867 v868 x865.1, Ent.cnd (M.spec_IsTable (Table.mk x11.1.Boats s_j1.2.2 x11.1.Codes) = some true) 27 S859 v858 s_j1.2.2, Ent.blk b25 26 #[(.int .i64 x11.1.Boats), v858, v16], Ent.frzS wz22 S15, Ent.snap w0 w0.heap.size] w') Tryz_mixed ?_
 have hL := hL.call (Mod.drew _)
 have hS := (hL.sel [0, 1, 2, 3, 6] (by decide) rfl)
 refine DH.take 0 rfl (by kernel_rfl) (by kernel_rfl) (by kernel_rfl) rfl rfl hS (YH.val (v := (.agg #[(.int .i64 x11.1.Boats), v858, v16])) (fun w' hS' => x_loadN (cs := [(.int .i64 x11.1.Boats), v858, v16]) U26 Tryz_T26 rfl f864 (hS'.cellsB 2 rfl (o := 0) (l := [(.int .i64 x11.1.Boats), v858, v16]) (by intro j u hj; exact (by simpa using hj))))) ?_
 have hS := (hL.sel [0, 1, 2, 3, 6] (by decide) rfl)
 refine DH.take 1 rfl (by kernel_rfl) (by kernel_rfl) (by kernel_rfl) rfl rfl hS (YH.val (v := v868) (fun w' hS' => x_move)) ?_
 have hS := (hL.sel [0, 1, 2, 3, 6] (by decide) rfl)
 refine DH.take 2 rfl (by kernel_rfl) (by kernel_rfl) (by kernel_rfl) rfl rfl hS (YH.val (v := (.int .i64 x872.1)) (fun w' hS' => x_move)) ?_
 have hS := (hL.sel [0, 1, 2, 3, 6] (by decide) rfl)
 refine DH.take 3 rfl (by kernel_rfl) (by kernel_rfl) (by kernel_rfl) rfl rfl hS (YH.val (v := (.pointer (some ⟨b7, 0, none⟩))) (fun w' hS' => x_mv f863)) ?_
 have hS := (hL.sel [0, 1, 2, 3, 6] (by decide) rfl)
 refine DH.take 4 rfl (by kernel_rfl) (by kernel_rfl) (by kernel_rfl) rfl rfl hS (YH.val (v := (.agg #[(.int .i64 x11.1.Boats), v858, v16])) (fun w' hS' => x_loadN (cs := [(.int .i64 x11.1.Boats), v858, v16]) U26 Tryz_T26 rfl f864 (hS'.cellsB 2 rfl (o := 0) (l := [(.int .i64 x11.1.Boats), v858, v16]) (by intro j u hj; exact (by simpa using hj))))) ?_
 obtain ⟨x883, hx884, hm⟩ := bndE hm
 refine DH.only 5 rfl (by kernel_rfl) (OP.call rfl (x_call (vs := [(.pointer (some ⟨b7, 0, none⟩)), (.agg #[(.int .i64 x11.1.Boats), v858, v16])]) Tryz_C92 ⟨rfl, rfl, trivial⟩) (M.spec_l27DrawBoat_ok _ (Src.mk a0 x872.2.1 x872.2.2) (hL.exS 6 4 (by decide) rfl rfl h2) (hL.get 4 rfl) (Table.mk x11.1.Boats s_j1.2.2 x11.1.Codes) (hL.exE 1 4 (by decide) rfl rfl (hL.get 1 rfl).1) (hL.exF 3 4 (by decide) rfl rfl ho23.1.rdL) hx884) ?_)
 rintro e885 wd886 ⟨rfl, hF887⟩
 refine ⟨_, rfl, ?_⟩
 have hL := hL.mut 4 rfl hF887
 simp only [lA, lB, lC, lD] at hL
 refine ⟨(hL.sel [0, 1, 2, 3, 6] (by decide) rfl), ?_⟩
 refine DH.only 6 rfl (by kernel_rfl) (S_storeN (l := [(.int .i64 x11.1.Boats), v858, v16]) (cs' := #[(.int .i64 x11.1.Boats), v858, v16]) hL 5 rfl Tryz_T26 f862 rfl (List.forall_mem_cons.2 ⟨rfl, (List.forall_mem_cons.2 ⟨rdL_one (hL.rdC 1 rfl), (List.forall_mem_cons.2 ⟨rdL_one (hL.rdF 3 rfl ho23.1.rdL), (fun _ h => by cases h)⟩)⟩)⟩) rfl (Nat.le_of_ble_eq_true rfl) rfl ?_)
 intro wd888 hL
 refine ⟨(hL.sel [0, 1, 2, 3, 6] (by decide) rfl), ?_⟩
 have hS := (hL.sel [0, 1, 2, 3, 6] (by decide) rfl)
 refine DH.take 7 rfl (by kernel_rfl) (by kernel_rfl) (by kernel_rfl) rfl rfl hS (YH.val (v := v868) (fun w' hS' => x_assign)) ?_
 have hS := (hL.sel [0, 1, 2, 3, 6] (by decide) rfl)
 refine DH.take 8 rfl (by kernel_rfl) (by kernel_rfl) (by kernel_rfl) rfl rfl hS (YH.val (v := (.int .i64 x872.1)) (fun w' hS' => x_assign)) ?_
 have hS := (hL.sel [0, 1, 2, 3, 6] (by decide) rfl)
 refine DH.take 9 rfl (by kernel_rfl) (by kernel_rfl) (by kernel_rfl) rfl rfl hS (YH.val (v := (.int .i64 x883.1)) (fun w' hS' => x_assign)) ?_
 refine DH.done (by kernel_rfl) ?_
 refine CW.ret ?_
 have hL := hL.rdxOut 3 rfl ho23
 simp only [lC, lD] at hL
 have hL := hL.rdxIn 0 rfl
 simp only [lC, lD] at hL
 obtain rfl := Option.some.inj hm
 exact RRs (v := (.agg #[(.int .i64 x11.1.Boats), v858, v16])) (v2 := v868) (vs := [(.int .i64 x872.1), (.int .i64 x883.1)]) (rs := [.cell 2 26, .tmp 3, .tmp 4, .tmp 5]) rfl ⟨resCell f862 (run_loadBlk U26 Tryz_T26 (hL.get 5 rfl) rfl), resTmp rfl, resTmp rfl, resTmp rfl, trivial⟩ ⟨v858, S859, v16, S15, v868, S867, rfl, hL.fresh 6 rfl [1, 3, 0] (by decide) (by decide) rfl⟩

theorem M.spec_l28DrawTable_ok (w0 : World) (a0 : List UInt8) {v1 : Value} (h2 : rdL (· < w0.heap.size) w0 v1 a0) {r : Table × (List Int)} (hm : M.spec_l28DrawTable a0 = some r) :
    Calls Tryz.prog 23 #[v1] w0 fun e w' => ∃ (rv0 : Value) (rS0 : Nat → Prop), ∃ (rv1 : Value) (rS1 : Nat → Prop), ∃ (rv2 : Value) (rS2 : Nat → Prop), e = .returned (.tuple #[(.agg #[(.int .i64 r.1.Boats), rv0, rv1]), rv2]) ∧ Fresh w0 w' [Ent.rdx rS0 rv0 r.1.Points, Ent.rdx rS1 rv1 r.1.Codes, Ent.rdx rS2 rv2 r.2] := by
 unfold M.spec_l28DrawTable at hm
 refine calls_CW (args := [v1]) Tryz.func23 rfl rfl rfl ?_
 have hL := Hp.start w0
 refine CSR ?_
 refine OW.cons (S_alloc (cs := #[(.int .i64 0), (.slice none 0 0), (.slice none 0 0)]) hL Tryz_T26 rfl rfl ?_)
 intro wd3 b4 hL
 refine OV (.slice none 0 0) rfl (x_assign) ?_
 refine ONR ?_
 refine OV v1 rfl (x_move) ?_
 obtain ⟨x5, hx6, hm⟩ := bndE hm
 refine OW.cons (OP.call rfl (x_call (vs := [v1]) Tryz_C60 ⟨rfl, trivial⟩) (M.spec_l28Draw_ok _ a0 (hL.rdS 1 rfl h2) hx6) ?_)
 rintro e13 wd14 ⟨v8, S7, v10, S9, v12, S11, rfl, hF15⟩
 refine ⟨_, rfl, ?_⟩
 have hL := hL.pushAll hF15
 simp only [lA, lB, lC, lD] at hL
 obtain ⟨wz16, hL, ho17⟩ := hL.cndFz 0 rfl
 simp only [lC, lD] at hL
 obtain ⟨wz18, hL, ho19⟩ := hL.rdxFz 1 rfl
 simp only [lC, lD] at hL
 obtain ⟨wz20, hL, ho21⟩ := hL.rdxFz 2 rfl
 simp only [lC, lD] at hL
 refine OV (.tuple #[(.agg #[(.int .i64 x5.1.Boats), v8, v10]), v12, (.int .i64 x5.2.2.1), (.int .i64 x5.2.2.2)]) rfl (x_move) ?_
 refine OV (.agg #[(.int .i64 x5.1.Boats), v8, v10]) rfl (x_extract rfl rfl) ?_
 refine OV v12 rfl (x_extract rfl rfl) ?_
 refine OV (.int .i64 x5.2.2.1) rfl (x_extract rfl rfl) ?_
 refine OV (.int .i64 x5.2.2.2) rfl (x_extract rfl rfl) ?_
 refine OW.cons (S_alloc (cs := #[(.int .i64 0), (.slice none 0 0), (.slice none 0 0)]) hL Tryz_T26 rfl rfl ?_)
 intro wd22 b23 hL
 refine OW.cons (S_storeN (l := [(.int .i64 x5.1.Boats), v8, v10]) (cs' := #[(.int .i64 x5.1.Boats), v8, v10]) hL 0 rfl Tryz_T26 rfl rfl (List.forall_mem_cons.2 ⟨rfl, (List.forall_mem_cons.2 ⟨rdL_one (hL.rdF 1 rfl ho17.1.rdL), (List.forall_mem_cons.2 ⟨rdL_one (hL.rdF 2 rfl ho19.1.rdL), (fun _ h => by cases h)⟩)⟩)⟩) rfl (Nat.le_of_ble_eq_true rfl) rfl ?_)
 intro wd24 hL
 refine OV v12 rfl (x_assign) ?_
 refine OV (.int .i64 x5.2.2.1) rfl (x_assign) ?_
 refine OV (.int .i64 x5.2.2.2) rfl (x_assign) ?_
 refine ONR ?_
 refine OV (.agg #[(.int .i64 x5.1.Boats), v8, v10]) rfl (x_loadN (cs := [(.int .i64 x5.1.Boats), v8, v10]) U26 Tryz_T26 rfl rfl (hL.cellsB 0 rfl (o := 0) (l := [(.int .i64 x5.1.Boats), v8, v10]) (by intro j u hj; exact (by simpa using hj)))) ?_
 refine OV v12 rfl (x_move) ?_
 refine OW.cons (S_storeN (l := [(.int .i64 x5.1.Boats), v8, v10]) (cs' := #[(.int .i64 x5.1.Boats), v8, v10]) hL 4 rfl Tryz_T26 rfl rfl (List.forall_mem_cons.2 ⟨rfl, (List.forall_mem_cons.2 ⟨rdL_one (hL.rdF 1 rfl ho17.1.rdL), (List.forall_mem_cons.2 ⟨rdL_one (hL.rdF 2 rfl ho19.1.rdL), (fun _ h => by cases h)⟩)⟩)⟩) rfl (Nat.le_of_ble_eq_true rfl) rfl ?_)
 intro wd25 hL
 refine OV v12 rfl (x_assign) ?_
 refine OW.nil ?_
 refine CW.ret ?_
 have hL := hL.cndOut 1 rfl ho17
 simp only [lC, lD] at hL
 have hL := hL.cndX 1 rfl
 simp only [lC, lD] at hL
 have hL := hL.rdxOut 2 rfl ho19
 simp only [lC, lD] at hL
 have hL := hL.rdxOut 3 rfl ho21
 simp only [lC, lD] at hL
 obtain rfl := Option.some.inj hm
 exact RRct rfl rfl (run_loadBlk U26 Tryz_T26 (hL.get 4 rfl) rfl) rfl ⟨v8, S7, v10, S9, v12, S11, rfl, hL.fresh 5 rfl [1, 2, 3] (by decide) (by decide) rfl⟩

theorem M.spec_DrawStandingOf_ok (w0 : World) (a0 : List UInt8) {v1 : Value} (h2 : rdL (· < w0.heap.size) w0 v1 a0) {r : Table × (List Int)} (hm : M.spec_DrawStandingOf a0 = some r) :
    Calls Tryz.prog 6 #[v1] w0 fun e w' => ∃ (rv0 : Value) (rS0 : Nat → Prop), ∃ (rv1 : Value) (rS1 : Nat → Prop), ∃ (rv2 : Value) (rS2 : Nat → Prop), e = .returned (.tuple #[(.agg #[(.int .i64 r.1.Boats), rv0, rv1]), rv2]) ∧ Fresh w0 w' [Ent.rdx rS0 rv0 r.1.Points, Ent.rdx rS1 rv1 r.1.Codes, Ent.rdx rS2 rv2 r.2] := by
 unfold M.spec_DrawStandingOf at hm
 refine calls_CW (args := [v1]) Tryz.func6 rfl rfl rfl ?_
 have hL := Hp.start w0
 refine CSR ?_
 refine OW.cons (S_alloc (cs := #[(.int .i64 0), (.slice none 0 0), (.slice none 0 0)]) hL Tryz_T26 rfl rfl ?_)
 intro wd3 b4 hL
 refine OV (.slice none 0 0) rfl (x_assign) ?_
 refine ONR ?_
 refine OV v1 rfl (x_move) ?_
 obtain ⟨x5, hx6, hm⟩ := bndE hm
 refine OW.cons (OP.call rfl (x_call (vs := [v1]) Tryz_C23 ⟨rfl, trivial⟩) (M.spec_l28DrawTable_ok _ a0 (hL.rdS 1 rfl h2) hx6) ?_)
 rintro e13 wd14 ⟨v8, S7, v10, S9, v12, S11, rfl, hF15⟩
 refine ⟨_, rfl, ?_⟩
 have hL := hL.pushAll hF15
 simp only [lA, lB, lC, lD] at hL
 obtain ⟨wz16, hL, ho17⟩ := hL.rdxFz 0 rfl
 simp only [lC, lD] at hL
 obtain ⟨wz18, hL, ho19⟩ := hL.rdxFz 1 rfl
 simp only [lC, lD] at hL
 obtain ⟨wz20, hL, ho21⟩ := hL.rdxFz 2 rfl
 simp only [lC, lD] at hL
 refine OV (.agg #[(.int .i64 x5.1.Boats), v8, v10]) rfl (x_extract rfl rfl) ?_
 refine OV v12 rfl (x_extract rfl rfl) ?_
 refine OW.cons (S_storeN (l := [(.int .i64 x5.1.Boats), v8, v10]) (cs' := #[(.int .i64 x5.1.Boats), v8, v10]) hL 3 rfl Tryz_T26 rfl rfl (List.forall_mem_cons.2 ⟨rfl, (List.forall_mem_cons.2 ⟨rdL_one (hL.rdF 0 rfl ho17.1.rdL), (List.forall_mem_cons.2 ⟨rdL_one (hL.rdF 1 rfl ho19.1.rdL), (fun _ h => by cases h)⟩)⟩)⟩) rfl (Nat.le_of_ble_eq_true rfl) rfl ?_)
 intro wd22 hL
 refine OV v12 rfl (x_assign) ?_
 refine OW.nil ?_
 refine CW.ret ?_
 have hL := hL.rdxOut 0 rfl ho17
 simp only [lC, lD] at hL
 have hL := hL.rdxOut 1 rfl ho19
 simp only [lC, lD] at hL
 have hL := hL.rdxOut 2 rfl ho21
 simp only [lC, lD] at hL
 obtain rfl := Option.some.inj hm
 exact RRct rfl rfl (run_loadBlk U26 Tryz_T26 (hL.get 3 rfl) rfl) rfl ⟨v8, S7, v10, S9, v12, S11, rfl, hL.fresh 4 rfl [0, 1, 2] (by decide) (by decide) rfl⟩

theorem M.impl_within_ok (w0 : World) (a0 : Int) (a1 : Int) (a2 : Int) {r : Bool} (hm : M.impl_within a0 a1 a2 = some r) :
    Calls Tryz.prog 43 #[(.int .i64 a0), (.int .i64 a1), (.int .i64 a2)] w0 fun e w' => e = .returned (.bool r) ∧ Fresh w0 w' [] := by
 unfold M.impl_within at hm
 refine calls_CW (args := [(.int .i64 a0), (.int .i64 a1), (.int .i64 a2)]) Tryz.func43 rfl rfl rfl ?_
 have hL := Hp.start w0
 refine CSR ?_
 refine OV (.bool false) rfl (x_assign) ?_
 refine OW.nil ?_
 refine CW.seqJ (fun (s_j1 : Bool) (F : Fr) (w : World) => F 6 = (.bool s_j1) ∧ Hp w0 [Ent.snap w0 w0.heap.size] w) (fun s_j1 => M.impl_within_j1 s_j1 = some r) ?_ ?_
 · refine CW.regionL ?_
   refine OV (.int .i64 a0) rfl (x_move) ?_
   refine OV (.int .i64 a1) rfl (x_move) ?_
   refine OV (.bool (decide (a1 ≤ a0))) rfl (x_geq rfl rfl) ?_
   refine OV (.bool (decide (a1 ≤ a0))) rfl (x_move) ?_
   refine ifB_elim hm (fun hb5 hm => ?_) (fun hb5 hm => ?_)
   · refine OW.cons (OP.yes' rfl rfl hb5 (OP.val (v := (.int .i64 a0)) rfl (x_move) ?_))
     refine OW.cons (OP.yes' rfl rfl hb5 (OP.val (v := (.int .i64 a2)) rfl (x_move) ?_))
     refine OW.cons (OP.yes' rfl rfl hb5 (OP.val (v := (.bool (decide (a0 ≤ a2)))) rfl (x_leq rfl rfl) ?_))
     refine OV (.bool (decide (a0 ≤ a2))) rfl (x_pickT' rfl hb5 rfl) ?_
     refine OV (.bool (decide (a0 ≤ a2))) rfl (x_assign) ?_
     refine OW.nil ?_
     exact ⟨decide (a0 ≤ a2), hm, ⟨rfl, hL⟩⟩
   refine OW.cons (OP.no' rfl rfl hb5 rfl ?_)
   refine OW.cons (OP.no' rfl rfl hb5 rfl ?_)
   refine OW.cons (OP.no' rfl rfl hb5 rfl ?_)
   refine OV (.bool false) rfl (x_pickF' rfl hb5 rfl) ?_
   refine OV (.bool false) rfl (x_assign) ?_
   refine OW.nil ?_
   exact ⟨false, hm, ⟨rfl, hL⟩⟩
 intro s_j1 F2 wd3 hJ hm
 unfold M.impl_within_j1 at hm
 obtain ⟨f4, hL⟩ := hJ
 refine CW.ret ?_
 obtain rfl := Option.some.inj hm
 exact RR1 rfl f4 ⟨rfl, hL.fresh 0 rfl [] (by decide) (by decide) rfl⟩

theorem M.impl_areRow_ok (w0 : World) (a0 : List Int) {v1 : Value} (h2 : rdL (· < w0.heap.size) w0 v1 a0) (a1 : Int) (a2 : Int) {r : Bool} (hm : M.impl_areRow a0 a1 a2 = some r) :
    Calls Tryz.prog 93 #[v1, (.int .i64 a1), (.int .i64 a2)] w0 fun e w' => e = .returned (.bool r) ∧ Fresh w0 w' [] := by
 unfold M.impl_areRow at hm
 refine calls_CW (args := [v1, (.int .i64 a1), (.int .i64 a2)]) Tryz.func93 rfl rfl rfl ?_
 have hL := Hp.start w0
 refine CSR ?_
 refine OV (.bool false) rfl (x_assign) ?_
 refine ONS ?_
 refine CSR ?_
 refine OV v1 rfl (x_move) ?_
 refine OV (.int .i64 (a0.length : Int)) rfl (x_lenR U27 rfl (hL.rdS 0 rfl h2)) ?_
 refine OV (.int .i64 0) rfl (x_move) ?_
 refine OW.nil ?_
 obtain ⟨o33, ho34, hm⟩ := bndE hm
 refine CW.loopB (fun (s_l1 : Int) (F : Fr) (w : World) => F 0 = v1 ∧ F 1 = (.int .i64 a1) ∧ F 2 = (.int .i64 a2) ∧ F 9 = v1 ∧ F 10 = (.int .i64 (a0.length : Int)) ∧ F 11 = (.int .i64 s_l1) ∧ Hp w0 [Ent.snap w0 w0.heap.size] w) (fun o => outc o (fun x => some x) (fun s => M.impl_areRow_a1 a0 a1 s) = some r) ho34 hm ⟨rfl, rfl, rfl, rfl, rfl, rfl, hL⟩ ?_ ?_
 · intro s_l1 F35 wd36 hJ hm
   have hm := outcE hm
   have hm : M.impl_areRow_a1 a0 a1 s_l1 = some r := hm
   unfold M.impl_areRow_a1 at hm
   obtain ⟨f37, f38, f39, f40, f41, f42, hL⟩ := hJ
   refine CSR ?_
   refine OV v1 rfl (x_mv f37) ?_
   refine OV (.int .i64 (a0.length : Int)) rfl (x_lenR U27 rfl (hL.rdS 0 rfl h2)) ?_
   refine OV (.int .i64 a1) rfl (x_mv f38) ?_
   refine OV (.bool ((a0.length : Int) == a1)) rfl (x_eql rfl rfl) ?_
   refine OV (.bool ((a0.length : Int) == a1)) rfl (x_assign) ?_
   refine OW.nil ?_
   refine CW.ret ?_
   obtain rfl := Option.some.inj hm
   exact RR1 rfl rfl ⟨rfl, hL.fresh 0 rfl [] (by decide) (by decide) rfl⟩
 intro s_l1 F43 wd44 t31 hJ hm hr32
 unfold M.impl_areRow_l1 at hm
 obtain ⟨f45, f46, f47, f48, f49, f50, hL⟩ := hJ
 refine CSR ?_
 refine OV (.bool (decide (s_l1 < (a0.length : Int)))) rfl (x_lss f50 f49) ?_
 refine ONS ?_
 refine CW.condM (t := decide (s_l1 < (a0.length : Int))) rfl hm (fun hb51 hm => ?_) (fun hb51 hm => ?_)
 · refine CW.skip ?_
   refine CW.seq ?_
   refine CW.block ?_
   refine CSR ?_
   obtain ⟨x52, ha53, hm⟩ := bndE hm
   obtain ⟨hz54, ha58⟩ := idxE ha53
   obtain ⟨b55, q56, hix57⟩ := rdL_ix (hL.rdS 0 rfl h2) hz54 ha58
   refine OV (.pointer (some ⟨b55, q56, none⟩)) rfl (x_ix U27 Tryz_T2 f48 f50 hix57) ?_
   refine OV (.int .i64 x52) rfl (x_load1 U2 rfl rfl (rdF_cells (hL.rdS 0 rfl h2) hix57 ha58 0 _ rfl)) ?_
   refine OV (.int .i64 x52) rfl (x_assign) ?_
   refine ONR ?_
   refine OV (.int .i64 x52) rfl (x_move) ?_
   refine OV (.int .i64 a2) rfl (x_mv f47) ?_
   obtain ⟨x59, hx60, hm⟩ := bndE hm
   refine OW.cons (OP.call rfl (x_call (vs := [(.int .i64 x52), (.int .i64 0), (.int .i64 a2)]) Tryz_C43 ⟨rfl, rfl, rfl, trivial⟩) (M.impl_within_ok _ x52 0 a2 hx60) ?_)
   rintro e61 wd62 ⟨rfl, hF63⟩
   refine ⟨_, rfl, ?_⟩
   have hL := hL.pushAll hF63
   simp only [lA, lB, lC, lD] at hL
   refine OV (.bool (!x59)) rfl (x_not rfl) ?_
   refine OW.nil ?_
   refine CW.condM (t := !x59) rfl hm (fun hb64 hm => ?_) (fun hb64 hm => ?_)
   · refine CSR ?_
     refine OV (.bool false) rfl (x_assign) ?_
     refine OW.nil ?_
     refine CW.ret ?_
     obtain rfl := Option.some.inj hm
     have hm := hr32 _ rfl
     obtain rfl := Option.some.inj hm
     exact RR1 rfl rfl ⟨rfl, hL.fresh 0 rfl [] (by decide) (by decide) rfl⟩
   refine CW.skip ?_
   refine CW.regionL ?_
   refine OV (.int .i64 (w64 (s_l1 + 1))) rfl (x_add f50 rfl) ?_
   refine OV (.int .i64 (w64 (s_l1 + 1))) rfl (x_move) ?_
   refine OW.nil ?_
   obtain rfl := Option.some.inj hm
   exact ⟨_, rfl, ⟨f45, f46, f47, f48, f49, rfl, hL⟩⟩
 refine CW.exit ?_
 refine XJ.hit ?_
 obtain rfl := Option.some.inj hm
 exact ⟨_, rfl, ⟨f45, f46, f47, f48, f49, f50, hL⟩⟩

theorem M.impl_IsTable_ok (w0 : World) (a0 : Table) {v1 : Value} {v3 : Value} (h2 : rdL (· < w0.heap.size) w0 v1 a0.Points) (h4 : rdL (· < w0.heap.size) w0 v3 a0.Codes) {r : Bool} (hm : M.impl_IsTable a0 = some r) :
    Calls Tryz.prog 61 #[(.agg #[(.int .i64 a0.Boats), v1, v3])] w0 fun e w' => e = .returned (.bool r) ∧ Fresh w0 w' [] := by
 unfold M.impl_IsTable at hm
 refine calls_CW (args := [(.agg #[(.int .i64 a0.Boats), v1, v3])]) Tryz.func61 rfl rfl rfl ?_
 have hL := Hp.start w0
 refine CSR ?_
 refine OW.cons (S_box (cs := #[(.int .i64 a0.Boats), v1, v3]) hL rfl rfl rfl ?_)
 intro wd5 b6 hL
 refine OV (.bool false) rfl (x_assign) ?_
 refine ONS ?_
 refine CW.seqJ (fun (s_j1 : Bool) (F : Fr) (w : World) => F 1 = (.pointer (some ⟨b6, 0, none⟩)) ∧ F 22 = (.bool s_j1) ∧ Hp w0 [Ent.blk b6 26 #[(.int .i64 a0.Boats), v1, v3], Ent.snap w0 w0.heap.size] w) (fun s_j1 => M.impl_IsTable_j1 a0 s_j1 = some r) ?_ ?_
 · refine CW.regionL ?_
   refine OV (.pointer (some ⟨b6, 0, none⟩)) rfl (x_fieldAddr (fsz := 1) 0 0 0 U26 rfl Tryz_T2 rfl rfl rfl) ?_
   refine OV (.int .i64 a0.Boats) rfl (x_load1 U2 rfl rfl (hL.cellB 0 rfl rfl)) ?_
   obtain ⟨x231, hx232, hm⟩ := bndE hm
   refine OW.cons (OP.call rfl (x_call (vs := [(.int .i64 a0.Boats), (.int .i64 1), (.int .i64 16)]) Tryz_C43 ⟨rfl, rfl, rfl, trivial⟩) (M.impl_within_ok _ a0.Boats 1 16 hx232) ?_)
   rintro e233 wd234 ⟨rfl, hF235⟩
   refine ⟨_, rfl, ?_⟩
   have hL := hL.pushAll hF235
   simp only [lA, lB, lC, lD] at hL
   refine OV (.bool (!x231)) rfl (x_not rfl) ?_
   refine OV (.bool (!x231)) rfl (x_move) ?_
   refine ifB_elim hm (fun hb236 hm => ?_) (fun hb236 hm => ?_)
   · refine OW.cons (OP.no' rfl rfl hb236 rfl ?_)
     refine OW.cons (OP.no' rfl rfl hb236 rfl ?_)
     refine OW.cons (OP.no' rfl rfl hb236 rfl ?_)
     refine OW.cons (OP.no' rfl rfl hb236 rfl ?_)
     refine OV (.bool true) rfl (x_pickT' rfl hb236 rfl) ?_
     refine OV (.bool true) rfl (x_move) ?_
     refine OW.cons (OP.no' rfl rfl rfl rfl ?_)
     refine OW.cons (OP.no' rfl rfl rfl rfl ?_)
     refine OW.cons (OP.no' rfl rfl rfl rfl ?_)
     refine OW.cons (OP.no' rfl rfl rfl rfl ?_)
     refine OW.cons (OP.no' rfl rfl rfl rfl ?_)
     refine OW.cons (OP.no' rfl rfl rfl rfl ?_)
     refine OW.cons (OP.no' rfl rfl rfl rfl ?_)
     refine OV (.bool true) rfl (x_pickT' rfl rfl rfl) ?_
     refine OW.nil ?_
     exact ⟨true, hm, ⟨rfl, rfl, hL⟩⟩
   refine OW.cons (OP.yes' rfl rfl hb236 (OP.val (v := (.pointer (some ⟨b6, 1, none⟩))) rfl (x_fieldAddr (fsz := 1) 0 1 1 U26 rfl Tryz_T24 rfl rfl rfl) ?_))
   refine OW.cons (OP.yes' rfl rfl hb236 (OP.val (v := v1) rfl (x_load1 U24 rfl rfl (hL.cellB 0 rfl rfl)) ?_))
   refine OW.cons (OP.yes' rfl rfl hb236 (OP.val (v := (.int .i64 (a0.Points.length : Int))) rfl (x_lenR U24 rfl (hL.rdS 1 rfl h2)) ?_))
   refine OW.cons (OP.yes' rfl rfl hb236 (OP.val (v := (.bool (decide (12 < (a0.Points.length : Int))))) rfl (x_gtr rfl rfl) ?_))
   refine OV (.bool (decide (12 < (a0.Points.length : Int)))) rfl (x_pickF' rfl hb236 rfl) ?_
   refine OV (.bool (decide (12 < (a0.Points.length : Int)))) rfl (x_move) ?_
   refine ifB_elim hm (fun hb237 hm => ?_) (fun hb237 hm => ?_)
   · refine OW.cons (OP.no' rfl rfl hb237 rfl ?_)
     refine OW.cons (OP.no' rfl rfl hb237 rfl ?_)
     refine OW.cons (OP.no' rfl rfl hb237 rfl ?_)
     refine OW.cons (OP.no' rfl rfl hb237 rfl ?_)
     refine OW.cons (OP.no' rfl rfl hb237 rfl ?_)
     refine OW.cons (OP.no' rfl rfl hb237 rfl ?_)
     refine OW.cons (OP.no' rfl rfl hb237 rfl ?_)
     refine OV (.bool true) rfl (x_pickT' rfl hb237 rfl) ?_
     refine OW.nil ?_
     exact ⟨true, hm, ⟨rfl, rfl, hL⟩⟩
   refine OW.cons (OP.yes' rfl rfl hb237 (OP.val (v := (.pointer (some ⟨b6, 1, none⟩))) rfl (x_fieldAddr (fsz := 1) 0 1 1 U26 rfl Tryz_T24 rfl rfl rfl) ?_))
   refine OW.cons (OP.yes' rfl rfl hb237 (OP.val (v := v1) rfl (x_load1 U24 rfl rfl (hL.cellB 0 rfl rfl)) ?_))
   refine OW.cons (OP.yes' rfl rfl hb237 (OP.val (v := (.int .i64 (a0.Points.length : Int))) rfl (x_lenR U24 rfl (hL.rdS 1 rfl h2)) ?_))
   refine OW.cons (OP.yes' rfl rfl hb237 (OP.val (v := (.pointer (some ⟨b6, 2, none⟩))) rfl (x_fieldAddr (fsz := 1) 0 2 2 U26 rfl Tryz_T24 rfl rfl rfl) ?_))
   refine OW.cons (OP.yes' rfl rfl hb237 (OP.val (v := v3) rfl (x_load1 U24 rfl rfl (hL.cellB 0 rfl rfl)) ?_))
   refine OW.cons (OP.yes' rfl rfl hb237 (OP.val (v := (.int .i64 (a0.Codes.length : Int))) rfl (x_lenR U24 rfl (hL.rdS 1 rfl h4)) ?_))
   refine OW.cons (OP.yes' rfl rfl hb237 (OP.val (v := (.bool ((a0.Points.length : Int) != (a0.Codes.length : Int)))) rfl (x_neq rfl rfl) ?_))
   refine OV (.bool ((a0.Points.length : Int) != (a0.Codes.length : Int))) rfl (x_pickF' rfl hb237 rfl) ?_
   refine OW.nil ?_
   exact ⟨(a0.Points.length : Int) != (a0.Codes.length : Int), hm, ⟨rfl, rfl, hL⟩⟩
 intro s_j1 F14 wd15 hJ hm
 unfold M.impl_IsTable_j1 at hm
 obtain ⟨f16, f17, hL⟩ := hJ
 refine CW.condM (t := s_j1) f17 hm (fun hb18 hm => ?_) (fun hb18 hm => ?_)
 · refine CSR ?_
   refine OV (.bool false) rfl (x_assign) ?_
   refine OW.nil ?_
   refine CW.ret ?_
   obtain rfl := Option.some.inj hm
   exact RR1 rfl rfl ⟨rfl, hL.fresh 1 rfl [] (by decide) (by decide) rfl⟩
 refine CW.skip ?_
 refine CW.seq ?_
 refine CSR ?_
 refine OV (.pointer (some ⟨b6, 1, none⟩)) rfl (x_fieldAddr (fsz := 1) 0 1 1 U26 rfl Tryz_T24 rfl f16 rfl) ?_
 refine OV v1 rfl (x_load1 U24 rfl rfl (hL.cellB 0 rfl rfl)) ?_
 refine OV (.int .i64 (a0.Points.length : Int)) rfl (x_lenR U24 rfl (hL.rdS 1 rfl h2)) ?_
 refine OV (.int .i64 0) rfl (x_move) ?_
 refine OW.nil ?_
 obtain ⟨o153, ho154, hm⟩ := bndE hm
 refine CW.loopB (fun (s_l1 : Int) (F : Fr) (w : World) => F 1 = (.pointer (some ⟨b6, 0, none⟩)) ∧ F 25 = (.int .i64 (a0.Points.length : Int)) ∧ F 26 = (.int .i64 s_l1) ∧ Hp w0 [Ent.blk b6 26 #[(.int .i64 a0.Boats), v1, v3], Ent.snap w0 w0.heap.size] w) (fun o => outc o (fun x => some x) (fun s => M.impl_IsTable_a1 s) = some r) ho154 hm ⟨f16, rfl, rfl, hL⟩ ?_ ?_
 · intro s_l1 F155 wd156 hJ hm
   have hm := outcE hm
   have hm : M.impl_IsTable_a1 s_l1 = some r := hm
   unfold M.impl_IsTable_a1 at hm
   obtain ⟨f157, f158, f159, hL⟩ := hJ
   refine CSR ?_
   refine OV (.bool true) rfl (x_assign) ?_
   refine OW.nil ?_
   refine CW.ret ?_
   obtain rfl := Option.some.inj hm
   exact RR1 rfl rfl ⟨rfl, hL.fresh 1 rfl [] (by decide) (by decide) rfl⟩
 intro s_l1 F160 wd161 t151 hJ hm hr152
 unfold M.impl_IsTable_l1 at hm
 obtain ⟨f162, f163, f164, hL⟩ := hJ
 refine CSR ?_
 refine OV (.bool (decide (s_l1 < (a0.Points.length : Int)))) rfl (x_lss f164 f163) ?_
 refine ONS ?_
 refine CW.condM (t := decide (s_l1 < (a0.Points.length : Int))) rfl hm (fun hb165 hm => ?_) (fun hb165 hm => ?_)
 · refine CW.skip ?_
   refine CW.seq ?_
   refine CW.block ?_
   refine CSR ?_
   refine OV (.int .i64 s_l1) rfl (x_mv f164) ?_
   refine OV (.int .i64 s_l1) rfl (x_assign) ?_
   refine OW.nil ?_
   refine CW.seqJ (fun (s_j2 : Bool) (F : Fr) (w : World) => F 1 = (.pointer (some ⟨b6, 0, none⟩)) ∧ F 25 = (.int .i64 (a0.Points.length : Int)) ∧ F 26 = (.int .i64 s_l1) ∧ F 48 = (.bool s_j2) ∧ Hp w0 [Ent.blk b6 26 #[(.int .i64 a0.Boats), v1, v3], Ent.snap w0 w0.heap.size] w) (fun s_j2 => M.impl_IsTable_j2 s_l1 s_j2 = some t151) ?_ ?_
   · refine CW.draw Tryz_mixed ?_
     have hL := hL.call (Mod.drew _)
     refine DW.pre (fuel := 0) (fin := bma 20 1048575) (C := fun w' => Mod None_ _ w') [0, 1, 2, 3, 4, 5, 6, 7, 8, 9, 10, 11, 12, 13, 14, 15, 16, 17, 18, 19] (Mod.refl _ _) (by kernel_rfl) (by kernel_rfl) ?_
     refine QW.cons rfl (QP.val (v := (.pointer (some ⟨b6, 1, none⟩))) rfl (fun w' hm' => x_fieldAddr (fsz := 1) 0 1 1 U26 rfl Tryz_T24 rfl f162 rfl) ?_)
     refine QW.cons rfl (QP.val (v := v1) rfl (fun w' hm' => x_load1 U24 rfl rfl ((hL.call hm').cellB 0 rfl rfl)) ?_)
     refine QW.cons rfl (QP.val (v := (.int .i64 s_l1)) rfl (fun w' hm' => x_move) ?_)
     obtain ⟨x202, ha203, hm⟩ := bndE hm
     obtain ⟨hz204, ha212⟩ := idxE ha203
     obtain ⟨b205, q206, v207, hix208, hs209, hc210, hr211⟩ := rdN_at h2 hz204 ha212
     refine QW.cons rfl (QP.val (v := (.pointer (some ⟨b205, q206, none⟩))) rfl (fun w' hm' => x_ix U24 Tryz_T27 rfl rfl hix208) ?_)
     refine QW.cons rfl (QP.val (v := v207) rfl (fun w' hm' => x_load1 U27 rfl rfl ((hL.call hm').cellS 1 rfl hs209 hc210)) ?_)
     refine QW.cons rfl (QP.val (v := (.pointer (some ⟨b6, 0, none⟩))) rfl (fun w' hm' => x_fieldAddr (fsz := 1) 0 0 0 U26 rfl Tryz_T2 rfl f162 rfl) ?_)
     refine QW.cons rfl (QP.val (v := (.int .i64 a0.Boats)) rfl (fun w' hm' => x_load1 U2 rfl rfl ((hL.call hm').cellB 0 rfl rfl)) ?_)
     obtain ⟨x213, hx214, hm⟩ := bndE hm
     refine QW.cons rfl (QP.call (v := (.bool x213)) rfl (fun w' hm' => x_call (vs := [v207, (.int .i64 a0.Boats), (.int .i64 10000)]) Tryz_C93 ⟨rfl, rfl, rfl, trivial⟩) (fun w' hm' => (M.impl_areRow_ok w' x202 ((hL.call hm').rdS 1 rfl hr211) a0.Boats 10000 hx214).mono (fun e w'' h => ⟨h.1, hm'.trans h.2.mod⟩)) ?_)
     refine QW.cons rfl (QP.val (v := (.bool (!x213))) rfl (fun w' hm' => x_not rfl) ?_)
     refine QW.cons rfl (QP.val (v := (.bool (!x213))) rfl (fun w' hm' => x_move) ?_)
     refine ifB_elim hm (fun hb215 hm => ?_) (fun hb215 hm => ?_)
     · refine QW.cons rfl (QP.no' rfl rfl hb215 rfl ?_)
       refine QW.cons rfl (QP.no' rfl rfl hb215 rfl ?_)
       refine QW.cons rfl (QP.no' rfl rfl hb215 rfl ?_)
       refine QW.cons rfl (QP.no' rfl rfl hb215 rfl ?_)
       refine QW.cons rfl (QP.no' rfl rfl hb215 rfl ?_)
       refine QW.cons rfl (QP.no' rfl rfl hb215 rfl ?_)
       refine QW.cons rfl (QP.no' rfl rfl hb215 rfl ?_)
       refine QW.cons rfl (QP.no' rfl rfl hb215 rfl ?_)
       refine QW.cons rfl (QP.no' rfl rfl hb215 rfl ?_)
       refine QW.cons rfl (QP.val (v := (.bool true)) rfl (fun w' hm' => x_pickT' rfl hb215 rfl) ?_)
       refine QW.nil ?_
       intro wd216 hmod
       have hL := hL.call hmod
       refine DW.done (by kernel_rfl) ?_
       exact ⟨true, hm, ⟨f162, f163, f164, rfl, hL⟩⟩
     refine QW.cons rfl (QP.yes' rfl rfl hb215 (QP.val (v := (.pointer (some ⟨b6, 2, none⟩))) rfl (fun w' hm' => x_fieldAddr (fsz := 1) 0 2 2 U26 rfl Tryz_T24 rfl f162 rfl) ?_))
     refine QW.cons rfl (QP.yes' rfl rfl hb215 (QP.val (v := v3) rfl (fun w' hm' => x_load1 U24 rfl rfl ((hL.call hm').cellB 0 rfl rfl)) ?_))
     refine QW.cons rfl (QP.yes' rfl rfl hb215 (QP.val (v := (.int .i64 s_l1)) rfl (fun w' hm' => x_move) ?_))
     obtain ⟨x217, ha218, hm⟩ := bndE hm
     obtain ⟨hz219, ha227⟩ := idxE ha218
     obtain ⟨b220, q221, v222, hix223, hs224, hc225, hr226⟩ := rdN_at h4 hz219 ha227
     refine QW.cons rfl (QP.yes' rfl rfl hb215 (QP.val (v := (.pointer (some ⟨b220, q221, none⟩))) rfl (fun w' hm' => x_ix U24 Tryz_T27 rfl rfl hix223) ?_))
     refine QW.cons rfl (QP.yes' rfl rfl hb215 (QP.val (v := v222) rfl (fun w' hm' => x_load1 U27 rfl rfl ((hL.call hm').cellS 1 rfl hs224 hc225)) ?_))
     refine QW.cons rfl (QP.yes' rfl rfl hb215 (QP.val (v := (.pointer (some ⟨b6, 0, none⟩))) rfl (fun w' hm' => x_fieldAddr (fsz := 1) 0 0 0 U26 rfl Tryz_T2 rfl f162 rfl) ?_))
     refine QW.cons rfl (QP.yes' rfl rfl hb215 (QP.val (v := (.int .i64 a0.Boats)) rfl (fun w' hm' => x_load1 U2 rfl rfl ((hL.call hm').cellB 0 rfl rfl)) ?_))
     obtain ⟨x228, hx229, hm⟩ := bndE hm
     refine QW.cons rfl (QP.yes' rfl rfl hb215 (QP.call (v := (.bool x228)) rfl (fun w' hm' => x_call (vs := [v222, (.int .i64 a0.Boats), (.int .i64 9)]) Tryz_C93 ⟨rfl, rfl, rfl, trivial⟩) (fun w' hm' => (M.impl_areRow_ok w' x217 ((hL.call hm').rdS 1 rfl hr226) a0.Boats 9 hx229).mono (fun e w'' h => ⟨h.1, hm'.trans h.2.mod⟩)) ?_))
     refine QW.cons rfl (QP.yes' rfl rfl hb215 (QP.val (v := (.bool (!x228))) rfl (fun w' hm' => x_not rfl) ?_))
     refine QW.cons rfl (QP.val (v := (.bool (!x228))) rfl (fun w' hm' => x_pickF' rfl hb215 rfl) ?_)
     refine QW.nil ?_
     intro wd230 hmod
     have hL := hL.call hmod
     refine DW.done (by kernel_rfl) ?_
     exact ⟨!x228, hm, ⟨f162, f163, f164, rfl, hL⟩⟩
   intro s_j2 F195 wd196 hJ hm
   unfold M.impl_IsTable_j2 at hm
   obtain ⟨f197, f198, f199, f200, hL⟩ := hJ
   refine CW.condM (t := s_j2) f200 hm (fun hb201 hm => ?_) (fun hb201 hm => ?_)
   · refine CSR ?_
     refine OV (.bool false) rfl (x_assign) ?_
     refine OW.nil ?_
     refine CW.ret ?_
     obtain rfl := Option.some.inj hm
     have hm := hr152 _ rfl
     obtain rfl := Option.some.inj hm
     exact RR1 rfl rfl ⟨rfl, hL.fresh 1 rfl [] (by decide) (by decide) rfl⟩
   refine CW.skip ?_
   refine CW.regionL ?_
   refine OV (.int .i64 (w64 (s_l1 + 1))) rfl (x_add f199 rfl) ?_
   refine OV (.int .i64 (w64 (s_l1 + 1))) rfl (x_move) ?_
   refine OW.nil ?_
   obtain rfl := Option.some.inj hm
   exact ⟨_, rfl, ⟨f197, f198, rfl, hL⟩⟩
 refine CW.exit ?_
 refine XJ.hit ?_
 obtain rfl := Option.some.inj hm
 exact ⟨_, rfl, ⟨f162, f163, f164, hL⟩⟩

theorem M.impl_IsDiscardRule_ok (w0 : World) (a0 : List Int) {v1 : Value} (h2 : rdL (· < w0.heap.size) w0 v1 a0) {r : Bool} (hm : M.impl_IsDiscardRule a0 = some r) :
    Calls Tryz.prog 42 #[v1] w0 fun e w' => e = .returned (.bool r) ∧ Fresh w0 w' [] := by
 unfold M.impl_IsDiscardRule at hm
 refine calls_CW (args := [v1]) Tryz.func42 rfl rfl rfl ?_
 have hL := Hp.start w0
 refine CSR ?_
 refine OV (.bool false) rfl (x_assign) ?_
 refine ONS ?_
 refine CSR ?_
 refine OV v1 rfl (x_move) ?_
 refine OV (.int .i64 (a0.length : Int)) rfl (x_lenR U27 rfl (hL.rdS 0 rfl h2)) ?_
 refine OV (.int .i64 0) rfl (x_move) ?_
 refine OW.nil ?_
 obtain ⟨o93, ho94, hm⟩ := bndE hm
 refine CW.loopB (fun (s_l1 : Int) (F : Fr) (w : World) => F 0 = v1 ∧ F 5 = v1 ∧ F 6 = (.int .i64 (a0.length : Int)) ∧ F 7 = (.int .i64 s_l1) ∧ Hp w0 [Ent.snap w0 w0.heap.size] w) (fun o => outc o (fun x => some x) (fun s => M.impl_IsDiscardRule_a1 a0 s) = some r) ho94 hm ⟨rfl, rfl, rfl, rfl, hL⟩ ?_ ?_
 · intro s_l1 F95 wd96 hJ hm
   have hm := outcE hm
   have hm : M.impl_IsDiscardRule_a1 a0 s_l1 = some r := hm
   unfold M.impl_IsDiscardRule_a1 at hm
   obtain ⟨f97, f98, f99, f100, hL⟩ := hJ
   refine CSR ?_
   refine OV v1 rfl (x_mv f97) ?_
   refine OV (.int .i64 (a0.length : Int)) rfl (x_lenR U27 rfl (hL.rdS 0 rfl h2)) ?_
   refine OV (.bool (decide ((a0.length : Int) ≤ 3))) rfl (x_leq rfl rfl) ?_
   refine OV (.bool (decide ((a0.length : Int) ≤ 3))) rfl (x_assign) ?_
   refine OW.nil ?_
   refine CW.ret ?_
   obtain rfl := Option.some.inj hm
   exact RR1 rfl rfl ⟨rfl, hL.fresh 0 rfl [] (by decide) (by decide) rfl⟩
 intro s_l1 F101 wd102 t91 hJ hm hr92
 unfold M.impl_IsDiscardRule_l1 at hm
 obtain ⟨f103, f104, f105, f106, hL⟩ := hJ
 refine CSR ?_
 refine OV (.bool (decide (s_l1 < (a0.length : Int)))) rfl (x_lss f106 f105) ?_
 refine ONS ?_
 refine CW.condM (t := decide (s_l1 < (a0.length : Int))) rfl hm (fun hb107 hm => ?_) (fun hb107 hm => ?_)
 · refine CW.skip ?_
   refine CW.seq ?_
   refine CW.block ?_
   refine CSR ?_
   refine OV (.int .i64 s_l1) rfl (x_mv f106) ?_
   obtain ⟨x108, ha109, hm⟩ := bndE hm
   obtain ⟨hz110, ha114⟩ := idxE ha109
   obtain ⟨b111, q112, hix113⟩ := rdL_ix (hL.rdS 0 rfl h2) hz110 ha114
   refine OV (.pointer (some ⟨b111, q112, none⟩)) rfl (x_ix U27 Tryz_T2 f104 f106 hix113) ?_
   refine OV (.int .i64 x108) rfl (x_load1 U2 rfl rfl (rdF_cells (hL.rdS 0 rfl h2) hix113 ha114 0 _ rfl)) ?_
   refine OV (.int .i64 s_l1) rfl (x_assign) ?_
   refine OV (.int .i64 x108) rfl (x_assign) ?_
   refine OW.nil ?_
   refine CW.seqJ (fun (s_j1 : Bool) (F : Fr) (w : World) => F 0 = v1 ∧ F 5 = v1 ∧ F 6 = (.int .i64 (a0.length : Int)) ∧ F 7 = (.int .i64 s_l1) ∧ F 27 = (.bool s_j1) ∧ Hp w0 [Ent.snap w0 w0.heap.size] w) (fun s_j1 => M.impl_IsDiscardRule_j1 s_l1 s_j1 = some t91) ?_ ?_
   · refine CW.regionL ?_
     refine OV (.int .i64 x108) rfl (x_move) ?_
     obtain ⟨x137, hx138, hm⟩ := bndE hm
     refine OW.cons (OP.call rfl (x_call (vs := [(.int .i64 x108), (.int .i64 1), (.int .i64 12)]) Tryz_C43 ⟨rfl, rfl, rfl, trivial⟩) (M.impl_within_ok _ x108 1 12 hx138) ?_)
     rintro e139 wd140 ⟨rfl, hF141⟩
     refine ⟨_, rfl, ?_⟩
     have hL := hL.pushAll hF141
     simp only [lA, lB, lC, lD] at hL
     refine OV (.bool (!x137)) rfl (x_not rfl) ?_
     refine OV (.bool (!x137)) rfl (x_move) ?_
     refine ifB_elim hm (fun hb142 hm => ?_) (fun hb142 hm => ?_)
     · refine OW.cons (OP.no' rfl rfl hb142 rfl ?_)
       refine OW.cons (OP.no' rfl rfl hb142 rfl ?_)
       refine OW.cons (OP.no' rfl rfl hb142 rfl ?_)
       refine OW.cons (OP.noU rfl rfl rfl ?_)
       refine OW.cons (OP.noU rfl rfl rfl ?_)
       refine OW.cons (OP.noU rfl rfl rfl ?_)
       refine OW.cons (OP.noU rfl rfl rfl ?_)
       refine OW.cons (OP.noU rfl rfl rfl ?_)
       refine OW.cons (OP.noU rfl rfl rfl ?_)
       refine OW.cons (OP.noU rfl rfl rfl ?_)
       refine OW.cons (OP.no' rfl rfl hb142 rfl ?_)
       refine OV (.bool true) rfl (x_pickT' rfl hb142 rfl) ?_
       refine OW.nil ?_
       exact ⟨true, hm, ⟨f103, f104, f105, f106, rfl, hL⟩⟩
     refine OW.cons (OP.yes' rfl rfl hb142 (OP.val (v := (.int .i64 s_l1)) rfl (x_move) ?_))
     refine OW.cons (OP.yes' rfl rfl hb142 (OP.val (v := (.bool (decide (0 < s_l1)))) rfl (x_gtr rfl rfl) ?_))
     refine OW.cons (OP.yes' rfl rfl hb142 (OP.val (v := (.bool (decide (0 < s_l1)))) rfl (x_move) ?_))
     refine ifB_elim hm (fun hb143 hm => ?_) (fun hb143 hm => ?_)
     · refine OW.cons (OP.yes' rfl rfl hb143 (OP.val (v := v1) rfl (x_mv f103) ?_))
       refine OW.cons (OP.yes' rfl rfl hb143 (OP.val (v := (.int .i64 s_l1)) rfl (x_move) ?_))
       refine OW.cons (OP.yes' rfl rfl hb143 (OP.val (v := (.int .i64 (w64 (s_l1 - 1)))) rfl (x_sub rfl rfl) ?_))
       obtain ⟨x144, ha145, hm⟩ := bndE hm
       obtain ⟨hz146, ha150⟩ := idxE ha145
       obtain ⟨b147, q148, hix149⟩ := rdL_ix (hL.rdS 0 rfl h2) hz146 ha150
       refine OW.cons (OP.yes' rfl rfl hb143 (OP.val (v := (.pointer (some ⟨b147, q148, none⟩))) rfl (x_ix U27 Tryz_T2 rfl rfl hix149) ?_))
       refine OW.cons (OP.yes' rfl rfl hb143 (OP.val (v := (.int .i64 x144)) rfl (x_load1 U2 rfl rfl (rdF_cells (hL.rdS 0 rfl h2) hix149 ha150 0 _ rfl)) ?_))
       refine OW.cons (OP.yes' rfl rfl hb143 (OP.val (v := (.int .i64 x108)) rfl (x_move) ?_))
       refine OW.cons (OP.yes' rfl rfl hb143 (OP.val (v := (.bool (decide (x108 ≤ x144)))) rfl (x_geq rfl rfl) ?_))
       refine OW.cons (OP.yes' rfl rfl hb142 (OP.val (v := (.bool (decide (x108 ≤ x144)))) rfl (x_pickT' rfl hb143 rfl) ?_))
       refine OV (.bool (decide (x108 ≤ x144))) rfl (x_pickF' rfl hb142 rfl) ?_
       refine OW.nil ?_
       exact ⟨decide (x108 ≤ x144), hm, ⟨f103, f104, f105, f106, rfl, hL⟩⟩
     refine OW.cons (OP.no' rfl rfl hb143 rfl ?_)
     refine OW.cons (OP.no' rfl rfl hb143 rfl ?_)
     refine OW.cons (OP.no' rfl rfl hb143 rfl ?_)
     refine OW.cons (OP.no' rfl rfl hb143 rfl ?_)
     refine OW.cons (OP.no' rfl rfl hb143 rfl ?_)
     refine OW.cons (OP.no' rfl rfl hb143 rfl ?_)
     refine OW.cons (OP.no' rfl rfl hb143 rfl ?_)
     refine OW.cons (OP.yes' rfl rfl hb142 (OP.val (v := (.bool false)) rfl (x_pickF' rfl hb143 rfl) ?_))
     refine OV (.bool false) rfl (x_pickF' rfl hb142 rfl) ?_
     refine OW.nil ?_
     exact ⟨false, hm, ⟨f103, f104, f105, f106, rfl, hL⟩⟩
   intro s_j1 F129 wd130 hJ hm
   unfold M.impl_IsDiscardRule_j1 at hm
   obtain ⟨f131, f132, f133, f134, f135, hL⟩ := hJ
   refine CW.condM (t := s_j1) f135 hm (fun hb136 hm => ?_) (fun hb136 hm => ?_)
   · refine CSR ?_
     refine OV (.bool false) rfl (x_assign) ?_
     refine OW.nil ?_
     refine CW.ret ?_
     obtain rfl := Option.some.inj hm
     have hm := hr92 _ rfl
     obtain rfl := Option.some.inj hm
     exact RR1 rfl rfl ⟨rfl, hL.fresh 0 rfl [] (by decide) (by decide) rfl⟩
   refine CW.skip ?_
   refine CW.regionL ?_
   refine OV (.int .i64 (w64 (s_l1 + 1))) rfl (x_add f134 rfl) ?_
   refine OV (.int .i64 (w64 (s_l1 + 1))) rfl (x_move) ?_
   refine OW.nil ?_
   obtain rfl := Option.some.inj hm
   exact ⟨_, rfl, ⟨f131, f132, f133, rfl, hL⟩⟩
 refine CW.exit ?_
 refine XJ.hit ?_
 obtain rfl := Option.some.inj hm
 exact ⟨_, rfl, ⟨f103, f104, f105, f106, hL⟩⟩

theorem M.impl_tableCode_ok (w0 : World) (a0 : Table) {v1 : Value} {v3 : Value} (h2 : rdL (· < w0.heap.size) w0 v1 a0.Points) (h4 : rdL (· < w0.heap.size) w0 v3 a0.Codes) (a1 : List Int) {v5 : Value} (h6 : rdL (· < w0.heap.size) w0 v5 a1) (a2 : Int) {r : Int} (hm : M.impl_tableCode a0 a1 a2 = some r) :
    Calls Tryz.prog 24 #[(.agg #[(.int .i64 a0.Boats), v1, v3]), v5, (.int .i64 a2)] w0 fun e w' => e = .returned (.int .i64 r) ∧ Fresh w0 w' [] := by
 unfold M.impl_tableCode at hm
 refine calls_CW (args := [(.agg #[(.int .i64 a0.Boats), v1, v3]), v5, (.int .i64 a2)]) Tryz.func24 rfl rfl rfl ?_
 have hL := Hp.start w0
 refine CSR ?_
 refine OW.cons (S_box (cs := #[(.int .i64 a0.Boats), v1, v3]) hL rfl rfl rfl ?_)
 intro wd7 b8 hL
 refine OV (.int .i64 0) rfl (x_assign) ?_
 refine ONS ?_
 refine CSR ?_
 refine OV (.agg #[(.int .i64 a0.Boats), v1, v3]) rfl (x_loadN (cs := [(.int .i64 a0.Boats), v1, v3]) U26 Tryz_T26 rfl rfl (hL.cellsB 0 rfl (o := 0) (l := [(.int .i64 a0.Boats), v1, v3]) (by intro j u hj; exact (by simpa using hj)))) ?_
 obtain ⟨x9, hx10, hm⟩ := bndE hm
 refine OW.cons (OP.call rfl (x_call (vs := [(.agg #[(.int .i64 a0.Boats), v1, v3])]) Tryz_C61 ⟨rfl, trivial⟩) (M.impl_IsTable_ok _ a0 (hL.rdS 1 rfl h2) (hL.rdS 1 rfl h4) hx10) ?_)
 rintro e11 wd12 ⟨rfl, hF13⟩
 refine ⟨_, rfl, ?_⟩
 have hL := hL.pushAll hF13
 simp only [lA, lB, lC, lD] at hL
 refine OV (.bool (!x9)) rfl (x_not rfl) ?_
 refine OW.nil ?_
 refine CW.condM (t := !x9) rfl hm (fun hb14 hm => ?_) (fun hb14 hm => ?_)
 · refine CSR ?_
   refine OV (.int .i64 1) rfl (x_assign) ?_
   refine OW.nil ?_
   refine CW.ret ?_
   obtain rfl := Option.some.inj hm
   exact RR1 rfl rfl ⟨rfl, hL.fresh 1 rfl [] (by decide) (by decide) rfl⟩
 refine CW.skip ?_
 refine CW.seq ?_
 refine CW.seqJ (fun (s_j1 : Bool) (F : Fr) (w : World) => F 20 = (.bool s_j1) ∧ Hp w0 [Ent.blk b8 26 #[(.int .i64 a0.Boats), v1, v3], Ent.snap w0 w0.heap.size] w) (fun s_j1 => M.impl_tableCode_j1 s_j1 = some r) ?_ ?_
 · refine CW.regionL ?_
   refine OV v5 rfl (x_move) ?_
   obtain ⟨x30, hx31, hm⟩ := bndE hm
   refine OW.cons (OP.call rfl (x_call (vs := [v5]) Tryz_C42 ⟨rfl, trivial⟩) (M.impl_IsDiscardRule_ok _ a1 (hL.rdS 1 rfl h6) hx31) ?_)
   rintro e32 wd33 ⟨rfl, hF34⟩
   refine ⟨_, rfl, ?_⟩
   have hL := hL.pushAll hF34
   simp only [lA, lB, lC, lD] at hL
   refine OV (.bool (!x30)) rfl (x_not rfl) ?_
   refine OV (.bool (!x30)) rfl (x_move) ?_
   refine ifB_elim hm (fun hb35 hm => ?_) (fun hb35 hm => ?_)
   · refine OW.cons (OP.no' rfl rfl hb35 rfl ?_)
     refine OW.cons (OP.no' rfl rfl hb35 rfl ?_)
     refine OW.cons (OP.no' rfl rfl hb35 rfl ?_)
     refine OW.cons (OP.no' rfl rfl hb35 rfl ?_)
     refine OW.cons (OP.no' rfl rfl hb35 rfl ?_)
     refine OW.cons (OP.no' rfl rfl hb35 rfl ?_)
     refine OV (.bool true) rfl (x_pickT' rfl hb35 rfl) ?_
     refine OW.nil ?_
     exact ⟨true, hm, ⟨rfl, hL⟩⟩
   refine OW.cons (OP.yes' rfl rfl hb35 (OP.val (v := (.int .i64 a2)) rfl (x_move) ?_))
   refine OW.cons (OP.yes' rfl rfl hb35 (OP.val (v := (.pointer (some ⟨b8, 0, none⟩))) rfl (x_fieldAddr (fsz := 1) 0 0 0 U26 rfl Tryz_T2 rfl rfl rfl) ?_))
   refine OW.cons (OP.yes' rfl rfl hb35 (OP.val (v := (.int .i64 a0.Boats)) rfl (x_load1 U2 rfl rfl (hL.cellB 0 rfl rfl)) ?_))
   refine OW.cons (OP.yes' rfl rfl hb35 (OP.val (v := (.int .i64 (w64 (a0.Boats - 1)))) rfl (x_sub rfl rfl) ?_))
   obtain ⟨x36, hx37, hm⟩ := bndE hm
   refine OW.cons (OP.yes' rfl rfl hb35 (OP.call rfl (x_call (vs := [(.int .i64 a2), (.int .i64 0), (.int .i64 (w64 (a0.Boats - 1)))]) Tryz_C43 ⟨rfl, rfl, rfl, trivial⟩) (M.impl_within_ok _ a2 0 (w64 (a0.Boats - 1)) hx37) ?_))
   rintro e38 wd39 ⟨rfl, hF40⟩
   refine ⟨_, rfl, ?_⟩
   have hL := hL.pushAll hF40
   simp only [lA, lB, lC, lD] at hL
   refine OW.cons (OP.yes' rfl rfl hb35 (OP.val (v := (.bool (!x36))) rfl (x_not rfl) ?_))
   refine OV (.bool (!x36)) rfl (x_pickF' rfl hb35 rfl) ?_
   refine OW.nil ?_
   exact ⟨!x36, hm, ⟨rfl, hL⟩⟩
 intro s_j1 F26 wd27 hJ hm
 unfold M.impl_tableCode_j1 at hm
 obtain ⟨f28, hL⟩ := hJ
 refine CW.condM (t := s_j1) f28 hm (fun hb29 hm => ?_) (fun hb29 hm => ?_)
 · refine CSR ?_
   refine OV (.int .i64 2) rfl (x_assign) ?_
   refine OW.nil ?_
   refine CW.ret ?_
   obtain rfl := Option.some.inj hm
   exact RR1 rfl rfl ⟨rfl, hL.fresh 1 rfl [] (by decide) (by decide) rfl⟩
 refine CW.skip ?_
 refine CSR ?_
 refine OV (.int .i64 0) rfl (x_assign) ?_
 refine OW.nil ?_
 refine CW.ret ?_
 obtain rfl := Option.some.inj hm
 exact RR1 rfl rfl ⟨rfl, hL.fresh 1 rfl [] (by decide) (by decide) rfl⟩

theorem M.impl_discardCount_ok (w0 : World) (a0 : List Int) {v1 : Value} (h2 : rdL (· < w0.heap.size) w0 v1 a0) (a1 : Int) {r : Int} (hm : M.impl_discardCount a0 a1 = some r) :
    Calls Tryz.prog 118 #[v1, (.int .i64 a1)] w0 fun e w' => e = .returned (.int .i64 r) ∧ Fresh w0 w' [] := by
 unfold M.impl_discardCount at hm
 refine calls_CW (args := [v1, (.int .i64 a1)]) Tryz.func118 rfl rfl rfl ?_
 have hL := Hp.start w0
 refine CSR ?_
 refine OV (.int .i64 0) rfl (x_assign) ?_
 refine ONR ?_
 refine OV (.int .i64 0) rfl (x_assign) ?_
 refine ONS ?_
 refine CSR ?_
 refine OV v1 rfl (x_move) ?_
 refine OV (.int .i64 (a0.length : Int)) rfl (x_lenR U27 rfl (hL.rdS 0 rfl h2)) ?_
 refine OV (.int .i64 0) rfl (x_move) ?_
 refine OW.nil ?_
 obtain ⟨o113, ho114, hm⟩ := bndE hm
 refine CW.loopB (fun (s_l1 : Int × Int) (F : Fr) (w : World) => F 1 = (.int .i64 a1) ∧ F 5 = (.int .i64 s_l1.1) ∧ F 8 = v1 ∧ F 9 = (.int .i64 (a0.length : Int)) ∧ F 10 = (.int .i64 s_l1.2) ∧ Hp w0 [Ent.snap w0 w0.heap.size] w) (fun o => outc o (fun x => some x) (fun s => M.impl_discardCount_a1 s) = some r) ho114 hm ⟨rfl, rfl, rfl, rfl, rfl, hL⟩ ?_ ?_
 · intro s_l1 F115 wd116 hJ hm
   have hm := outcE hm
   have hm : M.impl_discardCount_a1 s_l1 = some r := hm
   unfold M.impl_discardCount_a1 at hm
   obtain ⟨f117, f118, f119, f120, f121, hL⟩ := hJ
   refine CSR ?_
   refine OV (.int .i64 s_l1.1) rfl (x_mv f118) ?_
   refine OV (.int .i64 s_l1.1) rfl (x_assign) ?_
   refine OW.nil ?_
   refine CW.ret ?_
   obtain rfl := Option.some.inj hm
   exact RR1 rfl rfl ⟨rfl, hL.fresh 0 rfl [] (by decide) (by decide) rfl⟩
 intro s_l1 F122 wd123 t111 hJ hm hr112
 unfold M.impl_discardCount_l1 at hm
 obtain ⟨f124, f125, f126, f127, f128, hL⟩ := hJ
 refine CSR ?_
 refine OV (.bool (decide (s_l1.2 < (a0.length : Int)))) rfl (x_lss f128 f127) ?_
 refine ONS ?_
 refine CW.condM (t := decide (s_l1.2 < (a0.length : Int))) rfl hm (fun hb129 hm => ?_) (fun hb129 hm => ?_)
 · refine CW.skip ?_
   refine CW.seqJ (fun (s_j1 : Int) (F : Fr) (w : World) => F 1 = (.int .i64 a1) ∧ F 5 = (.int .i64 s_j1) ∧ F 8 = v1 ∧ F 9 = (.int .i64 (a0.length : Int)) ∧ F 10 = (.int .i64 s_l1.2) ∧ Hp w0 [Ent.snap w0 w0.heap.size] w) (fun s_j1 => M.impl_discardCount_j1 s_l1 s_j1 = some t111) ?_ ?_
   · refine CW.blockJ (fun (s_j2 : Int) (F : Fr) (w : World) => F 1 = (.int .i64 a1) ∧ F 5 = (.int .i64 s_j2) ∧ F 8 = v1 ∧ F 9 = (.int .i64 (a0.length : Int)) ∧ F 10 = (.int .i64 s_l1.2) ∧ Hp w0 [Ent.snap w0 w0.heap.size] w) (fun s_j2 => M.impl_discardCount_j2 s_l1 s_j2 = some t111) ?_ ?_
     · refine CSR ?_
       obtain ⟨x175, ha176, hm⟩ := bndE hm
       obtain ⟨hz177, ha181⟩ := idxE ha176
       obtain ⟨b178, q179, hix180⟩ := rdL_ix (hL.rdS 0 rfl h2) hz177 ha181
       refine OV (.pointer (some ⟨b178, q179, none⟩)) rfl (x_ix U27 Tryz_T2 f126 f128 hix180) ?_
       refine OV (.int .i64 x175) rfl (x_load1 U2 rfl rfl (rdF_cells (hL.rdS 0 rfl h2) hix180 ha181 0 _ rfl)) ?_
       refine OV (.int .i64 x175) rfl (x_assign) ?_
       refine ONR ?_
       refine OV (.int .i64 x175) rfl (x_move) ?_
       refine OV (.int .i64 a1) rfl (x_mv f124) ?_
       refine OV (.bool (decide (x175 ≤ a1))) rfl (x_leq rfl rfl) ?_
       refine OW.nil ?_
       refine CW.condM (t := decide (x175 ≤ a1)) rfl hm (fun hb182 hm => ?_) (fun hb182 hm => ?_)
       · refine CW.regionL ?_
         refine OV (.int .i64 s_l1.1) rfl (x_mv f125) ?_
         refine OV (.int .i64 (w64 (s_l1.1 + 1))) rfl (x_add rfl rfl) ?_
         refine OV (.int .i64 (w64 (s_l1.1 + 1))) rfl (x_assign) ?_
         refine OW.nil ?_
         exact ⟨w64 (s_l1.1 + 1), hm, ⟨f124, rfl, f126, f127, f128, hL⟩⟩
       refine CW.skip ?_
       exact ⟨s_l1.1, hm, ⟨f124, f125, f126, f127, f128, hL⟩⟩
     intro s_j2 F168 wd169 hJ hm
     unfold M.impl_discardCount_j2 at hm
     obtain ⟨f170, f171, f172, f173, f174, hL⟩ := hJ
     exact ⟨s_j2, hm, ⟨f170, f171, f172, f173, f174, hL⟩⟩
   intro s_j1 F153 wd154 hJ hm
   unfold M.impl_discardCount_j1 at hm
   obtain ⟨f155, f156, f157, f158, f159, hL⟩ := hJ
   refine CW.regionL ?_
   refine OV (.int .i64 (w64 (s_l1.2 + 1))) rfl (x_add f159 rfl) ?_
   refine OV (.int .i64 (w64 (s_l1.2 + 1))) rfl (x_move) ?_
   refine OW.nil ?_
   obtain rfl := Option.some.inj hm
   exact ⟨_, rfl, ⟨f155, f156, f157, f158, rfl, hL⟩⟩
 refine CW.exit ?_
 refine XJ.hit ?_
 obtain rfl := Option.some.inj hm
 exact ⟨_, rfl, ⟨f124, f125, f126, f127, f128, hL⟩⟩

theorem M.impl_discardsOf_1_ok (w0 : World) (a0 : Int) (a1 : Int) (a2 : Table) {v3 : Value} {v5 : Value} {b1 : Nat} (h4 : rdL (· < w0.heap.size) w0 v3 a2.Points) (h6 : rdL (· < w0.heap.size) w0 v5 a2.Codes) (hb2 : bxA (· < w0.heap.size) w0 b1 26 #[(.int .i64 a2.Boats), v3, v5]) (a3 : Int) {b7 : Nat} (hb8 : bxA (· < w0.heap.size) w0 b7 2 #[(.int .i64 a3)]) {r : Int} (hm : M.impl_discardsOf_1 a0 a1 a2 a3 = some r) :
    Calls Tryz.prog 119 #[(.int .i64 a0), (.int .i64 a1), (.pointer (some ⟨b1, 0, none⟩)), (.pointer (some ⟨b7, 0, none⟩))] w0 fun e w' => e = .returned (.int .i64 r) ∧ Fresh w0 w' [] := by
 unfold M.impl_discardsOf_1 at hm
 refine calls_CW (args := [(.int .i64 a0), (.int .i64 a1), (.pointer (some ⟨b1, 0, none⟩)), (.pointer (some ⟨b7, 0, none⟩))]) Tryz.func119 rfl rfl rfl ?_
 have hL := Hp.start w0
 refine CSR ?_
 refine OV (.int .i64 0) rfl (x_assign) ?_
 refine ONS ?_
 refine CW.draw Tryz_mixed ?_
 have hL := hL.call (Mod.drew _)
 refine DW.pre (fuel := 0) (fin := bma 18 262143) (C := fun w' => Mod None_ _ w') [0, 1, 2, 3, 4, 5, 6, 7, 8, 9, 10, 11, 12, 13, 14, 15, 16, 17] (Mod.refl _ _) (by kernel_rfl) (by kernel_rfl) ?_
 refine QW.cons rfl (QP.val (v := (.pointer (some ⟨b1, 1, none⟩))) rfl (fun w' hm' => x_fieldAddr (fsz := 1) 0 1 1 U26 rfl Tryz_T24 rfl rfl rfl) ?_)
 refine QW.cons rfl (QP.val (v := v3) rfl (fun w' hm' => x_load1 U24 rfl rfl (((hL.call hm').bxS 0 rfl hb2).cell rfl)) ?_)
 refine QW.cons rfl (QP.val (v := (.int .i64 a1)) rfl (fun w' hm' => x_move) ?_)
 obtain ⟨x9, ha10, hm⟩ := bndE hm
 obtain ⟨hz11, ha19⟩ := idxE ha10
 obtain ⟨b12, q13, v14, hix15, hs16, hc17, hr18⟩ := rdN_at h4 hz11 ha19
 refine QW.cons rfl (QP.val (v := (.pointer (some ⟨b12, q13, none⟩))) rfl (fun w' hm' => x_ix U24 Tryz_T27 rfl rfl hix15) ?_)
 refine QW.cons rfl (QP.val (v := v14) rfl (fun w' hm' => x_load1 U27 rfl rfl ((hL.call hm').cellS 0 rfl hs16 hc17)) ?_)
 refine QW.cons rfl (QP.val (v := (.int .i64 a3)) rfl (fun w' hm' => x_load1 U2 rfl rfl (((hL.call hm').bxS 0 rfl hb8).cell rfl)) ?_)
 obtain ⟨x20, ha21, hm⟩ := bndE hm
 obtain ⟨hz22, ha26⟩ := idxE ha21
 obtain ⟨b23, q24, hix25⟩ := rdL_ix (hL.rdS 0 rfl hr18) hz22 ha26
 refine QW.cons rfl (QP.val (v := (.pointer (some ⟨b23, q24, none⟩))) rfl (fun w' hm' => x_ix U27 Tryz_T2 rfl rfl hix25) ?_)
 refine QW.cons rfl (QP.val (v := (.int .i64 x20)) rfl (fun w' hm' => x_load1 U2 rfl rfl (rdF_cells ((hL.call hm').rdS 0 rfl hr18) hix25 ha26 0 _ rfl)) ?_)
 refine QW.cons rfl (QP.val (v := (.pointer (some ⟨b1, 1, none⟩))) rfl (fun w' hm' => x_fieldAddr (fsz := 1) 0 1 1 U26 rfl Tryz_T24 rfl rfl rfl) ?_)
 refine QW.cons rfl (QP.val (v := v3) rfl (fun w' hm' => x_load1 U24 rfl rfl (((hL.call hm').bxS 0 rfl hb2).cell rfl)) ?_)
 refine QW.cons rfl (QP.val (v := (.int .i64 a0)) rfl (fun w' hm' => x_move) ?_)
 obtain ⟨x27, ha28, hm⟩ := bndE hm
 obtain ⟨hz29, ha37⟩ := idxE ha28
 obtain ⟨b30, q31, v32, hix33, hs34, hc35, hr36⟩ := rdN_at h4 hz29 ha37
 refine QW.cons rfl (QP.val (v := (.pointer (some ⟨b30, q31, none⟩))) rfl (fun w' hm' => x_ix U24 Tryz_T27 rfl rfl hix33) ?_)
 refine QW.cons rfl (QP.val (v := v32) rfl (fun w' hm' => x_load1 U27 rfl rfl ((hL.call hm').cellS 0 rfl hs34 hc35)) ?_)
 refine QW.cons rfl (QP.val (v := (.int .i64 a3)) rfl (fun w' hm' => x_load1 U2 rfl rfl (((hL.call hm').bxS 0 rfl hb8).cell rfl)) ?_)
 obtain ⟨x38, ha39, hm⟩ := bndE hm
 obtain ⟨hz40, ha44⟩ := idxE ha39
 obtain ⟨b41, q42, hix43⟩ := rdL_ix (hL.rdS 0 rfl hr36) hz40 ha44
 refine QW.cons rfl (QP.val (v := (.pointer (some ⟨b41, q42, none⟩))) rfl (fun w' hm' => x_ix U27 Tryz_T2 rfl rfl hix43) ?_)
 refine QW.cons rfl (QP.val (v := (.int .i64 x38)) rfl (fun w' hm' => x_load1 U2 rfl rfl (rdF_cells ((hL.call hm').rdS 0 rfl hr36) hix43 ha44 0 _ rfl)) ?_)
 refine QW.cons rfl (QP.val (v := (.int .i64 (w64 (x20 - x38)))) rfl (fun w' hm' => x_sub rfl rfl) ?_)
 refine QW.cons rfl (QP.val (v := (.int .i64 (w64 (x20 - x38)))) rfl (fun w' hm' => x_assign) ?_)
 refine QW.nil ?_
 intro wd45 hmod
 have hL := hL.call hmod
 refine DW.done (by kernel_rfl) ?_
 refine CW.ret ?_
 obtain rfl := Option.some.inj hm
 exact RR1 rfl rfl ⟨rfl, hL.fresh 0 rfl [] (by decide) (by decide) rfl⟩

theorem M.impl_sign_ok (w0 : World) (a0 : Int) {r : Int} (hm : M.impl_sign a0 = some r) :
    Calls Tryz.prog 69 #[(.int .i64 a0)] w0 fun e w' => e = .returned (.int .i64 r) ∧ Fresh w0 w' [] := by
 unfold M.impl_sign at hm
 refine calls_CW (args := [(.int .i64 a0)]) Tryz.func69 rfl rfl rfl ?_
 have hL := Hp.start w0
 refine CSR ?_
 refine OV (.int .i64 0) rfl (x_assign) ?_
 refine ONR ?_
 refine OV (.int .i64 a0) rfl (x_move) ?_
 refine OV (.int .i64 (min 1 a0)) rfl (x_min2 rfl rfl) ?_
 refine OV (.int .i64 (max (-1) (min 1 a0))) rfl (x_max2 rfl rfl) ?_
 refine OV (.int .i64 (max (-1) (min 1 a0))) rfl (x_assign) ?_
 refine OW.nil ?_
 refine CW.ret ?_
 obtain rfl := Option.some.inj hm
 exact RR1 rfl rfl ⟨rfl, hL.fresh 0 rfl [] (by decide) (by decide) rfl⟩

theorem M.impl_sortedIndices_1_ok (w0 : World) (a0 : Int) (a1 : Int) (a2 : Int → Int → Option Int) {fk3 : FuncId} {cp4 : List Value} {b1 : Nat} (hq5 : FnQ Tryz.prog fk3 cp4 (· < w0.heap.size) w0 (fun yw yvs yv => ∃ (y0 : Int) (y1 : Int) (yr : Int), yvs = [(.int .i64 y0), (.int .i64 y1)] ∧ a2 y0 y1 = some yr ∧ yv = (.int .i64 yr))) (hb2 : bxA (· < w0.heap.size) w0 b1 83 #[(.func (.func fk3) #[] cp4.toArray)]) {r : Int} (hm : M.impl_sortedIndices_1 a0 a1 a2 = some r) :
    Calls Tryz.prog 95 #[(.int .i64 a0), (.int .i64 a1), (.pointer (some ⟨b1, 0, none⟩))] w0 fun e w' => e = .returned (.int .i64 r) ∧ Fresh w0 w' [] := by
 unfold M.impl_sortedIndices_1 at hm
 refine calls_CW (args := [(.int .i64 a0), (.int .i64 a1), (.pointer (some ⟨b1, 0, none⟩))]) Tryz.func95 rfl rfl rfl ?_
 have hL := Hp.start w0
 refine CSR ?_
 refine OV (.int .i64 0) rfl (x_assign) ?_
 refine ONR ?_
 refine OV (.func (.func fk3) #[] cp4.toArray) rfl (x_load1 U83 rfl rfl ((hL.bxS 0 rfl hb2).cell rfl)) ?_
 refine OV (.int .i64 a0) rfl (x_move) ?_
 refine OV (.int .i64 a1) rfl (x_move) ?_
 obtain ⟨x6, hx7, hm⟩ := bndE hm
 refine OW.cons (OP.call rfl (x_callV (vs := [(.int .i64 a0), (.int .i64 a1)]) (cap := cp4) hq5.1 rfl ⟨rfl, rfl, trivial⟩) (hq5.2 _ (hL.agS 0 rfl) [(.int .i64 a0), (.int .i64 a1)] _ ⟨a0, a1, x6, rfl, hx7, rfl⟩) ?_)
 rintro e8 wd9 ⟨rfl, hF10⟩
 refine ⟨_, rfl, ?_⟩
 have hL := hL.pushAll hF10
 simp only [lA, lB, lC, lD] at hL
 obtain ⟨x11, hx12, hm⟩ := bndE hm
 refine OW.cons (OP.call rfl (x_call (vs := [(.int .i64 x6)]) Tryz_C69 ⟨rfl, trivial⟩) (M.impl_sign_ok _ x6 hx12) ?_)
 rintro e13 wd14 ⟨rfl, hF15⟩
 refine ⟨_, rfl, ?_⟩
 have hL := hL.pushAll hF15
 simp only [lA, lB, lC, lD] at hL
 refine OV (.int .i64 x11) rfl (x_assign) ?_
 refine OW.nil ?_
 refine CW.ret ?_
 obtain rfl := Option.some.inj hm
 exact RR1 rfl rfl ⟨rfl, hL.fresh 0 rfl [] (by decide) (by decide) rfl⟩

theorem M.slices_insertionSortCmpFunc_int64__ok (w0 : World) {E4 : TypeId} {S2 : Nat → Prop} {v1 : Value} (a0 : List Int) (he3 : (Ent.own E4 S2 v1 a0).H w0) (a1 : Int) (a2 : Int) (a3 : Int → Int → Option Int) {fk5 : FuncId} {cp6 : List Value} (hq7 : FnQ Tryz.prog fk5 cp6 (fun k => k < w0.heap.size ∧ ¬ (Ent.own E4 S2 v1 a0).S k) w0 (fun yw yvs yv => ∃ (y0 : Int) (y1 : Int) (yr : Int), yvs = [(.int .i64 y0), (.int .i64 y1)] ∧ a3 y0 y1 = some yr ∧ yv = (.int .i64 yr))) {r : (Unit) × (List Int)} (hm : M.slices_insertionSortCmpFunc_int64_ a0 a1 a2 a3 = some r) :
    Calls Tryz.prog 125 #[v1, (.int .i64 a1), (.int .i64 a2), (.func (.func fk5) #[] cp6.toArray)] w0 fun e w' => ∃ (ioS : Nat → Prop), e = .returned (.tuple #[]) ∧ Mut w0 w' (Ent.own E4 S2 v1 a0).S [Ent.own E4 ioS v1 r.2] := by
 unfold M.slices_insertionSortCmpFunc_int64_ at hm
 refine calls_CW (args := [v1, (.int .i64 a1), (.int .i64 a2), (.func (.func fk5) #[] cp6.toArray)]) Tryz.func125 rfl rfl rfl ?_
 have hL := Hp.startIO he3
 refine CSR ?_
 refine OV (.int .i64 a1) rfl (x_move) ?_
 refine OV (.int .i64 (w64 (a1 + 1))) rfl (x_add rfl rfl) ?_
 refine OV (.int .i64 (w64 (a1 + 1))) rfl (x_assign) ?_
 refine OW.nil ?_
 obtain ⟨o814, ho815, hm⟩ := bndE hm
 refine CW.loopB (fun (s_l1 : (List Int) × Int) (F : Fr) (w : World) => ∃ (S811 : Nat → Prop), F 0 = v1 ∧ F 1 = (.int .i64 a1) ∧ F 2 = (.int .i64 a2) ∧ F 3 = (.func (.func fk5) #[] cp6.toArray) ∧ F 8 = (.int .i64 s_l1.2) ∧ Hp w0 [Ent.own E4 S811 v1 s_l1.1, Ent.frz w0 (Ent.own E4 S2 v1 a0).S] w) (fun o => outc o (fun x => some x) (fun s => M.slices_insertionSortCmpFunc_int64__a1 s) = some r) ho815 hm ⟨S2, rfl, rfl, rfl, rfl, rfl, hL⟩ ?_ ?_
 · intro s_l1 F816 wd817 hJ hm
   have hm := outcE hm
   have hm : M.slices_insertionSortCmpFunc_int64__a1 s_l1 = some r := hm
   unfold M.slices_insertionSortCmpFunc_int64__a1 at hm
   obtain ⟨S811, f818, f819, f820, f821, f822, hL⟩ := hJ
   obtain rfl := Option.some.inj hm
   exact RR0 rfl  ⟨S811, rfl, hL.mutOut 1 rfl [0] (by decide) (by decide) rfl⟩
 intro s_l1 F823 wd824 t812 hJ hm hr813
 unfold M.slices_insertionSortCmpFunc_int64__l1 at hm
 obtain ⟨S811, f825, f826, f827, f828, f829, hL⟩ := hJ
 refine CW.seq ?_
 refine CSR ?_
 refine OV (.int .i64 s_l1.2) rfl (x_mv f829) ?_
 refine OV (.int .i64 a2) rfl (x_mv f827) ?_
 refine OV (.bool (decide (s_l1.2 < a2))) rfl (x_lss rfl rfl) ?_
 refine OW.nil ?_
 refine CW.condM (t := decide (s_l1.2 < a2)) rfl hm (fun hb830 hm => ?_) (fun hb830 hm => ?_)
 · refine CW.skip ?_
   refine CW.seq ?_
   refine CW.block ?_
   refine CSR ?_
   refine OV (.int .i64 s_l1.2) rfl (x_mv f829) ?_
   refine OV (.int .i64 s_l1.2) rfl (x_assign) ?_
   refine OW.nil ?_
   obtain ⟨o1087, ho1088, hm⟩ := bndE hm
   refine CW.loopB (fun (s_l2 : (List Int) × Int) (F : Fr) (w : World) => ∃ (S1084 : Nat → Prop), F 0 = v1 ∧ F 1 = (.int .i64 a1) ∧ F 2 = (.int .i64 a2) ∧ F 3 = (.func (.func fk5) #[] cp6.toArray) ∧ F 8 = (.int .i64 s_l1.2) ∧ F 9 = (.int .i64 s_l2.2) ∧ Hp w0 [Ent.own E4 S1084 v1 s_l2.1, Ent.frz w0 (Ent.own E4 S2 v1 a0).S] w) (fun o => outc o (fun x => some (.ret x)) (fun s => M.slices_insertionSortCmpFunc_int64__a2 s_l1 s) = some t812) ho1088 hm ⟨S811, f825, f826, f827, f828, f829, rfl, hL⟩ ?_ ?_
   · intro s_l2 F1089 wd1090 hJ hm
     have hm := outcE hm
     have hm : M.slices_insertionSortCmpFunc_int64__a2 s_l1 s_l2 = some t812 := hm
     unfold M.slices_insertionSortCmpFunc_int64__a2 at hm
     obtain ⟨S1084, f1091, f1092, f1093, f1094, f1095, f1096, hL⟩ := hJ
     refine CW.regionL ?_
     refine OV (.int .i64 s_l1.2) rfl (x_mv f1095) ?_
     refine OV (.int .i64 (w64 (s_l1.2 + 1))) rfl (x_add rfl rfl) ?_
     refine OV (.int .i64 (w64 (s_l1.2 + 1))) rfl (x_assign) ?_
     refine OW.nil ?_
     obtain rfl := Option.some.inj hm
     exact ⟨_, rfl, ⟨S1084, f1091, f1092, f1093, f1094, rfl, hL⟩⟩
   intro s_l2 F1097 wd1098 t1085 hJ hm hr1086
   unfold M.slices_insertionSortCmpFunc_int64__l2 at hm
   obtain ⟨S1084, f1099, f1100, f1101, f1102, f1103, f1104, hL⟩ := hJ
   refine CW.seq ?_
   refine CW.seqJ (fun (s_j1 : Bool) (F : Fr) (w : World) => F 0 = v1 ∧ F 1 = (.int .i64 a1) ∧ F 2 = (.int .i64 a2) ∧ F 3 = (.func (.func fk5) #[] cp6.toArray) ∧ F 8 = (.int .i64 s_l1.2) ∧ F 9 = (.int .i64 s_l2.2) ∧ F 34 = (.bool s_j1) ∧ Hp w0 [Ent.own E4 S1084 v1 s_l2.1, Ent.frz w0 (Ent.own E4 S2 v1 a0).S] w) (fun s_j1 => M.slices_insertionSortCmpFunc_int64__j1 s_l2 s_j1 = some t1085) ?_ ?_
   · refine CW.draw Tryz_mixed ?_
     have hL := hL.call (Mod.drew _)
     refine DW.pre (fuel := 0) (fin := bma 17 131071) (C := fun w' => Mod None_ _ w') [0, 1, 2, 3, 4, 5, 6, 7, 8, 9, 10, 11, 12, 13, 14, 15, 16] (Mod.refl _ _) (by kernel_rfl) (by kernel_rfl) ?_
     refine QW.cons rfl (QP.val (v := (.int .i64 s_l2.2)) rfl (fun w' hm' => x_mv f1104) ?_)
     refine QW.cons rfl (QP.val (v := (.int .i64 a1)) rfl (fun w' hm' => x_mv f1100) ?_)
     refine QW.cons rfl (QP.val (v := (.bool (decide (a1 < s_l2.2)))) rfl (fun w' hm' => x_gtr rfl rfl) ?_)
     refine QW.cons rfl (QP.val (v := (.bool (decide (a1 < s_l2.2)))) rfl (fun w' hm' => x_move) ?_)
     refine ifB_elim hm (fun hb1212 hm => ?_) (fun hb1212 hm => ?_)
     · refine QW.cons rfl (QP.yes' rfl rfl hb1212 (QP.val (v := (.func (.func fk5) #[] cp6.toArray)) rfl (fun w' hm' => x_mv f1102) ?_))
       refine QW.cons rfl (QP.yes' rfl rfl hb1212 (QP.val (v := v1) rfl (fun w' hm' => x_mv f1099) ?_))
       refine QW.cons rfl (QP.yes' rfl rfl hb1212 (QP.val (v := (.int .i64 s_l2.2)) rfl (fun w' hm' => x_mv f1104) ?_))
       obtain ⟨x1213, ha1214, hm⟩ := bndE hm
       obtain ⟨hz1215, ha1219⟩ := idxE ha1214
       obtain ⟨b1216, q1217, hix1218⟩ := rdL_ix (hL.rdO 0 rfl) hz1215 ha1219
       refine QW.cons rfl (QP.yes' rfl rfl hb1212 (QP.val (v := (.pointer (some ⟨b1216, q1217, none⟩))) rfl (fun w' hm' => x_ix U27 Tryz_T2 rfl rfl hix1218) ?_))
       refine QW.cons rfl (QP.yes' rfl rfl hb1212 (QP.val (v := (.int .i64 x1213)) rfl (fun w' hm' => x_load1 U2 rfl rfl (rdF_cells ((hL.call hm').rdO 0 rfl) hix1218 ha1219 0 _ rfl)) ?_))
       refine QW.cons rfl (QP.yes' rfl rfl hb1212 (QP.val (v := v1) rfl (fun w' hm' => x_mv f1099) ?_))
       refine QW.cons rfl (QP.yes' rfl rfl hb1212 (QP.val (v := (.int .i64 s_l2.2)) rfl (fun w' hm' => x_mv f1104) ?_))
       refine QW.cons rfl (QP.yes' rfl rfl hb1212 (QP.val (v := (.int .i64 (w64 (s_l2.2 - 1)))) rfl (fun w' hm' => x_sub rfl rfl) ?_))
       obtain ⟨x1220, ha1221, hm⟩ := bndE hm
       obtain ⟨hz1222, ha1226⟩ := idxE ha1221
       obtain ⟨b1223, q1224, hix1225⟩ := rdL_ix (hL.rdO 0 rfl) hz1222 ha1226
       refine QW.cons rfl (QP.yes' rfl rfl hb1212 (QP.val (v := (.pointer (some ⟨b1223, q1224, none⟩))) rfl (fun w' hm' => x_ix U27 Tryz_T2 rfl rfl hix1225) ?_))
       refine QW.cons rfl (QP.yes' rfl rfl hb1212 (QP.val (v := (.int .i64 x1220)) rfl (fun w' hm' => x_load1 U2 rfl rfl (rdF_cells ((hL.call hm').rdO 0 rfl) hix1225 ha1226 0 _ rfl)) ?_))
       obtain ⟨x1227, hx1228, hm⟩ := bndE hm
       refine QW.cons rfl (QP.yes' rfl rfl hb1212 (QP.call (v := (.int .i64 x1227)) rfl (fun w' hm' => x_callV (vs := [(.int .i64 x1213), (.int .i64 x1220)]) (cap := cp6) hq7.1 rfl ⟨rfl, rfl, trivial⟩) (fun w' hm' => (hq7.2 w' ((hL.call hm').agZ 1 rfl) [(.int .i64 x1213), (.int .i64 x1220)] _ ⟨x1213, x1220, x1227, rfl, hx1228, rfl⟩).mono (fun e w'' h => ⟨h.1, hm'.trans h.2.mod⟩)) ?_))
       refine QW.cons rfl (QP.yes' rfl rfl hb1212 (QP.val (v := (.bool (decide (x1227 < 0)))) rfl (fun w' hm' => x_lss rfl rfl) ?_))
       refine QW.cons rfl (QP.val (v := (.bool (decide (x1227 < 0)))) rfl (fun w' hm' => x_pickT' rfl hb1212 rfl) ?_)
       refine QW.nil ?_
       intro wd1229 hmod
       have hL := hL.call hmod
       refine DW.done (by kernel_rfl) ?_
       exact ⟨decide (x1227 < 0), hm, ⟨f1099, f1100, f1101, f1102, f1103, f1104, rfl, hL⟩⟩
     refine QW.cons rfl (QP.no' rfl rfl hb1212 rfl ?_)
     refine QW.cons rfl (QP.no' rfl rfl hb1212 rfl ?_)
     refine QW.cons rfl (QP.no' rfl rfl hb1212 rfl ?_)
     refine QW.cons rfl (QP.no' rfl rfl hb1212 rfl ?_)
     refine QW.cons rfl (QP.no' rfl rfl hb1212 rfl ?_)
     refine QW.cons rfl (QP.no' rfl rfl hb1212 rfl ?_)
     refine QW.cons rfl (QP.no' rfl rfl hb1212 rfl ?_)
     refine QW.cons rfl (QP.no' rfl rfl hb1212 rfl ?_)
     refine QW.cons rfl (QP.no' rfl rfl hb1212 rfl ?_)
     refine QW.cons rfl (QP.no' rfl rfl hb1212 rfl ?_)
     refine QW.cons rfl (QP.no' rfl rfl hb1212 rfl ?_)
     refine QW.cons rfl (QP.no' rfl rfl hb1212 rfl ?_)
     refine QW.cons rfl (QP.val (v := (.bool false)) rfl (fun w' hm' => x_pickF' rfl hb1212 rfl) ?_)
     refine QW.nil ?_
     intro wd1230 hmod
     have hL := hL.call hmod
     refine DW.done (by kernel_rfl) ?_
     exact ⟨false, hm, ⟨f1099, f1100, f1101, f1102, f1103, f1104, rfl, hL⟩⟩
   intro s_j1 F1124 wd1125 hJ hm
   unfold M.slices_insertionSortCmpFunc_int64__j1 at hm
   obtain ⟨f1126, f1127, f1128, f1129, f1130, f1131, f1132, hL⟩ := hJ
   refine CW.condM (t := s_j1) f1132 hm (fun hb1133 hm => ?_) (fun hb1133 hm => ?_)
   · refine CW.skip ?_
     refine CW.seq ?_
     refine CW.block ?_
     refine CW.drawH (fun w' => Hp w0 [Ent.frz w0 (Ent.own E4 S2 v1 a0).S] w') Tryz_mixed ?_
     have hL := hL.call (Mod.drew _)
     have hS := (hL.sel [1] (by decide) rfl)
     refine DH.take 0 rfl (by kernel_rfl) (by kernel_rfl) (by kernel_rfl) rfl rfl hS (YH.val (v := v1) (fun w' hS' => x_mv f1126)) ?_
     have hS := (hL.sel [1] (by decide) rfl)
     refine DH.take 1 rfl (by kernel_rfl) (by kernel_rfl) (by kernel_rfl) rfl rfl hS (YH.val (v := (.int .i64 s_l2.2)) (fun w' hS' => x_mv f1131)) ?_
     have hS := (hL.sel [1] (by decide) rfl)
     refine DH.take 2 rfl (by kernel_rfl) (by kernel_rfl) (by kernel_rfl) rfl rfl hS (YH.val (v := v1) (fun w' hS' => x_mv f1126)) ?_
     have hS := (hL.sel [1] (by decide) rfl)
     refine DH.take 3 rfl (by kernel_rfl) (by kernel_rfl) (by kernel_rfl) rfl rfl hS (YH.val (v := (.int .i64 s_l2.2)) (fun w' hS' => x_mv f1131)) ?_
     have hS := (hL.sel [1] (by decide) rfl)
     refine DH.take 4 rfl (by kernel_rfl) (by kernel_rfl) (by kernel_rfl) rfl rfl hS (YH.val (v := (.int .i64 (w64 (s_l2.2 - 1)))) (fun w' hS' => x_sub rfl rfl)) ?_
     have hS := (hL.sel [1] (by decide) rfl)
     refine DH.take 5 rfl (by kernel_rfl) (by kernel_rfl) (by kernel_rfl) rfl rfl hS (YH.val (v := v1) (fun w' hS' => x_mv f1126)) ?_
     have hS := (hL.sel [1] (by decide) rfl)
     refine DH.take 6 rfl (by kernel_rfl) (by kernel_rfl) (by kernel_rfl) rfl rfl hS (YH.val (v := (.int .i64 s_l2.2)) (fun w' hS' => x_mv f1131)) ?_
     have hS := (hL.sel [1] (by decide) rfl)
     refine DH.take 7 rfl (by kernel_rfl) (by kernel_rfl) (by kernel_rfl) rfl rfl hS (YH.val (v := (.int .i64 (w64 (s_l2.2 - 1)))) (fun w' hS' => x_sub rfl rfl)) ?_
     have hS := (hL.sel [1] (by decide) rfl)
     obtain ⟨x1164, ha1165, hm⟩ := bndE hm
     obtain ⟨hz1166, ha1170⟩ := idxE ha1165
     obtain ⟨b1167, q1168, hix1169⟩ := rdL_ix (hL.rdO 0 rfl) hz1166 ha1170
     refine DH.take 8 rfl (by kernel_rfl) (by kernel_rfl) (by kernel_rfl) rfl rfl hS (YH.val (v := (.pointer (some ⟨b1167, q1168, none⟩))) (fun w' hS' => x_ix U27 Tryz_T2 rfl rfl hix1169)) ?_
     have hS := (hL.sel [1] (by decide) rfl)
     refine DH.take 10 rfl (by kernel_rfl) (by kernel_rfl) (by kernel_rfl) rfl rfl hS (YH.val (v := v1) (fun w' hS' => x_mv f1126)) ?_
     have hS := (hL.sel [1] (by decide) rfl)
     refine DH.take 11 rfl (by kernel_rfl) (by kernel_rfl) (by kernel_rfl) rfl rfl hS (YH.val (v := (.int .i64 s_l2.2)) (fun w' hS' => x_mv f1131)) ?_
     have hS := (hL.sel [1] (by decide) rfl)
     obtain ⟨x1171, ha1172, hm⟩ := bndE hm
     obtain ⟨hz1173, ha1177⟩ := idxE ha1172
     obtain ⟨b1174, q1175, hix1176⟩ := rdL_ix (hL.rdO 0 rfl) hz1173 ha1177
     refine DH.take 12 rfl (by kernel_rfl) (by kernel_rfl) (by kernel_rfl) rfl rfl hS (YH.val (v := (.pointer (some ⟨b1174, q1175, none⟩))) (fun w' hS' => x_ix U27 Tryz_T2 rfl rfl hix1176)) ?_
     refine DH.all (rs := [9, 13]) (by kernel_rfl) (by simp) ?_
     intro i1178 hi1179
     simp only [List.mem_cons, List.not_mem_nil, or_false] at hi1179
     rcases hi1179 with rfl | rfl
     · refine ⟨_, rfl, ?_⟩
       refine OP.val (v := (.int .i64 x1164)) rfl (x_load1 U2 rfl rfl (rdF_cells (hL.rdO 0 rfl) hix1169 ha1170 0 _ rfl)) ?_
       refine ⟨(hL.sel [1] (by decide) rfl), ?_⟩
       refine DH.only 13 rfl (by kernel_rfl) (OP.val (v := (.int .i64 x1171)) rfl (x_load1 U2 rfl rfl (rdF_cells (hL.rdO 0 rfl) hix1176 ha1177 0 _ rfl)) ?_)
       refine ⟨(hL.sel [1] (by decide) rfl), ?_⟩
       have hS := (hL.sel [1] (by decide) rfl)
       obtain ⟨x1180, ha1181, hm⟩ := bndE hm
       obtain ⟨hz1182, ha1186⟩ := idxE ha1181
       obtain ⟨b1183, q1184, hix1185⟩ := rdL_ix (hL.rdO 0 rfl) hz1182 ha1186
       refine DH.take 14 rfl (by kernel_rfl) (by kernel_rfl) (by kernel_rfl) rfl rfl hS (YH.val (v := (.pointer (some ⟨b1183, q1184, none⟩))) (fun w' hS' => x_ix U27 Tryz_T2 rfl rfl hix1185)) ?_
       refine DH.only 15 rfl (by kernel_rfl) (S_storeX (j := 0) x1164 hL 0 rfl Tryz_T2 hix1185 ha1186 rfl rfl rfl rfl rfl rfl ?_)
       intro wd1187 hL
       refine ⟨(hL.sel [1] (by decide) rfl), ?_⟩
       have hS := (hL.sel [1] (by decide) rfl)
       obtain ⟨x1188, ha1189, hm⟩ := bndE hm
       obtain ⟨hz1190, ha1194⟩ := idxE ha1189
       obtain ⟨b1191, q1192, hix1193⟩ := rdL_ix (hL.rdO 0 rfl) hz1190 ha1194
       refine DH.take 16 rfl (by kernel_rfl) (by kernel_rfl) (by kernel_rfl) rfl rfl hS (YH.val (v := (.pointer (some ⟨b1191, q1192, none⟩))) (fun w' hS' => x_ix U27 Tryz_T2 rfl rfl hix1193)) ?_
       refine DH.only 17 rfl (by kernel_rfl) (S_storeX (j := 0) x1171 hL 0 rfl Tryz_T2 hix1193 ha1194 rfl rfl rfl rfl rfl rfl ?_)
       intro wd1195 hL
       refine ⟨(hL.sel [1] (by decide) rfl), ?_⟩
       refine DH.done (by kernel_rfl) ?_
       refine CW.regionL ?_
       refine OV (.int .i64 s_l2.2) rfl (x_mv f1131) ?_
       refine OV (.int .i64 (w64 (s_l2.2 - 1))) rfl (x_sub rfl rfl) ?_
       refine OV (.int .i64 (w64 (s_l2.2 - 1))) rfl (x_assign) ?_
       refine OW.nil ?_
       obtain rfl := Option.some.inj hm
       exact ⟨_, rfl, ⟨S1084, f1126, f1127, f1128, f1129, f1130, rfl, hL⟩⟩
     refine ⟨_, rfl, ?_⟩
     refine OP.val (v := (.int .i64 x1171)) rfl (x_load1 U2 rfl rfl (rdF_cells (hL.rdO 0 rfl) hix1176 ha1177 0 _ rfl)) ?_
     refine ⟨(hL.sel [1] (by decide) rfl), ?_⟩
     refine DH.only 9 rfl (by kernel_rfl) (OP.val (v := (.int .i64 x1164)) rfl (x_load1 U2 rfl rfl (rdF_cells (hL.rdO 0 rfl) hix1169 ha1170 0 _ rfl)) ?_)
     refine ⟨(hL.sel [1] (by decide) rfl), ?_⟩
     have hS := (hL.sel [1] (by decide) rfl)
     obtain ⟨x1196, ha1197, hm⟩ := bndE hm
     obtain ⟨hz1198, ha1202⟩ := idxE ha1197
     obtain ⟨b1199, q1200, hix1201⟩ := rdL_ix (hL.rdO 0 rfl) hz1198 ha1202
     refine DH.take 14 rfl (by kernel_rfl) (by kernel_rfl) (by kernel_rfl) rfl rfl hS (YH.val (v := (.pointer (some ⟨b1199, q1200, none⟩))) (fun w' hS' => x_ix U27 Tryz_T2 rfl rfl hix1201)) ?_
     refine DH.only 15 rfl (by kernel_rfl) (S_storeX (j := 0) x1164 hL 0 rfl Tryz_T2 hix1201 ha1202 rfl rfl rfl rfl rfl rfl ?_)
     intro wd1203 hL
     refine ⟨(hL.sel [1] (by decide) rfl), ?_⟩
     have hS := (hL.sel [1] (by decide) rfl)
     obtain ⟨x1204, ha1205, hm⟩ := bndE hm
     obtain ⟨hz1206, ha1210⟩ := idxE ha1205
     obtain ⟨b1207, q1208, hix1209⟩ := rdL_ix (hL.rdO 0 rfl) hz1206 ha1210
     refine DH.take 16 rfl (by kernel_rfl) (by kernel_rfl) (by kernel_rfl) rfl rfl hS (YH.val (v := (.pointer (some ⟨b1207, q1208, none⟩))) (fun w' hS' => x_ix U27 Tryz_T2 rfl rfl hix1209)) ?_
     refine DH.only 17 rfl (by kernel_rfl) (S_storeX (j := 0) x1171 hL 0 rfl Tryz_T2 hix1209 ha1210 rfl rfl rfl rfl rfl rfl ?_)
     intro wd1211 hL
     refine ⟨(hL.sel [1] (by decide) rfl), ?_⟩
     refine DH.done (by kernel_rfl) ?_
     refine CW.regionL ?_
     refine OV (.int .i64 s_l2.2) rfl (x_mv f1131) ?_
     refine OV (.int .i64 (w64 (s_l2.2 - 1))) rfl (x_sub rfl rfl) ?_
     refine OV (.int .i64 (w64 (s_l2.2 - 1))) rfl (x_assign) ?_
     refine OW.nil ?_
     obtain rfl := Option.some.inj hm
     exact ⟨_, rfl, ⟨S1084, f1126, f1127, f1128, f1129, f1130, rfl, hL⟩⟩
   refine CW.exit ?_
   refine XJ.hit ?_
   obtain rfl := Option.some.inj hm
   exact ⟨_, rfl, ⟨S1084, f1126, f1127, f1128, f1129, f1130, f1131, hL⟩⟩
 refine CW.exit ?_
 refine XJ.hit ?_
 obtain rfl := Option.some.inj hm
 exact ⟨_, rfl, ⟨S811, f825, f826, f827, f828, f829, hL⟩⟩

theorem M.slices_stableCmpFunc_int64__ok (w0 : World) {E4 : TypeId} {S2 : Nat → Prop} {v1 : Value} (a0 : List Int) (he3 : (Ent.own E4 S2 v1 a0).H w0) (a1 : Int) (a2 : Int → Int → Option Int) {fk5 : FuncId} {cp6 : List Value} (hq7 : FnQ Tryz.prog fk5 cp6 (fun k => k < w0.heap.size ∧ ¬ (Ent.own E4 S2 v1 a0).S k) w0 (fun yw yvs yv => ∃ (y0 : Int) (y1 : Int) (yr : Int), yvs = [(.int .i64 y0), (.int .i64 y1)] ∧ a2 y0 y1 = some yr ∧ yv = (.int .i64 yr))) {r : (Unit) × (List Int)} (hm : M.slices_stableCmpFunc_int64_ a0 a1 a2 = some r) :
    Calls Tryz.prog 113 #[v1, (.int .i64 a1), (.func (.func fk5) #[] cp6.toArray)] w0 fun e w' => ∃ (ioS : Nat → Prop), e = .returned (.tuple #[]) ∧ Mut w0 w' (Ent.own E4 S2 v1 a0).S [Ent.own E4 ioS v1 r.2] := by
 unfold M.slices_stableCmpFunc_int64_ at hm
 refine calls_CW (args := [v1, (.int .i64 a1), (.func (.func fk5) #[] cp6.toArray)]) Tryz.func113 rfl rfl rfl ?_
 have hL := Hp.startIO he3
 refine CSR ?_
 refine OV (.int .i64 20) rfl (x_assign) ?_
 refine ONR ?_
 refine OV (.int .i64 20) rfl (x_move) ?_
 refine OV (.int .i64 0) rfl (x_assign) ?_
 refine OV (.int .i64 20) rfl (x_assign) ?_
 refine ONS ?_
 obtain ⟨o26, ho27, hm⟩ := bndE hm
 refine CW.loopB (fun (s_l1 : (List Int) × Int × Int) (F : Fr) (w : World) => ∃ (S23 : Nat → Prop), F 0 = v1 ∧ F 1 = (.int .i64 a1) ∧ F 2 = (.func (.func fk5) #[] cp6.toArray) ∧ F 6 = (.int .i64 20) ∧ F 7 = (.int .i64 s_l1.2.1) ∧ F 8 = (.int .i64 s_l1.2.2) ∧ Hp w0 [Ent.own E4 S23 v1 s_l1.1, Ent.frz w0 (Ent.own E4 S2 v1 a0).S] w) (fun o => outc o (fun x => some x) (fun s => M.slices_stableCmpFunc_int64__a1 a1 a2 s) = some r) ho27 hm ⟨S2, rfl, rfl, rfl, rfl, rfl, rfl, hL⟩ ?_ ?_
 · intro s_l1 F28 wd29 hJ hm
   have hm := outcE hm
   have hm : M.slices_stableCmpFunc_int64__a1 a1 a2 s_l1 = some r := hm
   unfold M.slices_stableCmpFunc_int64__a1 at hm
   obtain ⟨S23, f30, f31, f32, f33, f34, f35, hL⟩ := hJ
   refine CSR ?_
   refine OV v1 rfl (x_mv f30) ?_
   refine OV (.int .i64 s_l1.2.1) rfl (x_mv f34) ?_
   refine OV (.int .i64 a1) rfl (x_mv f31) ?_
   refine OV (.func (.func fk5) #[] cp6.toArray) rfl (x_mv f32) ?_
   obtain ⟨x36, hx37, hm⟩ := bndE hm
   refine OW.cons (OP.call rfl (x_call (vs := [v1, (.int .i64 s_l1.2.1), (.int .i64 a1), (.func (.func fk5) #[] cp6.toArray)]) Tryz_C125 ⟨rfl, rfl, rfl, rfl, trivial⟩) (M.slices_insertionSortCmpFunc_int64__ok _ s_l1.1 (hL.get 0 rfl) s_l1.2.1 a1 a2 (hL.fnZX 1 0 (by decide) rfl rfl hq7) hx37) ?_)
   rintro e38 wd39 ⟨S41, rfl, hF40⟩
   refine ⟨_, rfl, ?_⟩
   have hL := hL.mut 0 rfl hF40
   simp only [lA, lB, lC, lD] at hL
   refine OW.nil ?_
   obtain ⟨o106, ho107, hm⟩ := bndE hm
   refine CW.loopB (fun (s_l2 : Int) (F : Fr) (w : World) => F 0 = v1 ∧ F 1 = (.int .i64 a1) ∧ F 2 = (.func (.func fk5) #[] cp6.toArray) ∧ F 6 = (.int .i64 s_l2) ∧ Hp w0 [Ent.own E4 S41 v1 x36.2, Ent.frz w0 (Ent.own E4 S2 v1 a0).S] w) (fun o => outc o (fun x => some x) (fun s => M.slices_stableCmpFunc_int64__a2 x36 s) = some r) ho107 hm ⟨f30, f31, f32, f33, hL⟩ ?_ ?_
   · intro s_l2 F108 wd109 hJ hm
     have hm := outcE hm
     have hm : M.slices_stableCmpFunc_int64__a2 x36 s_l2 = some r := hm
     unfold M.slices_stableCmpFunc_int64__a2 at hm
     obtain ⟨f110, f111, f112, f113, hL⟩ := hJ
     obtain rfl := Option.some.inj hm
     exact RR0 rfl  ⟨S41, rfl, hL.mutOut 1 rfl [0] (by decide) (by decide) rfl⟩
   intro s_l2 F114 wd115 t104 hJ hm hr105
   unfold M.slices_stableCmpFunc_int64__l2 at hm
   obtain ⟨f116, f117, f118, f119, hL⟩ := hJ
   refine CW.seq ?_
   refine CSR ?_
   refine OV (.int .i64 s_l2) rfl (x_mv f119) ?_
   refine OV (.int .i64 a1) rfl (x_mv f117) ?_
   refine OV (.bool (decide (s_l2 < a1))) rfl (x_lss rfl rfl) ?_
   refine OW.nil ?_
   refine CW.condM (t := decide (s_l2 < a1)) rfl hm (fun hb120 hm => ?_) (fun hb120 hm => ?_)
   · refine CW.skip ?_
     refine CW.block ?_
     refine CSR ?_
     refine OV (.int .i64 s_l2) rfl (x_mv f119) ?_
     refine OV (.int .i64 (w64 (2 * s_l2))) rfl (x_mul rfl rfl) ?_
     refine OV (.int .i64 0) rfl (x_assign) ?_
     refine OV (.int .i64 (w64 (2 * s_l2))) rfl (x_assign) ?_
     refine ONS ?_
     obtain ⟨o124, ho125, hm⟩ := bndE hm
     refine CW.loopB (fun (s_l3 : Unit) (F : Fr) (w : World) => F 0 = v1 ∧ F 1 = (.int .i64 a1) ∧ F 2 = (.func (.func fk5) #[] cp6.toArray) ∧ F 6 = (.int .i64 s_l2) ∧ F 7 = (.int .i64 0) ∧ F 8 = (.int .i64 (w64 (2 * s_l2))) ∧ Hp w0 [Ent.own E4 S41 v1 x36.2, Ent.frz w0 (Ent.own E4 S2 v1 a0).S] w) (fun o => outc o (fun x => some (.ret x)) (fun s => M.slices_stableCmpFunc_int64__a3 a1 s_l2 s) = some t104) ho125 hm ⟨f116, f117, f118, f119, rfl, rfl, hL⟩ ?_ ?_
     · intro s_l3 F126 wd127 hJ hm
       have hm := outcE hm
       have hm : M.slices_stableCmpFunc_int64__a3 a1 s_l2 s_l3 = some t104 := hm
       unfold M.slices_stableCmpFunc_int64__a3 at hm
       obtain ⟨f128, f129, f130, f131, f132, f133, hL⟩ := hJ
       refine CW.seqJ (fun (s_j1 : Unit) (F : Fr) (w : World) => F 0 = v1 ∧ F 1 = (.int .i64 a1) ∧ F 2 = (.func (.func fk5) #[] cp6.toArray) ∧ F 6 = (.int .i64 s_l2) ∧ Hp w0 [Ent.own E4 S41 v1 x36.2, Ent.frz w0 (Ent.own E4 S2 v1 a0).S] w) (fun s_j1 => M.slices_stableCmpFunc_int64__j1 s_l2 s_j1 = some t104) ?_ ?_
       · refine CSR ?_
         refine OV (.int .i64 0) rfl (x_mv f132) ?_
         refine OV (.int .i64 s_l2) rfl (x_mv f131) ?_
         refine OV (.int .i64 (w64 (0 + s_l2))) rfl (x_add rfl rfl) ?_
         refine OV (.int .i64 (w64 (0 + s_l2))) rfl (x_assign) ?_
         refine ONR ?_
         refine OV (.int .i64 (w64 (0 + s_l2))) rfl (x_move) ?_
         refine OV (.int .i64 a1) rfl (x_mv f129) ?_
         refine OV (.bool (decide ((w64 (0 + s_l2)) < a1))) rfl (x_lss rfl rfl) ?_
         refine OW.nil ?_
         refine CW.condM (t := decide ((w64 (0 + s_l2)) < a1)) rfl hm (fun hb141 hm => ?_) (fun hb141 hm => ?_)
         · refine CW.regionL ?_
           refine OV v1 rfl (x_mv f128) ?_
           refine OV (.int .i64 0) rfl (x_mv f132) ?_
           refine OV (.int .i64 (w64 (0 + s_l2))) rfl (x_move) ?_
           refine OV (.int .i64 a1) rfl (x_mv f129) ?_
           refine OV (.func (.func fk5) #[] cp6.toArray) rfl (x_mv f130) ?_
           exact nomatch hm
         refine CW.skip ?_
         exact ⟨(), hm, ⟨f128, f129, f130, f131, hL⟩⟩
       intro s_j1 F135 wd136 hJ hm
       unfold M.slices_stableCmpFunc_int64__j1 at hm
       obtain ⟨f137, f138, f139, f140, hL⟩ := hJ
       refine CW.regionL ?_
       refine OV (.int .i64 s_l2) rfl (x_mv f140) ?_
       refine OV (.int .i64 (w64 (s_l2 * 2))) rfl (x_mul rfl rfl) ?_
       refine OV (.int .i64 (w64 (s_l2 * 2))) rfl (x_assign) ?_
       refine OW.nil ?_
       obtain rfl := Option.some.inj hm
       exact ⟨_, rfl, ⟨f137, f138, f139, rfl, hL⟩⟩
     intro s_l3 F142 wd143 t122 hJ hm hr123
     unfold M.slices_stableCmpFunc_int64__l3 at hm
     obtain ⟨f144, f145, f146, f147, f148, f149, hL⟩ := hJ
     refine CW.seq ?_
     refine CSR ?_
     refine OV (.int .i64 (w64 (2 * s_l2))) rfl (x_mv f149) ?_
     refine OV (.int .i64 a1) rfl (x_mv f145) ?_
     refine OV (.bool (decide ((w64 (2 * s_l2)) ≤ a1))) rfl (x_leq rfl rfl) ?_
     refine OW.nil ?_
     refine CW.condM (t := decide ((w64 (2 * s_l2)) ≤ a1)) rfl hm (fun hb150 hm => ?_) (fun hb150 hm => ?_)
     · refine CW.skip ?_
       refine CW.block ?_
       refine CSR ?_
       refine OV v1 rfl (x_mv f144) ?_
       refine OV (.int .i64 0) rfl (x_mv f148) ?_
       refine OV (.int .i64 0) rfl (x_mv f148) ?_
       refine OV (.int .i64 s_l2) rfl (x_mv f147) ?_
       refine OV (.int .i64 (w64 (0 + s_l2))) rfl (x_add rfl rfl) ?_
       refine OV (.int .i64 (w64 (2 * s_l2))) rfl (x_mv f149) ?_
       refine OV (.func (.func fk5) #[] cp6.toArray) rfl (x_mv f146) ?_
       exact nomatch hm
     refine CW.exit ?_
     refine XJ.hit ?_
     obtain rfl := Option.some.inj hm
     exact ⟨_, rfl, ⟨f144, f145, f146, f147, f148, f149, hL⟩⟩
   refine CW.exit ?_
   refine XJ.hit ?_
   obtain rfl := Option.some.inj hm
   exact ⟨_, rfl, ⟨f116, f117, f118, f119, hL⟩⟩
 intro s_l1 F151 wd152 t24 hJ hm hr25
 unfold M.slices_stableCmpFunc_int64__l1 at hm
 obtain ⟨S23, f153, f154, f155, f156, f157, f158, hL⟩ := hJ
 refine CW.seq ?_
 refine CSR ?_
 refine OV (.int .i64 s_l1.2.2) rfl (x_mv f158) ?_
 refine OV (.int .i64 a1) rfl (x_mv f154) ?_
 refine OV (.bool (decide (s_l1.2.2 ≤ a1))) rfl (x_leq rfl rfl) ?_
 refine OW.nil ?_
 refine CW.condM (t := decide (s_l1.2.2 ≤ a1)) rfl hm (fun hb159 hm => ?_) (fun hb159 hm => ?_)
 · refine CW.skip ?_
   refine CW.block ?_
   refine CSR ?_
   refine OV v1 rfl (x_mv f153) ?_
   refine OV (.int .i64 s_l1.2.1) rfl (x_mv f157) ?_
   refine OV (.int .i64 s_l1.2.2) rfl (x_mv f158) ?_
   refine OV (.func (.func fk5) #[] cp6.toArray) rfl (x_mv f155) ?_
   obtain ⟨x160, hx161, hm⟩ := bndE hm
   refine OW.cons (OP.call rfl (x_call (vs := [v1, (.int .i64 s_l1.2.1), (.int .i64 s_l1.2.2), (.func (.func fk5) #[] cp6.toArray)]) Tryz_C125 ⟨rfl, rfl, rfl, rfl, trivial⟩) (M.slices_insertionSortCmpFunc_int64__ok _ s_l1.1 (hL.get 0 rfl) s_l1.2.1 s_l1.2.2 a2 (hL.fnZX 1 0 (by decide) rfl rfl hq7) hx161) ?_)
   rintro e162 wd163 ⟨S165, rfl, hF164⟩
   refine ⟨_, rfl, ?_⟩
   have hL := hL.mut 0 rfl hF164
   simp only [lA, lB, lC, lD] at hL
   refine ONR ?_
   refine OV (.int .i64 s_l1.2.2) rfl (x_mv f158) ?_
   refine OV (.int .i64 s_l1.2.2) rfl (x_assign) ?_
   refine OW.nil ?_
   refine CW.regionL ?_
   refine OV (.int .i64 s_l1.2.2) rfl (x_mv f158) ?_
   refine OV (.int .i64 20) rfl (x_mv f156) ?_
   refine OV (.int .i64 (w64 (s_l1.2.2 + 20))) rfl (x_add rfl rfl) ?_
   refine OV (.int .i64 (w64 (s_l1.2.2 + 20))) rfl (x_assign) ?_
   refine OW.nil ?_
   obtain rfl := Option.some.inj hm
   exact ⟨_, rfl, ⟨S165, f153, f154, f155, f156, rfl, rfl, hL⟩⟩
 refine CW.exit ?_
 refine XJ.hit ?_
 obtain rfl := Option.some.inj hm
 exact ⟨_, rfl, ⟨S23, f153, f154, f155, f156, f157, f158, hL⟩⟩

theorem M.slices_SortStableFunc___int64_int64__ok (w0 : World) {E4 : TypeId} {S2 : Nat → Prop} {v1 : Value} (a0 : List Int) (he3 : (Ent.own E4 S2 v1 a0).H w0) (a1 : Int → Int → Option Int) {fk5 : FuncId} {cp6 : List Value} (hq7 : FnQ Tryz.prog fk5 cp6 (fun k => k < w0.heap.size ∧ ¬ (Ent.own E4 S2 v1 a0).S k) w0 (fun yw yvs yv => ∃ (y0 : Int) (y1 : Int) (yr : Int), yvs = [(.int .i64 y0), (.int .i64 y1)] ∧ a1 y0 y1 = some yr ∧ yv = (.int .i64 yr))) {r : (Unit) × (List Int)} (hm : M.slices_SortStableFunc___int64_int64_ a0 a1 = some r) :
    Calls Tryz.prog 94 #[v1, (.func (.func fk5) #[] cp6.toArray)] w0 fun e w' => ∃ (ioS : Nat → Prop), e = .returned (.tuple #[]) ∧ Mut w0 w' (Ent.own E4 S2 v1 a0).S [Ent.own E4 ioS v1 r.2] := by
 unfold M.slices_SortStableFunc___int64_int64_ at hm
 refine calls_CW (args := [v1, (.func (.func fk5) #[] cp6.toArray)]) Tryz.func94 rfl rfl rfl ?_
 have hL := Hp.startIO he3
 refine CW.regionL ?_
 refine OV v1 rfl (x_move) ?_
 refine OV v1 rfl (x_move) ?_
 refine OV (.int .i64 (a0.length : Int)) rfl (x_lenR U27 rfl (hL.rdO 0 rfl)) ?_
 refine OV (.func (.func fk5) #[] cp6.toArray) rfl (x_move) ?_
 obtain ⟨x8, hx9, hm⟩ := bndE hm
 refine OW.cons (OP.call rfl (x_call (vs := [v1, (.int .i64 (a0.length : Int)), (.func (.func fk5) #[] cp6.toArray)]) Tryz_C113 ⟨rfl, rfl, rfl, trivial⟩) (M.slices_stableCmpFunc_int64__ok _ a0 (hL.get 0 rfl) (a0.length : Int) a1 (hL.fnZX 1 0 (by decide) rfl rfl hq7) hx9) ?_)
 rintro e10 wd11 ⟨S13, rfl, hF12⟩
 refine ⟨_, rfl, ?_⟩
 have hL := hL.mut 0 rfl hF12
 simp only [lA, lB, lC, lD] at hL
 refine OW.nil ?_
 obtain rfl := Option.some.inj hm
 exact RR0 rfl  ⟨S13, rfl, hL.mutOut 1 rfl [0] (by decide) (by decide) rfl⟩

theorem M.impl_sortedIndices_ok (w0 : World) (a0 : Int) (a1 : Int → Int → Option Int) {fk1 : FuncId} {cp2 : List Value} (hq3 : FnQ Tryz.prog fk1 cp2 (· < w0.heap.size) w0 (fun yw yvs yv => ∃ (y0 : Int) (y1 : Int) (yr : Int), yvs = [(.int .i64 y0), (.int .i64 y1)] ∧ a1 y0 y1 = some yr ∧ yv = (.int .i64 yr))) {r : (List Int)} (hm : M.impl_sortedIndices a0 a1 = some r) :
    Calls Tryz.prog 62 #[(.int .i64 a0), (.func (.func fk1) #[] cp2.toArray)] w0 fun e w' => ∃ (rv0 : Value) (rS0 : Nat → Prop), e = .returned rv0 ∧ Fresh w0 w' [Ent.own 2 rS0 rv0 r] := by
 unfold M.impl_sortedIndices at hm
 refine calls_CW (args := [(.int .i64 a0), (.func (.func fk1) #[] cp2.toArray)]) Tryz.func62 rfl rfl rfl ?_
 have hL := Hp.start w0
 refine CSR ?_
 refine OW.cons (S_box (cs := #[(.func (.func fk1) #[] cp2.toArray)]) hL rfl rfl rfl ?_)
 intro wd4 b5 hL
 refine OV (.slice none 0 0) rfl (x_assign) ?_
 refine ONR ?_
 refine OW.cons (S_lit ([] : List Int) hL U27 Tryz_T2 rfl (by decide) (by first | (simp [Instr.fill, madeCells, Value.cells, ev, upd, Flat.enc, Flat.sz]; done) | rfl | kernel_rfl) rfl rfl ?_)
 intro wd6 v7 S8 hL
 refine OV v7 rfl (x_assign) ?_
 refine ONS ?_
 refine CSR ?_
 refine OV (.int .i64 a0) rfl (x_move) ?_
 refine OV (.int .i64 0) rfl (x_move) ?_
 refine OW.nil ?_
 obtain ⟨o31, ho32, hm⟩ := bndE hm
 refine CW.loopB (fun (s_l1 : (List Int) × Int) (F : Fr) (w : World) => ∃ (v27 : Value) (S28 : Nat → Prop), F 3 = (.pointer (some ⟨b5, 0, none⟩)) ∧ F 5 = v27 ∧ F 8 = (.int .i64 a0) ∧ F 9 = (.int .i64 s_l1.2) ∧ Hp w0 [Ent.own 2 S28 v27 s_l1.1, Ent.blk b5 83 #[(.func (.func fk1) #[] cp2.toArray)], Ent.snap w0 w0.heap.size] w) (fun o => outc o (fun x => some x) (fun s => M.impl_sortedIndices_a1 a1 s) = some r) ho32 hm ⟨v7, S8, rfl, rfl, rfl, rfl, hL⟩ ?_ ?_
 · intro s_l1 F33 wd34 hJ hm
   have hm := outcE hm
   have hm : M.impl_sortedIndices_a1 a1 s_l1 = some r := hm
   unfold M.impl_sortedIndices_a1 at hm
   obtain ⟨v27, S28, f35, f36, f37, f38, hL⟩ := hJ
   refine CSR ?_
   refine OV v27 rfl (x_mv f36) ?_
   refine OV (.func (.func 95) #[] #[(.pointer (some ⟨b5, 0, none⟩))]) rfl (x_makeFunc (vs := [(.pointer (some ⟨b5, 0, none⟩))]) ⟨f35, trivial⟩) ?_
   obtain ⟨x39, hx40, hm⟩ := bndE hm
   refine OW.cons (OP.call rfl (x_call (vs := [v27, (.func (.func 95) #[] #[(.pointer (some ⟨b5, 0, none⟩))])]) Tryz_C94 ⟨rfl, rfl, trivial⟩) (M.slices_SortStableFunc___int64_int64__ok _ s_l1.1 (hL.get 0 rfl) (fun y0 y1 => M.impl_sortedIndices_1 y0 y1 a1) ⟨Tryz_C95, fun yw hag yvs yv hR => by obtain ⟨y0, y1, yr, rfl, hyf, rfl⟩ := hR; exact M.impl_sortedIndices_1_ok yw y0 y1 a1 (hag.fnS (hL.fnSX 2 0 (by decide) rfl rfl hq3)) (hag.bx (hL.bxX 1 0 (by decide) rfl rfl)) hyf⟩ hx40) ?_)
   rintro e41 wd42 ⟨S44, rfl, hF43⟩
   refine ⟨_, rfl, ?_⟩
   have hL := hL.mut 0 rfl hF43
   simp only [lA, lB, lC, lD] at hL
   refine ONR ?_
   refine OV v27 rfl (x_mv f36) ?_
   refine OV v27 rfl (x_assign) ?_
   refine OW.nil ?_
   refine CW.ret ?_
   obtain rfl := Option.some.inj hm
   exact RR1 rfl rfl ⟨v27, S44, rfl, hL.fresh 2 rfl [0] (by decide) (by decide) rfl⟩
 intro s_l1 F45 wd46 t29 hJ hm hr30
 unfold M.impl_sortedIndices_l1 at hm
 obtain ⟨v27, S28, f47, f48, f49, f50, hL⟩ := hJ
 refine CSR ?_
 refine OV (.bool (decide (s_l1.2 < a0))) rfl (x_lss f50 f49) ?_
 refine ONS ?_
 refine CW.condM (t := decide (s_l1.2 < a0)) rfl hm (fun hb51 hm => ?_) (fun hb51 hm => ?_)
 · refine CW.skip ?_
   refine CW.seq ?_
   refine CW.block ?_
   refine CSR ?_
   refine OV (.int .i64 s_l1.2) rfl (x_mv f50) ?_
   refine OV (.int .i64 s_l1.2) rfl (x_assign) ?_
   refine OW.nil ?_
   refine CW.regionL ?_
   refine OV v27 rfl (x_mv f48) ?_
   refine OV (.int .i64 s_l1.2) rfl (x_move) ?_
   refine OW.cons (S_lit ([s_l1.2] : List Int) hL U27 Tryz_T2 rfl (by decide) (by first | (simp [Instr.fill, madeCells, Value.cells, ev, upd, Flat.enc, Flat.sz]; done) | rfl | kernel_rfl) rfl rfl ?_)
   intro wd52 v53 S54 hL
   obtain ⟨hc58, hm⟩ := chkE hm
   refine OW.cons (S_append (ys := ([s_l1.2] : List Int)) hL 1 rfl U27 Tryz_T2 rfl rfl rfl (hL.rdO 0 rfl) hc58 (by decide) rfl ?_)
   intro wd55 v56 S57 hL
   refine OV v56 rfl (x_assign) ?_
   refine OW.nil ?_
   refine CW.regionL ?_
   refine OV (.int .i64 (w64 (s_l1.2 + 1))) rfl (x_add f50 rfl) ?_
   refine OV (.int .i64 (w64 (s_l1.2 + 1))) rfl (x_move) ?_
   refine OW.nil ?_
   have hL := hL.sel [1, 2, 3] (by decide) rfl
   obtain rfl := Option.some.inj hm
   exact ⟨_, rfl, ⟨v56, S57, f47, rfl, f49, rfl, hL⟩⟩
 refine CW.exit ?_
 refine XJ.hit ?_
 obtain rfl := Option.some.inj hm
 exact ⟨_, rfl, ⟨v27, S28, f47, f48, f49, f50, hL⟩⟩

theorem M.math_bits_Len64_ok (w0 : World) (a0 : Int) {r : Int} (hm : M.math_bits_Len64 a0 = some r) :
    Calls Tryz.prog 128 #[(.int .u64 a0)] w0 fun e w' => e = .returned (.int .i64 r) ∧ Fresh w0 w' [] := by
 unfold M.math_bits_Len64 at hm
 refine calls_CW (args := [(.int .u64 a0)]) Tryz.func128 rfl rfl rfl ?_
 have hL := Hp.start w0
 refine CSR ?_
 refine OV (.int .i64 0) rfl (x_assign) ?_
 refine OW.nil ?_
 refine CW.seqJ (fun (s_j1 : Unit) (F : Fr) (w : World) => F 0 = (.int .u64 a0) ∧ F 2 = (.int .i64 0) ∧ Hp w0 [Ent.snap w0 w0.heap.size] w) (fun s_j1 => M.math_bits_Len64_j1 a0 s_j1 = some r) ?_ ?_
 · refine CSR ?_
   refine OV (.int .u64 a0) rfl (x_move) ?_
   refine OV (.bool (decide (4294967296 ≤ a0))) rfl (x_geq rfl rfl) ?_
   refine OW.nil ?_
   refine CW.condM (t := decide (4294967296 ≤ a0)) rfl hm (fun hb20 hm => ?_) (fun hb20 hm => ?_)
   · exact nomatch hm
   refine CW.skip ?_
   exact ⟨(), hm, ⟨rfl, rfl, hL⟩⟩
 intro s_j1 F2 wd3 hJ hm
 unfold M.math_bits_Len64_j1 at hm
 obtain ⟨f4, f5, hL⟩ := hJ
 refine CW.seqJ (fun (s_j2 : Unit) (F : Fr) (w : World) => F 0 = (.int .u64 a0) ∧ F 2 = (.int .i64 0) ∧ Hp w0 [Ent.snap w0 w0.heap.size] w) (fun s_j2 => M.math_bits_Len64_j2 a0 s_j2 = some r) ?_ ?_
 · refine CSR ?_
   refine OV (.int .u64 a0) rfl (x_mv f4) ?_
   refine OV (.bool (decide (65536 ≤ a0))) rfl (x_geq rfl rfl) ?_
   refine OW.nil ?_
   refine CW.condM (t := decide (65536 ≤ a0)) rfl hm (fun hb19 hm => ?_) (fun hb19 hm => ?_)
   · exact nomatch hm
   refine CW.skip ?_
   exact ⟨(), hm, ⟨f4, f5, hL⟩⟩
 intro s_j2 F7 wd8 hJ hm
 unfold M.math_bits_Len64_j2 at hm
 obtain ⟨f9, f10, hL⟩ := hJ
 refine CW.seqJ (fun (s_j3 : Unit) (F : Fr) (w : World) => F 0 = (.int .u64 a0) ∧ F 2 = (.int .i64 0) ∧ Hp w0 [Ent.snap w0 w0.heap.size] w) (fun s_j3 => M.math_bits_Len64_j3 a0 s_j3 = some r) ?_ ?_
 · refine CSR ?_
   refine OV (.int .u64 a0) rfl (x_mv f9) ?_
   refine OV (.bool (decide (256 ≤ a0))) rfl (x_geq rfl rfl) ?_
   refine OW.nil ?_
   refine CW.condM (t := decide (256 ≤ a0)) rfl hm (fun hb18 hm => ?_) (fun hb18 hm => ?_)
   · exact nomatch hm
   refine CW.skip ?_
   exact ⟨(), hm, ⟨f9, f10, hL⟩⟩
 intro s_j3 F12 wd13 hJ hm
 unfold M.math_bits_Len64_j3 at hm
 obtain ⟨f14, f15, hL⟩ := hJ
 refine CSR ?_
 refine OV (.int .i64 0) rfl (x_mv f15) ?_
 refine OV (.int .u64 a0) rfl (x_mv f14) ?_
 refine OV (.int .u8 (IntKind.u8.wrap a0)) rfl (x_conv U132 U5 rfl) ?_
 obtain ⟨x16, hx17, hm⟩ := bndE hm
 refine OV (.int .u8 x16) rfl (x_strAt U9 rfl rfl hx17) ?_
 refine OV (.int .i64 (IntKind.i64.wrap x16)) rfl (x_conv U5 U3 rfl) ?_
 refine OV (.int .i64 (w64 (0 + (IntKind.i64.wrap x16)))) rfl (x_add rfl rfl) ?_
 refine OV (.int .i64 (w64 (0 + (IntKind.i64.wrap x16)))) rfl (x_assign) ?_
 refine OW.nil ?_
 refine CW.ret ?_
 obtain rfl := Option.some.inj hm
 exact RR1 rfl rfl ⟨rfl, hL.fresh 0 rfl [] (by decide) (by decide) rfl⟩

theorem M.math_bits_Len_ok (w0 : World) (a0 : Int) {r : Int} (hm : M.math_bits_Len a0 = some r) :
    Calls Tryz.prog 122 #[(.int .u64 a0)] w0 fun e w' => e = .returned (.int .i64 r) ∧ Fresh w0 w' [] := by
 unfold M.math_bits_Len at hm
 refine calls_CW (args := [(.int .u64 a0)]) Tryz.func122 rfl rfl rfl ?_
 have hL := Hp.start w0
 refine CSR ?_
 refine OV (.int .i64 0) rfl (x_assign) ?_
 refine ONS ?_
 refine CW.condF rfl rfl ?_
 refine CW.skip ?_
 refine CSR ?_
 refine OV (.int .u64 a0) rfl (x_move) ?_
 obtain ⟨x1, hx2, hm⟩ := bndE hm
 refine OW.cons (OP.call rfl (x_call (vs := [(.int .u64 a0)]) Tryz_C128 ⟨rfl, trivial⟩) (M.math_bits_Len64_ok _ a0 hx2) ?_)
 rintro e3 wd4 ⟨rfl, hF5⟩
 refine ⟨_, rfl, ?_⟩
 have hL := hL.pushAll hF5
 simp only [lA, lB, lC, lD] at hL
 refine OV (.int .i64 x1) rfl (x_assign) ?_
 refine OW.nil ?_
 refine CW.ret ?_
 obtain rfl := Option.some.inj hm
 exact RR1 rfl rfl ⟨rfl, hL.fresh 0 rfl [] (by decide) (by decide) rfl⟩

theorem M.cmp_isNaN_int64__ok (w0 : World) (a0 : Int) {r : Bool} (hm : M.cmp_isNaN_int64_ a0 = some r) :
    Calls Tryz.prog 151 #[(.int .i64 a0)] w0 fun e w' => e = .returned (.bool r) ∧ Fresh w0 w' [] := by
 unfold M.cmp_isNaN_int64_ at hm
 refine calls_CW (args := [(.int .i64 a0)]) Tryz.func151 rfl rfl rfl ?_
 have hL := Hp.start w0
 refine CSR ?_
 refine OV (.bool false) rfl (x_assign) ?_
 refine ONR ?_
 refine OV (.int .i64 a0) rfl (x_move) ?_
 refine OV (.int .i64 a0) rfl (x_move) ?_
 refine OV (.bool (a0 != a0)) rfl (x_neq rfl rfl) ?_
 refine OV (.bool (a0 != a0)) rfl (x_assign) ?_
 refine OW.nil ?_
 refine CW.ret ?_
 obtain rfl := Option.some.inj hm
 exact RR1 rfl rfl ⟨rfl, hL.fresh 0 rfl [] (by decide) (by decide) rfl⟩

theorem M.cmp_Less_int64__ok (w0 : World) (a0 : Int) (a1 : Int) {r : Bool} (hm : M.cmp_Less_int64_ a0 a1 = some r) :
    Calls Tryz.prog 138 #[(.int .i64 a0), (.int .i64 a1)] w0 fun e w' => e = .returned (.bool r) ∧ Fresh w0 w' [] := by
 unfold M.cmp_Less_int64_ at hm
 refine calls_CW (args := [(.int .i64 a0), (.int .i64 a1)]) Tryz.func138 rfl rfl rfl ?_
 have hL := Hp.start w0
 refine CSR ?_
 refine OV (.bool false) rfl (x_assign) ?_
 refine OW.nil ?_
 refine CW.seqJ (fun (s_j1 : Bool) (F : Fr) (w : World) => F 4 = (.bool s_j1) ∧ Hp w0 [Ent.snap w0 w0.heap.size] w) (fun s_j1 => M.cmp_Less_int64__j1 s_j1 = some r) ?_ ?_
 · refine CW.regionL ?_
   refine OV (.int .i64 a0) rfl (x_move) ?_
   obtain ⟨x16, hx17, hm⟩ := bndE hm
   refine OW.cons (OP.call rfl (x_call (vs := [(.int .i64 a0)]) Tryz_C151 ⟨rfl, trivial⟩) (M.cmp_isNaN_int64__ok _ a0 hx17) ?_)
   rintro e18 wd19 ⟨rfl, hF20⟩
   refine ⟨_, rfl, ?_⟩
   have hL := hL.pushAll hF20
   simp only [lA, lB, lC, lD] at hL
   refine OV (.bool x16) rfl (x_move) ?_
   refine ifB_elim hm (fun hb21 hm => ?_) (fun hb21 hm => ?_)
   · refine OW.cons (OP.yes' rfl rfl hb21 (OP.val (v := (.int .i64 a1)) rfl (x_move) ?_))
     obtain ⟨x22, hx23, hm⟩ := bndE hm
     refine OW.cons (OP.yes' rfl rfl hb21 (OP.call rfl (x_call (vs := [(.int .i64 a1)]) Tryz_C151 ⟨rfl, trivial⟩) (M.cmp_isNaN_int64__ok _ a1 hx23) ?_))
     rintro e24 wd25 ⟨rfl, hF26⟩
     refine ⟨_, rfl, ?_⟩
     have hL := hL.pushAll hF26
     simp only [lA, lB, lC, lD] at hL
     refine OW.cons (OP.yes' rfl rfl hb21 (OP.val (v := (.bool (!x22))) rfl (x_not rfl) ?_))
     refine OV (.bool (!x22)) rfl (x_pickT' rfl hb21 rfl) ?_
     refine OV (.bool (!x22)) rfl (x_move) ?_
     refine ifB_elim hm (fun hb27 hm => ?_) (fun hb27 hm => ?_)
     · refine OW.cons (OP.no' rfl rfl hb27 rfl ?_)
       refine OW.cons (OP.no' rfl rfl hb27 rfl ?_)
       refine OW.cons (OP.no' rfl rfl hb27 rfl ?_)
       refine OV (.bool true) rfl (x_pickT' rfl hb27 rfl) ?_
       refine OV (.bool true) rfl (x_assign) ?_
       refine OW.nil ?_
       exact ⟨true, hm, ⟨rfl, hL⟩⟩
     refine OW.cons (OP.yes' rfl rfl hb27 (OP.val (v := (.int .i64 a0)) rfl (x_move) ?_))
     refine OW.cons (OP.yes' rfl rfl hb27 (OP.val (v := (.int .i64 a1)) rfl (x_move) ?_))
     refine OW.cons (OP.yes' rfl rfl hb27 (OP.val (v := (.bool (decide (a0 < a1)))) rfl (x_lss rfl rfl) ?_))
     refine OV (.bool (decide (a0 < a1))) rfl (x_pickF' rfl hb27 rfl) ?_
     refine OV (.bool (decide (a0 < a1))) rfl (x_assign) ?_
     refine OW.nil ?_
     exact ⟨decide (a0 < a1), hm, ⟨rfl, hL⟩⟩
   refine OW.cons (OP.no' rfl rfl hb21 rfl ?_)
   refine OW.cons (OP.no' rfl rfl hb21 rfl ?_)
   refine OW.cons (OP.no' rfl rfl hb21 rfl ?_)
   refine OV (.bool false) rfl (x_pickF' rfl hb21 rfl) ?_
   refine OV (.bool false) rfl (x_move) ?_
   refine OW.cons (OP.yes' rfl rfl rfl (OP.val (v := (.int .i64 a0)) rfl (x_move) ?_))
   refine OW.cons (OP.yes' rfl rfl rfl (OP.val (v := (.int .i64 a1)) rfl (x_move) ?_))
   refine OW.cons (OP.yes' rfl rfl rfl (OP.val (v := (.bool (decide (a0 < a1)))) rfl (x_lss rfl rfl) ?_))
   refine OV (.bool (decide (a0 < a1))) rfl (x_pickF' rfl rfl rfl) ?_
   refine OV (.bool (decide (a0 < a1))) rfl (x_assign) ?_
   refine OW.nil ?_
   exact ⟨decide (a0 < a1), hm, ⟨rfl, hL⟩⟩
 intro s_j1 F13 wd14 hJ hm
 unfold M.cmp_Less_int64__j1 at hm
 obtain ⟨f15, hL⟩ := hJ
 refine CW.ret ?_
 obtain rfl := Option.some.inj hm
 exact RR1 rfl f15 ⟨rfl, hL.fresh 0 rfl [] (by decide) (by decide) rfl⟩

end Go.Proofs.YtmmkkcmliofknaaGreatDoor
