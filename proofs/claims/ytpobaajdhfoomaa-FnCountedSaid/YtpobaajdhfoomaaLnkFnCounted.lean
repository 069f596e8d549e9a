/- Links: each Go function returns what its model computes and leaves what was there. Printed by my generator. -/
import Derived.Test.YtpobaajdhfoomaaLnkFnCountedB
namespace Go.Proofs.Ytpobaajdhfoomaa
set_option maxRecDepth 10000
open Go Go.RowKit Go.ChangeShapes Go.WideShapes
set_option linter.unusedVariables false
set_option linter.unusedSimpArgs false

theorem M.spec_l26DrawTable_ok (w0 : World) {b1 : Nat} {v2 : Value} (a0 : Src) (h3 : rdL (fun k => k < w0.heap.size ∧ ¬ (Ent.blk b1 90 #[v2, .int .i64 a0.at_, .int .i64 a0.seed]).S k) w0 v2 a0.code) (he4 : (Ent.blk b1 90 #[v2, .int .i64 a0.at_, .int .i64 a0.seed]).H w0) {r : (Table) × (Int × Int)} (hm : M.spec_l26DrawTable a0 = some r) :
    Calls Try.prog 104 #[(.pointer (some ⟨b1, 0, none⟩))] w0 fun e w' => ∃ (rv0 : Value) (rS0 : Nat → Prop), ∃ (rv1 : Value) (rS1 : Nat → Prop), e = .returned (.agg #[(.int .i64 r.1.Boats), rv0, rv1]) ∧ Mut w0 w' (Ent.blk b1 90 #[v2, .int .i64 a0.at_, .int .i64 a0.seed]).S [Ent.blk b1 90 #[v2, .int .i64 r.2.1, .int .i64 r.2.2], Ent.rdx rS0 rv0 r.1.Points, Ent.rdx rS1 rv1 r.1.Codes] := by
 unfold M.spec_l26DrawTable at hm
 refine calls_CW (args := [(.pointer (some ⟨b1, 0, none⟩))]) Try.func104 rfl rfl rfl ?_
 have hL := Hp.startIO he4
 refine CSR ?_
 refine OW.cons (S_alloc (cs := #[(.int .i64 0), (.slice none 0 0), (.slice none 0 0)]) hL Try_T29 rfl rfl ?_)
 intro wd5 b6 hL
 refine ONR ?_
 refine OV (.pointer (some ⟨b1, 0, none⟩)) rfl (x_move) ?_
 obtain ⟨x7, hx8, hm⟩ := bndE hm
 refine OW.cons (OP.call rfl (x_call (vs := [(.pointer (some ⟨b1, 0, none⟩))]) Try_C113 ⟨rfl, trivial⟩) (M.spec_l26DrawSeries_ok _ (Src.mk a0.code a0.at_ a0.seed) (hL.exZ 2 1 (by decide) rfl rfl h3) (hL.get 1 rfl) hx8) ?_)
 rintro e11 wd12 ⟨v10, S9, rfl, hF13⟩
 refine ⟨_, rfl, ?_⟩
 have hL := hL.mut 1 rfl hF13
 simp only [lA, lB, lC, lD] at hL
 refine OW.cons (S_alloc (cs := #[(.int .i64 0), (.int .i64 0), (.slice none 0 0)]) hL Try_T97 rfl rfl ?_)
 intro wd14 b15 hL
 refine OW.cons (S_storeN (l := [(.int .i64 x7.1.Boats), (.int .i64 x7.1.Scheme), v10]) (cs' := #[(.int .i64 x7.1.Boats), (.int .i64 x7.1.Scheme), v10]) hL 0 rfl Try_T97 rfl rfl (List.forall_mem_cons.2 ⟨rfl, (List.forall_mem_cons.2 ⟨rfl, (List.forall_mem_cons.2 ⟨rdL_one (hL.rdO 1 rfl), (fun _ h => by cases h)⟩)⟩)⟩) rfl (Nat.le_of_ble_eq_true rfl) rfl ?_)
 intro wd16 hL
 refine ONS ?_
 refine CSR ?_
 refine OV (.int .i64 0) rfl (x_assign) ?_
 refine OW.nil ?_
 obtain ⟨o2115, ho2116, hm⟩ := bndE hm
 refine CW.loopB (fun (s_l1 : Int × Int × (List Race) × Int) (F : Fr) (w : World) => ∃ (S2112 : Nat → Prop), F 0 = (.pointer (some ⟨b1, 0, none⟩)) ∧ F 2 = (.pointer (some ⟨b6, 0, none⟩)) ∧ F 3 = (.pointer (some ⟨b15, 0, none⟩)) ∧ F 4 = (.int .i64 s_l1.2.2.2) ∧ Hp w0 [Ent.blk b15 97 #[(.int .i64 x7.1.Boats), (.int .i64 x7.1.Scheme), v10], Ent.own 101 S2112 v10 s_l1.2.2.1, Ent.blk b6 29 #[(.int .i64 0), (.slice none 0 0), (.slice none 0 0)], Ent.blk b1 90 #[v2, (.int .i64 s_l1.1), (.int .i64 s_l1.2.1)], Ent.frz w0 (Ent.blk b1 90 #[v2, .int .i64 a0.at_, .int .i64 a0.seed]).S] w) (fun o => outc o (fun x => some x) (fun s => M.spec_l26DrawTable_a1 a0 x7 s) = some r) ho2116 hm ⟨S9, rfl, rfl, rfl, rfl, hL⟩ ?_ ?_
 · intro s_l1 F2117 wd2118 hJ hm
   have hm := outcE hm
   have hm : M.spec_l26DrawTable_a1 a0 x7 s_l1 = some r := hm
   unfold M.spec_l26DrawTable_a1 at hm
   obtain ⟨S2112, f2119, f2120, f2121, f2122, hL⟩ := hJ
   refine CSR ?_
   refine OV (.agg #[(.int .i64 x7.1.Boats), (.int .i64 x7.1.Scheme), v10]) rfl (x_loadN (cs := [(.int .i64 x7.1.Boats), (.int .i64 x7.1.Scheme), v10]) U97 Try_T97 rfl f2121 (hL.cellsB 0 rfl (o := 0) (l := [(.int .i64 x7.1.Boats), (.int .i64 x7.1.Scheme), v10]) (by intro j u hj; exact (by simpa using hj)))) ?_
   obtain ⟨x2123, hx2124, hm⟩ := bndE hm
   refine OW.cons (OP.call rfl (x_call (vs := [(.agg #[(.int .i64 x7.1.Boats), (.int .i64 x7.1.Scheme), v10])]) Try_C114 ⟨rfl, trivial⟩) (M.spec_TableOf_ok _ (Series.mk x7.1.Boats x7.1.Scheme s_l1.2.2.1) (hL.rdO 1 rfl) hx2124) ?_)
   rintro e2129 wd2130 ⟨v2126, S2125, v2128, S2127, rfl, hF2131⟩
   refine ⟨_, rfl, ?_⟩
   have hL := hL.pushAll hF2131
   simp only [lA, lB, lC, lD] at hL
   refine OV (.tuple #[(.agg #[(.int .i64 x2123.1.Boats), v2126, v2128]), (.int .i64 x2123.2)]) rfl (x_move) ?_
   refine OV (.agg #[(.int .i64 x2123.1.Boats), v2126, v2128]) rfl (x_extract rfl rfl) ?_
   refine OV (.int .i64 x2123.2) rfl (x_extract rfl rfl) ?_
   refine OW.cons (S_alloc (cs := #[(.int .i64 0), (.slice none 0 0), (.slice none 0 0)]) hL Try_T29 rfl rfl ?_)
   intro wd2132 b2133 hL
   refine OW.cons (S_storeN (l := [(.int .i64 x2123.1.Boats), v2126, v2128]) (cs' := #[(.int .i64 x2123.1.Boats), v2126, v2128]) hL 0 rfl Try_T29 rfl rfl (List.forall_mem_cons.2 ⟨rfl, (List.forall_mem_cons.2 ⟨rdL_one (hL.rdO 1 rfl), (List.forall_mem_cons.2 ⟨rdL_one (hL.rdO 2 rfl), (fun _ h => by cases h)⟩)⟩)⟩) rfl (Nat.le_of_ble_eq_true rfl) rfl ?_)
   intro wd2134 hL
   refine OV (.int .i64 x2123.2) rfl (x_assign) ?_
   refine ONS ?_
   refine CW.seqJ (fun (s_j1 : Bool) (F : Fr) (w : World) => F 0 = (.pointer (some ⟨b1, 0, none⟩)) ∧ F 2 = (.pointer (some ⟨b6, 0, none⟩)) ∧ F 7 = (.pointer (some ⟨b2133, 0, none⟩)) ∧ F 72 = (.bool s_j1) ∧ Hp w0 [Ent.blk b2133 29 #[(.int .i64 x2123.1.Boats), v2126, v2128], Ent.own 25 S2125 v2126 x2123.1.Points, Ent.own 25 S2127 v2128 x2123.1.Codes, Ent.blk b15 97 #[(.int .i64 x7.1.Boats), (.int .i64 x7.1.Scheme), v10], Ent.own 101 S2112 v10 s_l1.2.2.1, Ent.blk b6 29 #[(.int .i64 0), (.slice none 0 0), (.slice none 0 0)], Ent.blk b1 90 #[v2, (.int .i64 s_l1.1), (.int .i64 s_l1.2.1)], Ent.frz w0 (Ent.blk b1 90 #[v2, .int .i64 a0.at_, .int .i64 a0.seed]).S] w) (fun s_j1 => M.spec_l26DrawTable_j1 a0 s_l1 x2123 s_j1 = some r) ?_ ?_
   · refine CW.regionL ?_
     refine OV (.pointer (some ⟨b2133, 1, none⟩)) rfl (x_fieldAddr (fsz := 1) 0 1 1 U29 rfl Try_T22 rfl rfl rfl) ?_
     refine OV v2126 rfl (x_load1 U22 rfl rfl (hL.cellB 0 rfl rfl)) ?_
     refine OV (.int .i64 (x2123.1.Points.length : Int)) rfl (x_lenR U22 rfl (hL.rdO 1 rfl)) ?_
     refine OV (.bool ((x2123.1.Points.length : Int) == 0)) rfl (x_eql rfl rfl) ?_
     refine OV (.bool ((x2123.1.Points.length : Int) == 0)) rfl (x_move) ?_
     refine ifB_elim hm (fun hb3504 hm => ?_) (fun hb3504 hm => ?_)
     · refine OW.cons (OP.no' rfl rfl hb3504 rfl ?_)
       refine OW.cons (OP.no' rfl rfl hb3504 rfl ?_)
       refine OW.cons (OP.no' rfl rfl hb3504 rfl ?_)
       refine OV (.bool true) rfl (x_pickT' rfl hb3504 rfl) ?_
       refine OW.nil ?_
       exact ⟨true, hm, ⟨f2119, f2120, rfl, rfl, hL⟩⟩
     refine OW.cons (OP.yes' rfl rfl hb3504 (OP.val (v := (.pointer (some ⟨b2133, 0, none⟩))) rfl (x_fieldAddr (fsz := 1) 0 0 0 U29 rfl Try_T2 rfl rfl rfl) ?_))
     refine OW.cons (OP.yes' rfl rfl hb3504 (OP.val (v := (.int .i64 x2123.1.Boats)) rfl (x_load1 U2 rfl rfl (hL.cellB 0 rfl rfl)) ?_))
     refine OW.cons (OP.yes' rfl rfl hb3504 (OP.val (v := (.bool (x2123.1.Boats == 0))) rfl (x_eql rfl rfl) ?_))
     refine OV (.bool (x2123.1.Boats == 0)) rfl (x_pickF' rfl hb3504 rfl) ?_
     refine OW.nil ?_
     exact ⟨x2123.1.Boats == 0, hm, ⟨f2119, f2120, rfl, rfl, hL⟩⟩
   intro s_j1 F2136 wd2137 hJ hm
   unfold M.spec_l26DrawTable_j1 at hm
   obtain ⟨f2138, f2139, f2140, f2141, hL⟩ := hJ
   refine CW.condM (t := s_j1) f2141 hm (fun hb2142 hm => ?_) (fun hb2142 hm => ?_)
   · refine CSR ?_
     refine OV (.agg #[(.int .i64 x2123.1.Boats), v2126, v2128]) rfl (x_loadN (cs := [(.int .i64 x2123.1.Boats), v2126, v2128]) U29 Try_T29 rfl f2140 (hL.cellsB 0 rfl (o := 0) (l := [(.int .i64 x2123.1.Boats), v2126, v2128]) (by intro j u hj; exact (by simpa using hj)))) ?_
     refine OW.cons (S_storeN (l := [(.int .i64 x2123.1.Boats), v2126, v2128]) (cs' := #[(.int .i64 x2123.1.Boats), v2126, v2128]) hL 5 rfl Try_T29 f2139 rfl (List.forall_mem_cons.2 ⟨rfl, (List.forall_mem_cons.2 ⟨rdL_one (hL.rdO 1 rfl), (List.forall_mem_cons.2 ⟨rdL_one (hL.rdO 2 rfl), (fun _ h => by cases h)⟩)⟩)⟩) rfl (Nat.le_of_ble_eq_true rfl) rfl ?_)
     intro wd2143 hL
     refine OW.nil ?_
     refine CW.ret ?_
     have hL := hL.rdxIn 1 rfl
     simp only [lC, lD] at hL
     have hL := hL.rdxIn 2 rfl
     simp only [lC, lD] at hL
     obtain rfl := Option.some.inj hm
     exact RRc rfl f2139 (run_loadBlk U29 Try_T29 (hL.get 5 rfl) rfl) ⟨v2126, S2125, v2128, S2127, rfl, hL.mutOut 7 rfl [6, 1, 2] (by decide) (by decide) rfl⟩
   refine CW.skip ?_
   refine CSR ?_
   refine OV (.pointer (some ⟨b1, 0, none⟩)) rfl (x_mv f2138) ?_
   refine OV (.pointer (some ⟨b2133, 1, none⟩)) rfl (x_fieldAddr (fsz := 1) 0 1 1 U29 rfl Try_T22 rfl f2140 rfl) ?_
   refine OV v2126 rfl (x_load1 U22 rfl rfl (hL.cellB 0 rfl rfl)) ?_
   refine OV (.int .i64 (x2123.1.Points.length : Int)) rfl (x_lenR U22 rfl (hL.rdO 1 rfl)) ?_
   obtain ⟨x2144, hx2145, hm⟩ := bndE hm
   refine OW.cons (OP.call rfl (x_call (vs := [(.pointer (some ⟨b1, 0, none⟩)), (.int .i64 (x2123.1.Points.length : Int))]) Try_C86 ⟨rfl, rfl, trivial⟩) (M.spec_l01Next_ok _ (Src.mk a0.code s_l1.1 s_l1.2.1) (hL.exZ 7 6 (by decide) rfl rfl h3) (hL.get 6 rfl) (x2123.1.Points.length : Int) hx2145) ?_)
   rintro e2146 wd2147 ⟨rfl, hF2148⟩
   refine ⟨_, rfl, ?_⟩
   have hL := hL.mut 6 rfl hF2148
   simp only [lA, lB, lC, lD] at hL
   refine OV (.int .i64 x2144.1) rfl (x_assign) ?_
   refine ONR ?_
   refine OV (.pointer (some ⟨b1, 0, none⟩)) rfl (x_mv f2138) ?_
   refine OV (.pointer (some ⟨b2133, 0, none⟩)) rfl (x_fieldAddr (fsz := 1) 0 0 0 U29 rfl Try_T2 rfl f2140 rfl) ?_
   refine OV (.int .i64 x2123.1.Boats) rfl (x_load1 U2 rfl rfl (hL.cellB 0 rfl rfl)) ?_
   obtain ⟨x2149, hx2150, hm⟩ := bndE hm
   refine OW.cons (OP.call rfl (x_call (vs := [(.pointer (some ⟨b1, 0, none⟩)), (.int .i64 x2123.1.Boats)]) Try_C86 ⟨rfl, rfl, trivial⟩) (M.spec_l01Next_ok _ (Src.mk a0.code x2144.2.1 x2144.2.2) (hL.exZ 7 6 (by decide) rfl rfl h3) (hL.get 6 rfl) x2123.1.Boats hx2150) ?_)
   rintro e2151 wd2152 ⟨rfl, hF2153⟩
   refine ⟨_, rfl, ?_⟩
   have hL := hL.mut 6 rfl hF2153
   simp only [lA, lB, lC, lD] at hL
   refine OV (.int .i64 x2149.1) rfl (x_assign) ?_
   refine OW.nil ?_
   refine CW.seqJ (fun (s_j2 : Int × Int × (List (List Int)) × (List (List Int))) (F : Fr) (w : World) => ∃ (v2709 : Value) (S2710 : Nat → Prop) (v2711 : Value) (S2712 : Nat → Prop), F 2 = (.pointer (some ⟨b6, 0, none⟩)) ∧ F 7 = (.pointer (some ⟨b2133, 0, none⟩)) ∧ Hp w0 [Ent.rdx S2710 v2709 s_j2.2.2.1, Ent.rdx S2712 v2711 s_j2.2.2.2, Ent.blk b2133 29 #[(.int .i64 x2123.1.Boats), v2709, v2711], Ent.blk b15 97 #[(.int .i64 x7.1.Boats), (.int .i64 x7.1.Scheme), v10], Ent.own 101 S2112 v10 s_l1.2.2.1, Ent.blk b6 29 #[(.int .i64 0), (.slice none 0 0), (.slice none 0 0)], Ent.blk b1 90 #[v2, (.int .i64 s_j2.1), (.int .i64 s_j2.2.1)], Ent.frz w0 (Ent.blk b1 90 #[v2, .int .i64 a0.at_, .int .i64 a0.seed]).S] w) (fun s_j2 => M.spec_l26DrawTable_j2 x2123 s_j2 = some r) ?_ ?_
   · refine CSR ?_
     refine OV (.pointer (some ⟨b1, 0, none⟩)) rfl (x_mv f2138) ?_
     obtain ⟨x2718, hx2719, hm⟩ := bndE hm
     refine OW.cons (OP.call rfl (x_call (vs := [(.pointer (some ⟨b1, 0, none⟩)), (.int .i64 20)]) Try_C86 ⟨rfl, rfl, trivial⟩) (M.spec_l01Next_ok _ (Src.mk a0.code x2149.2.1 x2149.2.2) (hL.exZ 7 6 (by decide) rfl rfl h3) (hL.get 6 rfl) 20 hx2719) ?_)
     rintro e2720 wd2721 ⟨rfl, hF2722⟩
     refine ⟨_, rfl, ?_⟩
     have hL := hL.mut 6 rfl hF2722
     simp only [lA, lB, lC, lD] at hL
     refine OW.nil ?_
     refine CW.blockJ (fun (s_j3 : Int × Int × (List (List Int)) × (List (List Int))) (F : Fr) (w : World) => ∃ (v2994 : Value) (S2995 : Nat → Prop) (v2996 : Value) (S2997 : Nat → Prop), F 2 = (.pointer (some ⟨b6, 0, none⟩)) ∧ F 7 = (.pointer (some ⟨b2133, 0, none⟩)) ∧ Hp w0 [Ent.rdx S2995 v2994 s_j3.2.2.1, Ent.rdx S2997 v2996 s_j3.2.2.2, Ent.blk b2133 29 #[(.int .i64 x2123.1.Boats), v2994, v2996], Ent.blk b15 97 #[(.int .i64 x7.1.Boats), (.int .i64 x7.1.Scheme), v10], Ent.own 101 S2112 v10 s_l1.2.2.1, Ent.blk b6 29 #[(.int .i64 0), (.slice none 0 0), (.slice none 0 0)], Ent.blk b1 90 #[v2, (.int .i64 s_j3.1), (.int .i64 s_j3.2.1)], Ent.frz w0 (Ent.blk b1 90 #[v2, .int .i64 a0.at_, .int .i64 a0.seed]).S] w) (fun s_j3 => M.spec_l26DrawTable_j3 x2123 s_j3 = some r) ?_ ?_
     · refine CSR ?_
       refine OV (.bool (x2718.1 == 0)) rfl (x_eql rfl rfl) ?_
       refine OV (.bool (x2718.1 == 0)) rfl (x_assign) ?_
       refine OW.nil ?_
       refine CW.condM (t := x2718.1 == 0) rfl hm (fun hb3002 hm => ?_) (fun hb3002 hm => ?_)
       · obtain ⟨wz3003, hL, ho3004⟩ := hL.freeze 1 rfl
         simp only [lC, lD] at hL
         obtain ⟨wz3005, hL, ho3006⟩ := hL.freeze 2 rfl
         simp only [lC, lD] at hL
         obtain ⟨wz3007, hL, ho3008⟩ := hL.freeze 4 rfl
         simp only [lC, lD] at hL
         refine CW.drawH (fun w' => Hp w0 [Ent.blk b2133 29 #[(.int .i64 x2123.1.Boats), v2126, v2128], Ent.frzS wz3005 S2127, Ent.blk b15 97 #[(.int .i64 x7.1.Boats), (.int .i64 x7.1.Scheme), v10], Ent.frzS wz3007 S2112, Ent.blk b6 29 #[(.int .i64 0), (.slice none 0 0), (.slice none 0 0)], Ent.frz w0 (Ent.blk b1 90 #[v2, .int .i64 a0.at_, .int .i64 a0.seed]).S] w') Try_mixed ?_
         have hL := hL.call (Mod.drew _)
         have hS := (hL.sel [0, 2, 3, 4, 5, 7] (by decide) rfl)
         refine DH.take 0 rfl (by kernel_rfl) (by kernel_rfl) (by kernel_rfl) rfl rfl hS (YH.val (v := (.pointer (some ⟨b2133, 1, none⟩))) (fun w' hS' => x_fieldAddr (fsz := 1) 0 1 1 U29 rfl Try_T22 rfl f2140 rfl)) ?_
         have hS := (hL.sel [0, 2, 3, 4, 5, 7] (by decide) rfl)
         refine DH.take 1 rfl (by kernel_rfl) (by kernel_rfl) (by kernel_rfl) rfl rfl hS (YH.val (v := v2126) (fun w' hS' => x_load1 U22 rfl rfl (hS'.cellB 0 rfl rfl))) ?_
         have hS := (hL.sel [0, 2, 3, 4, 5, 7] (by decide) rfl)
         refine DH.take 2 rfl (by kernel_rfl) (by kernel_rfl) (by kernel_rfl) rfl rfl hS (YH.val (v := (.int .i64 x2144.1)) (fun w' hS' => x_move)) ?_
         have hS := (hL.sel [0, 2, 3, 4, 5, 7] (by decide) rfl)
         obtain ⟨x3042, ha3043, hm⟩ := bndE hm
         obtain ⟨hz3044, ha3052⟩ := idxE ha3043
         obtain ⟨b3045, q3046, v3047, hix3048, hs3049, hc3050, hr3051⟩ := rdN_at ho3004.1.rdL hz3044 ha3052
         refine DH.take 3 rfl (by kernel_rfl) (by kernel_rfl) (by kernel_rfl) rfl rfl hS (YH.val (v := (.pointer (some ⟨b3045, q3046, none⟩))) (fun w' hS' => x_ix U22 Try_T25 rfl rfl hix3048)) ?_
         have hS := (hL.sel [0, 2, 3, 4, 5, 7] (by decide) rfl)
         refine DH.take 5 rfl (by kernel_rfl) (by kernel_rfl) (by kernel_rfl) rfl rfl hS (YH.val (v := (.int .i64 x2149.1)) (fun w' hS' => x_move)) ?_
         have hS := (hL.sel [0, 2, 3, 4, 5, 7] (by decide) rfl)
         refine DH.take 6 rfl (by kernel_rfl) (by kernel_rfl) (by kernel_rfl) rfl rfl hS (YH.val (v := (.pointer (some ⟨b1, 0, none⟩))) (fun w' hS' => x_mv f2138)) ?_
         obtain ⟨x3053, hx3054, hm⟩ := bndE hm
         obtain ⟨x3058, ha3059, hm⟩ := bndE hm
         refine DH.node (listed' := (bma 11 2047)) (fuel' := 0) (fun (F : Fr) (w : World) => ∃ (v3100 : Value) (S3101 : Nat → Prop), F 2 = (.pointer (some ⟨b6, 0, none⟩)) ∧ F 7 = (.pointer (some ⟨b2133, 0, none⟩)) ∧ Hp w0 [Ent.blk b2133 29 #[(.int .i64 x2123.1.Boats), v3100, v2128], Ent.own 25 S3101 v3100 (x2123.1.Points.set (x2144.1 : Int).toNat (x3042.set (x2149.1 : Int).toNat (w64 (10000 + x3053.1)))), Ent.frzS wz3005 S2127, Ent.blk b15 97 #[(.int .i64 x7.1.Boats), (.int .i64 x7.1.Scheme), v10], Ent.frzS wz3007 S2112, Ent.blk b6 29 #[(.int .i64 0), (.slice none 0 0), (.slice none 0 0)], Ent.blk b1 90 #[v2, (.int .i64 x3053.2.1), (.int .i64 x3053.2.2)], Ent.frz w0 (Ent.blk b1 90 #[v2, .int .i64 a0.at_, .int .i64 a0.seed]).S] w) ?_ (fun hN3096 => ?_)
         · intro F3105 wd3106 hJ
           obtain ⟨v3100, S3101, f3107, f3108, hL⟩ := hJ
           refine DH.done (by kernel_rfl) ?_
           have hL := hL.thaw 2 rfl ho3006
           have hL := hL.thaw 4 rfl ho3008
           have hL := hL.rdxIn 1 rfl
           simp only [lC, lD] at hL
           have hL := hL.rdxIn 2 rfl
           simp only [lC, lD] at hL
           have hL := hL.sel [1, 2, 0, 3, 4, 5, 6, 7] (by decide) rfl
           exact ⟨(x3053.2.1, x3053.2.2, x2123.1.Points.set (x2144.1 : Int).toNat (x3042.set (x2149.1 : Int).toNat (w64 (10000 + x3053.1))), x2123.1.Codes), hm, ⟨v3100, S3101, v2128, S2127, f3107, f3108, hL⟩⟩
         refine DH.node (listed' := (bma 11 1023)) (fuel' := 1) (fun (F : Fr) (w : World) => ∃ (b3102 : Nat) (q3103 : Nat), IxAddr v3047 (GoT.sz Int) x2149.1 b3102 q3103 ∧ F 2 = (.pointer (some ⟨b6, 0, none⟩)) ∧ F 7 = (.pointer (some ⟨b2133, 0, none⟩)) ∧ F 95 = (.int .i64 (w64 (10000 + x3053.1))) ∧ F 96 = (.pointer (some ⟨b3102, q3103, none⟩)) ∧ Hp w0 [Ent.blk b2133 29 #[(.int .i64 x2123.1.Boats), v2126, v2128], Ent.frzS wz3003 S2125, Ent.frzS wz3005 S2127, Ent.blk b15 97 #[(.int .i64 x7.1.Boats), (.int .i64 x7.1.Scheme), v10], Ent.frzS wz3007 S2112, Ent.blk b6 29 #[(.int .i64 0), (.slice none 0 0), (.slice none 0 0)], Ent.blk b1 90 #[v2, (.int .i64 x3053.2.1), (.int .i64 x3053.2.2)], Ent.frz w0 (Ent.blk b1 90 #[v2, .int .i64 a0.at_, .int .i64 a0.seed]).S] w) ?_ (fun hN3097 => ?_)
         · intro F3109 wd3110 hJ
           obtain ⟨b3102, q3103, hix3104, f3111, f3112, f3113, f3114, hL⟩ := hJ
           obtain ⟨_, ha3082⟩ := idxE ha3059
           have hc3116 := hL.cellF 1 rfl hs3049 hc3050
           have hL := hL.thaw 1 rfl ho3004
           simp only [lC, lD] at hL
           refine DH.only 10 rfl (by kernel_rfl) (S_inRow (α := Int) (x3042.set (x2149.1 : Int).toNat (w64 (10000 + x3053.1))) (x3042.set (x2149.1 : Int).toNat (w64 (10000 + x3053.1))) rfl hL 1 rfl hix3048 ha3052 hc3116 (fun E2 S1 hL hK => S_storeX (j := 0) (w64 (10000 + x3053.1)) hL 0 rfl Try_T2 hix3104 ha3082 f3114 rfl rfl f3113 rfl rfl hK) ?_)
           intro wd3115 S3117 hL
           simp only [lC, lD] at hL
           refine ⟨(hL.sel [0, 2, 3, 4, 5, 7] (by decide) rfl), ?_⟩
           exact DH.relist (listed' := (bma 11 2047)) (by kernel_rfl) (hN3096 _ _ ⟨v2126, S3117, f3111, f3112, hL⟩)
         refine DH.node (listed' := (bma 11 495)) (fuel' := 3) (fun (F : Fr) (w : World) => F 2 = (.pointer (some ⟨b6, 0, none⟩)) ∧ F 7 = (.pointer (some ⟨b2133, 0, none⟩)) ∧ F 90 = (.pointer (some ⟨b3045, q3046, none⟩)) ∧ F 92 = (.int .i64 x2149.1) ∧ F 95 = (.int .i64 (w64 (10000 + x3053.1))) ∧ Hp w0 [Ent.blk b2133 29 #[(.int .i64 x2123.1.Boats), v2126, v2128], Ent.frzS wz3003 S2125, Ent.frzS wz3005 S2127, Ent.blk b15 97 #[(.int .i64 x7.1.Boats), (.int .i64 x7.1.Scheme), v10], Ent.frzS wz3007 S2112, Ent.blk b6 29 #[(.int .i64 0), (.slice none 0 0), (.slice none 0 0)], Ent.blk b1 90 #[v2, (.int .i64 x3053.2.1), (.int .i64 x3053.2.2)], Ent.frz w0 (Ent.blk b1 90 #[v2, .int .i64 a0.at_, .int .i64 a0.seed]).S] w) ?_ (fun hN3098 => ?_)
         · intro F3120 wd3121 hJ
           obtain ⟨f3122, f3123, f3124, f3125, f3126, hL⟩ := hJ
           refine DH.only 4 rfl (by kernel_rfl) (OP.val (v := v3047) rfl (x_load1 U25 rfl f3124 (hL.cellF 1 rfl hs3049 hc3050)) ?_)
           refine ⟨(hL.sel [0, 2, 3, 4, 5, 7] (by decide) rfl), ?_⟩
           have hS := (hL.sel [0, 2, 3, 4, 5, 7] (by decide) rfl)
           obtain ⟨hz3127, ha3131⟩ := idxE ha3059
           obtain ⟨b3128, q3129, hix3130⟩ := rdL_ix (hL.rdF 1 rfl hr3051) hz3127 ha3131
           refine DH.take 9 rfl (by kernel_rfl) (by kernel_rfl) (by kernel_rfl) rfl rfl hS (YH.val (v := (.pointer (some ⟨b3128, q3129, none⟩))) (fun w' hS' => x_ix U25 Try_T2 rfl f3125 hix3130)) ?_
           exact DH.relist (listed' := (bma 11 1023)) (by kernel_rfl) (hN3097 _ _ ⟨b3128, q3129, hix3130, f3122, f3123, f3126, rfl, hL⟩)
         refine DH.node (listed' := (bma 11 127)) (fuel' := 4) (fun (F : Fr) (w : World) => F 2 = (.pointer (some ⟨b6, 0, none⟩)) ∧ F 7 = (.pointer (some ⟨b2133, 0, none⟩)) ∧ F 91 = v3047 ∧ F 92 = (.int .i64 x2149.1) ∧ F 93 = (.pointer (some ⟨b1, 0, none⟩)) ∧ Hp w0 [Ent.blk b2133 29 #[(.int .i64 x2123.1.Boats), v2126, v2128], Ent.frzS wz3003 S2125, Ent.frzS wz3005 S2127, Ent.blk b15 97 #[(.int .i64 x7.1.Boats), (.int .i64 x7.1.Scheme), v10], Ent.frzS wz3007 S2112, Ent.blk b6 29 #[(.int .i64 0), (.slice none 0 0), (.slice none 0 0)], Ent.blk b1 90 #[v2, (.int .i64 x2718.2.1), (.int .i64 x2718.2.2)], Ent.frz w0 (Ent.blk b1 90 #[v2, .int .i64 a0.at_, .int .i64 a0.seed]).S] w) ?_ (fun hN3099 => ?_)
         · intro F3132 wd3133 hJ
           obtain ⟨f3134, f3135, f3136, f3137, f3138, hL⟩ := hJ
           refine DH.only 7 rfl (by kernel_rfl) (OP.call rfl (x_call (vs := [(.pointer (some ⟨b1, 0, none⟩)), (.int .i64 2)]) Try_C86 ⟨f3138, rfl, trivial⟩) (M.spec_l01Next_ok _ (Src.mk a0.code x2718.2.1 x2718.2.2) (hL.exZ 7 6 (by decide) rfl rfl h3) (hL.get 6 rfl) 2 hx3054) ?_)
           rintro e3139 wd3140 ⟨rfl, hF3141⟩
           refine ⟨_, rfl, ?_⟩
           have hL := hL.mut 6 rfl hF3141
           simp only [lA, lB, lC, lD] at hL
           refine ⟨(hL.sel [0, 2, 3, 4, 5, 7] (by decide) rfl), ?_⟩
           have hS := (hL.sel [0, 2, 3, 4, 5, 7] (by decide) rfl)
           refine DH.take 8 rfl (by kernel_rfl) (by kernel_rfl) (by kernel_rfl) rfl rfl hS (YH.val (v := (.int .i64 (w64 (10000 + x3053.1)))) (fun w' hS' => x_add rfl rfl)) ?_
           have hS := (hL.sel [0, 2, 3, 4, 5, 7] (by decide) rfl)
           obtain ⟨hz3142, ha3146⟩ := idxE ha3059
           obtain ⟨b3143, q3144, hix3145⟩ := rdL_ix (hL.rdF 1 rfl hr3051) hz3142 ha3146
           refine DH.take 9 rfl (by kernel_rfl) (by kernel_rfl) (by kernel_rfl) rfl rfl hS (YH.val (v := (.pointer (some ⟨b3143, q3144, none⟩))) (fun w' hS' => x_ix U25 Try_T2 f3136 f3137 hix3145)) ?_
           exact DH.relist (listed' := (bma 11 1023)) (by kernel_rfl) (hN3097 _ _ ⟨b3143, q3144, hix3145, f3134, f3135, rfl, rfl, hL⟩)
         refine DH.all (rs := [4, 7]) (by kernel_rfl) (by simp) ?_
         intro i3147 hi3148
         simp only [List.mem_cons, List.not_mem_nil, or_false] at hi3148
         rcases hi3148 with rfl | rfl
         · refine ⟨_, rfl, ?_⟩
           refine OP.val (v := v3047) rfl (x_load1 U25 rfl rfl (hL.cellF 1 rfl hs3049 hc3050)) ?_
           refine ⟨(hL.sel [0, 2, 3, 4, 5, 7] (by decide) rfl), ?_⟩
           exact DH.relist (listed' := (bma 11 127)) (by kernel_rfl) (hN3099 _ _ ⟨f2139, f2140, rfl, rfl, rfl, hL⟩)
         refine ⟨_, rfl, ?_⟩
         refine OP.call rfl (x_call (vs := [(.pointer (some ⟨b1, 0, none⟩)), (.int .i64 2)]) Try_C86 ⟨rfl, rfl, trivial⟩) (M.spec_l01Next_ok _ (Src.mk a0.code x2718.2.1 x2718.2.2) (hL.exZ 7 6 (by decide) rfl rfl h3) (hL.get 6 rfl) 2 hx3054) ?_
         rintro e3149 wd3150 ⟨rfl, hF3151⟩
         refine ⟨_, rfl, ?_⟩
         have hL := hL.mut 6 rfl hF3151
         simp only [lA, lB, lC, lD] at hL
         refine ⟨(hL.sel [0, 2, 3, 4, 5, 7] (by decide) rfl), ?_⟩
         have hS := (hL.sel [0, 2, 3, 4, 5, 7] (by decide) rfl)
         refine DH.take 8 rfl (by kernel_rfl) (by kernel_rfl) (by kernel_rfl) rfl rfl hS (YH.val (v := (.int .i64 (w64 (10000 + x3053.1)))) (fun w' hS' => x_add rfl rfl)) ?_
         exact DH.relist (listed' := (bma 11 495)) (by kernel_rfl) (hN3098 _ _ ⟨f2139, f2140, rfl, rfl, rfl, hL⟩)
       refine CSR ?_
       refine OV (.bool (x2718.1 == 1)) rfl (x_eql rfl rfl) ?_
       refine OV (.bool (x2718.1 == 1)) rfl (x_assign) ?_
       refine OW.nil ?_
       refine CW.condM (t := x2718.1 == 1) rfl hm (fun hb3152 hm => ?_) (fun hb3152 hm => ?_)
       · obtain ⟨wz3153, hL, ho3154⟩ := hL.freeze 1 rfl
         simp only [lC, lD] at hL
         obtain ⟨wz3155, hL, ho3156⟩ := hL.freeze 2 rfl
         simp only [lC, lD] at hL
         obtain ⟨wz3157, hL, ho3158⟩ := hL.freeze 4 rfl
         simp only [lC, lD] at hL
         refine CW.drawH (fun w' => Hp w0 [Ent.blk b2133 29 #[(.int .i64 x2123.1.Boats), v2126, v2128], Ent.frzS wz3153 S2125, Ent.blk b15 97 #[(.int .i64 x7.1.Boats), (.int .i64 x7.1.Scheme), v10], Ent.frzS wz3157 S2112, Ent.blk b6 29 #[(.int .i64 0), (.slice none 0 0), (.slice none 0 0)], Ent.frz w0 (Ent.blk b1 90 #[v2, .int .i64 a0.at_, .int .i64 a0.seed]).S] w') Try_mixed ?_
         have hL := hL.call (Mod.drew _)
         have hS := (hL.sel [0, 1, 3, 4, 5, 7] (by decide) rfl)
         refine DH.take 0 rfl (by kernel_rfl) (by kernel_rfl) (by kernel_rfl) rfl rfl hS (YH.val (v := (.pointer (some ⟨b2133, 2, none⟩))) (fun w' hS' => x_fieldAddr (fsz := 1) 0 2 2 U29 rfl Try_T22 rfl f2140 rfl)) ?_
         have hS := (hL.sel [0, 1, 3, 4, 5, 7] (by decide) rfl)
         refine DH.take 1 rfl (by kernel_rfl) (by kernel_rfl) (by kernel_rfl) rfl rfl hS (YH.val (v := v2128) (fun w' hS' => x_load1 U22 rfl rfl (hS'.cellB 0 rfl rfl))) ?_
         have hS := (hL.sel [0, 1, 3, 4, 5, 7] (by decide) rfl)
         refine DH.take 2 rfl (by kernel_rfl) (by kernel_rfl) (by kernel_rfl) rfl rfl hS (YH.val (v := (.int .i64 x2144.1)) (fun w' hS' => x_move)) ?_
         have hS := (hL.sel [0, 1, 3, 4, 5, 7] (by decide) rfl)
         obtain ⟨x3192, ha3193, hm⟩ := bndE hm
         obtain ⟨hz3194, ha3202⟩ := idxE ha3193
         obtain ⟨b3195, q3196, v3197, hix3198, hs3199, hc3200, hr3201⟩ := rdN_at ho3156.1.rdL hz3194 ha3202
         refine DH.take 3 rfl (by kernel_rfl) (by kernel_rfl) (by kernel_rfl) rfl rfl hS (YH.val (v := (.pointer (some ⟨b3195, q3196, none⟩))) (fun w' hS' => x_ix U22 Try_T25 rfl rfl hix3198)) ?_
         have hS := (hL.sel [0, 1, 3, 4, 5, 7] (by decide) rfl)
         refine DH.take 5 rfl (by kernel_rfl) (by kernel_rfl) (by kernel_rfl) rfl rfl hS (YH.val (v := (.int .i64 x2149.1)) (fun w' hS' => x_move)) ?_
         have hS := (hL.sel [0, 1, 3, 4, 5, 7] (by decide) rfl)
         refine DH.take 6 rfl (by kernel_rfl) (by kernel_rfl) (by kernel_rfl) rfl rfl hS (YH.val (v := (.pointer (some ⟨b1, 0, none⟩))) (fun w' hS' => x_mv f2138)) ?_
         obtain ⟨x3203, hx3204, hm⟩ := bndE hm
         obtain ⟨x3208, ha3209, hm⟩ := bndE hm
         refine DH.node (listed' := (bma 11 2047)) (fuel' := 0) (fun (F : Fr) (w : World) => ∃ (v3250 : Value) (S3251 : Nat → Prop), F 2 = (.pointer (some ⟨b6, 0, none⟩)) ∧ F 7 = (.pointer (some ⟨b2133, 0, none⟩)) ∧ Hp w0 [Ent.blk b2133 29 #[(.int .i64 x2123.1.Boats), v2126, v3250], Ent.frzS wz3153 S2125, Ent.own 25 S3251 v3250 (x2123.1.Codes.set (x2144.1 : Int).toNat (x3192.set (x2149.1 : Int).toNat (w64 (10 - x3203.1)))), Ent.blk b15 97 #[(.int .i64 x7.1.Boats), (.int .i64 x7.1.Scheme), v10], Ent.frzS wz3157 S2112, Ent.blk b6 29 #[(.int .i64 0), (.slice none 0 0), (.slice none 0 0)], Ent.blk b1 90 #[v2, (.int .i64 x3203.2.1), (.int .i64 x3203.2.2)], Ent.frz w0 (Ent.blk b1 90 #[v2, .int .i64 a0.at_, .int .i64 a0.seed]).S] w) ?_ (fun hN3246 => ?_)
         · intro F3255 wd3256 hJ
           obtain ⟨v3250, S3251, f3257, f3258, hL⟩ := hJ
           refine DH.done (by kernel_rfl) ?_
           have hL := hL.thaw 1 rfl ho3154
           have hL := hL.thaw 4 rfl ho3158
           have hL := hL.rdxIn 1 rfl
           simp only [lC, lD] at hL
           have hL := hL.rdxIn 2 rfl
           simp only [lC, lD] at hL
           have hL := hL.sel [1, 2, 0, 3, 4, 5, 6, 7] (by decide) rfl
           exact ⟨(x3203.2.1, x3203.2.2, x2123.1.Points, x2123.1.Codes.set (x2144.1 : Int).toNat (x3192.set (x2149.1 : Int).toNat (w64 (10 - x3203.1)))), hm, ⟨v2126, S2125, v3250, S3251, f3257, f3258, hL⟩⟩
         refine DH.node (listed' := (bma 11 1023)) (fuel' := 1) (fun (F : Fr) (w : World) => ∃ (b3252 : Nat) (q3253 : Nat), IxAddr v3197 (GoT.sz Int) x2149.1 b3252 q3253 ∧ F 2 = (.pointer (some ⟨b6, 0, none⟩)) ∧ F 7 = (.pointer (some ⟨b2133, 0, none⟩)) ∧ F 107 = (.int .i64 (w64 (10 - x3203.1))) ∧ F 108 = (.pointer (some ⟨b3252, q3253, none⟩)) ∧ Hp w0 [Ent.blk b2133 29 #[(.int .i64 x2123.1.Boats), v2126, v2128], Ent.frzS wz3153 S2125, Ent.frzS wz3155 S2127, Ent.blk b15 97 #[(.int .i64 x7.1.Boats), (.int .i64 x7.1.Scheme), v10], Ent.frzS wz3157 S2112, Ent.blk b6 29 #[(.int .i64 0), (.slice none 0 0), (.slice none 0 0)], Ent.blk b1 90 #[v2, (.int .i64 x3203.2.1), (.int .i64 x3203.2.2)], Ent.frz w0 (Ent.blk b1 90 #[v2, .int .i64 a0.at_, .int .i64 a0.seed]).S] w) ?_ (fun hN3247 => ?_)
         · intro F3259 wd3260 hJ
           obtain ⟨b3252, q3253, hix3254, f3261, f3262, f3263, f3264, hL⟩ := hJ
           obtain ⟨_, ha3232⟩ := idxE ha3209
           have hc3266 := hL.cellF 2 rfl hs3199 hc3200
           have hL := hL.thaw 2 rfl ho3156
           simp only [lC, lD] at hL
           refine DH.only 10 rfl (by kernel_rfl) (S_inRow (α := Int) (x3192.set (x2149.1 : Int).toNat (w64 (10 - x3203.1))) (x3192.set (x2149.1 : Int).toNat (w64 (10 - x3203.1))) rfl hL 2 rfl hix3198 ha3202 hc3266 (fun E2 S1 hL hK => S_storeX (j := 0) (w64 (10 - x3203.1)) hL 0 rfl Try_T2 hix3254 ha3232 f3264 rfl rfl f3263 rfl rfl hK) ?_)
           intro wd3265 S3267 hL
           simp only [lC, lD] at hL
           refine ⟨(hL.sel [0, 1, 3, 4, 5, 7] (by decide) rfl), ?_⟩
           exact DH.relist (listed' := (bma 11 2047)) (by kernel_rfl) (hN3246 _ _ ⟨v2128, S3267, f3261, f3262, hL⟩)
         refine DH.node (listed' := (bma 11 495)) (fuel' := 3) (fun (F : Fr) (w : World) => F 2 = (.pointer (some ⟨b6, 0, none⟩)) ∧ F 7 = (.pointer (some ⟨b2133, 0, none⟩)) ∧ F 102 = (.pointer (some ⟨b3195, q3196, none⟩)) ∧ F 104 = (.int .i64 x2149.1) ∧ F 107 = (.int .i64 (w64 (10 - x3203.1))) ∧ Hp w0 [Ent.blk b2133 29 #[(.int .i64 x2123.1.Boats), v2126, v2128], Ent.frzS wz3153 S2125, Ent.frzS wz3155 S2127, Ent.blk b15 97 #[(.int .i64 x7.1.Boats), (.int .i64 x7.1.Scheme), v10], Ent.frzS wz3157 S2112, Ent.blk b6 29 #[(.int .i64 0), (.slice none 0 0), (.slice none 0 0)], Ent.blk b1 90 #[v2, (.int .i64 x3203.2.1), (.int .i64 x3203.2.2)], Ent.frz w0 (Ent.blk b1 90 #[v2, .int .i64 a0.at_, .int .i64 a0.seed]).S] w) ?_ (fun hN3248 => ?_)
         · intro F3270 wd3271 hJ
           obtain ⟨f3272, f3273, f3274, f3275, f3276, hL⟩ := hJ
           refine DH.only 4 rfl (by kernel_rfl) (OP.val (v := v3197) rfl (x_load1 U25 rfl f3274 (hL.cellF 2 rfl hs3199 hc3200)) ?_)
           refine ⟨(hL.sel [0, 1, 3, 4, 5, 7] (by decide) rfl), ?_⟩
           have hS := (hL.sel [0, 1, 3, 4, 5, 7] (by decide) rfl)
           obtain ⟨hz3277, ha3281⟩ := idxE ha3209
           obtain ⟨b3278, q3279, hix3280⟩ := rdL_ix (hL.rdF 2 rfl hr3201) hz3277 ha3281
           refine DH.take 9 rfl (by kernel_rfl) (by kernel_rfl) (by kernel_rfl) rfl rfl hS (YH.val (v := (.pointer (some ⟨b3278, q3279, none⟩))) (fun w' hS' => x_ix U25 Try_T2 rfl f3275 hix3280)) ?_
           exact DH.relist (listed' := (bma 11 1023)) (by kernel_rfl) (hN3247 _ _ ⟨b3278, q3279, hix3280, f3272, f3273, f3276, rfl, hL⟩)
         refine DH.node (listed' := (bma 11 127)) (fuel' := 4) (fun (F : Fr) (w : World) => F 2 = (.pointer (some ⟨b6, 0, none⟩)) ∧ F 7 = (.pointer (some ⟨b2133, 0, none⟩)) ∧ F 103 = v3197 ∧ F 104 = (.int .i64 x2149.1) ∧ F 105 = (.pointer (some ⟨b1, 0, none⟩)) ∧ Hp w0 [Ent.blk b2133 29 #[(.int .i64 x2123.1.Boats), v2126, v2128], Ent.frzS wz3153 S2125, Ent.frzS wz3155 S2127, Ent.blk b15 97 #[(.int .i64 x7.1.Boats), (.int .i64 x7.1.Scheme), v10], Ent.frzS wz3157 S2112, Ent.blk b6 29 #[(.int .i64 0), (.slice none 0 0), (.slice none 0 0)], Ent.blk b1 90 #[v2, (.int .i64 x2718.2.1), (.int .i64 x2718.2.2)], Ent.frz w0 (Ent.blk b1 90 #[v2, .int .i64 a0.at_, .int .i64 a0.seed]).S] w) ?_ (fun hN3249 => ?_)
         · intro F3282 wd3283 hJ
           obtain ⟨f3284, f3285, f3286, f3287, f3288, hL⟩ := hJ
           refine DH.only 7 rfl (by kernel_rfl) (OP.call rfl (x_call (vs := [(.pointer (some ⟨b1, 0, none⟩)), (.int .i64 2)]) Try_C86 ⟨f3288, rfl, trivial⟩) (M.spec_l01Next_ok _ (Src.mk a0.code x2718.2.1 x2718.2.2) (hL.exZ 7 6 (by decide) rfl rfl h3) (hL.get 6 rfl) 2 hx3204) ?_)
           rintro e3289 wd3290 ⟨rfl, hF3291⟩
           refine ⟨_, rfl, ?_⟩
           have hL := hL.mut 6 rfl hF3291
           simp only [lA, lB, lC, lD] at hL
           refine ⟨(hL.sel [0, 1, 3, 4, 5, 7] (by decide) rfl), ?_⟩
           have hS := (hL.sel [0, 1, 3, 4, 5, 7] (by decide) rfl)
           refine DH.take 8 rfl (by kernel_rfl) (by kernel_rfl) (by kernel_rfl) rfl rfl hS (YH.val (v := (.int .i64 (w64 (10 - x3203.1)))) (fun w' hS' => x_sub rfl rfl)) ?_
           have hS := (hL.sel [0, 1, 3, 4, 5, 7] (by decide) rfl)
           obtain ⟨hz3292, ha3296⟩ := idxE ha3209
           obtain ⟨b3293, q3294, hix3295⟩ := rdL_ix (hL.rdF 2 rfl hr3201) hz3292 ha3296
           refine DH.take 9 rfl (by kernel_rfl) (by kernel_rfl) (by kernel_rfl) rfl rfl hS (YH.val (v := (.pointer (some ⟨b3293, q3294, none⟩))) (fun w' hS' => x_ix U25 Try_T2 f3286 f3287 hix3295)) ?_
           exact DH.relist (listed' := (bma 11 1023)) (by kernel_rfl) (hN3247 _ _ ⟨b3293, q3294, hix3295, f3284, f3285, rfl, rfl, hL⟩)
         refine DH.all (rs := [4, 7]) (by kernel_rfl) (by simp) ?_
         intro i3297 hi3298
         simp only [List.mem_cons, List.not_mem_nil, or_false] at hi3298
         rcases hi3298 with rfl | rfl
         · refine ⟨_, rfl, ?_⟩
           refine OP.val (v := v3197) rfl (x_load1 U25 rfl rfl (hL.cellF 2 rfl hs3199 hc3200)) ?_
           refine ⟨(hL.sel [0, 1, 3, 4, 5, 7] (by decide) rfl), ?_⟩
           exact DH.relist (listed' := (bma 11 127)) (by kernel_rfl) (hN3249 _ _ ⟨f2139, f2140, rfl, rfl, rfl, hL⟩)
         refine ⟨_, rfl, ?_⟩
         refine OP.call rfl (x_call (vs := [(.pointer (some ⟨b1, 0, none⟩)), (.int .i64 2)]) Try_C86 ⟨rfl, rfl, trivial⟩) (M.spec_l01Next_ok _ (Src.mk a0.code x2718.2.1 x2718.2.2) (hL.exZ 7 6 (by decide) rfl rfl h3) (hL.get 6 rfl) 2 hx3204) ?_
         rintro e3299 wd3300 ⟨rfl, hF3301⟩
         refine ⟨_, rfl, ?_⟩
         have hL := hL.mut 6 rfl hF3301
         simp only [lA, lB, lC, lD] at hL
         refine ⟨(hL.sel [0, 1, 3, 4, 5, 7] (by decide) rfl), ?_⟩
         have hS := (hL.sel [0, 1, 3, 4, 5, 7] (by decide) rfl)
         refine DH.take 8 rfl (by kernel_rfl) (by kernel_rfl) (by kernel_rfl) rfl rfl hS (YH.val (v := (.int .i64 (w64 (10 - x3203.1)))) (fun w' hS' => x_sub rfl rfl)) ?_
         exact DH.relist (listed' := (bma 11 495)) (by kernel_rfl) (hN3248 _ _ ⟨f2139, f2140, rfl, rfl, rfl, hL⟩)
       refine CSR ?_
       refine OV (.bool (x2718.1 == 2)) rfl (x_eql rfl rfl) ?_
       refine OV (.bool (x2718.1 == 2)) rfl (x_assign) ?_
       refine OW.nil ?_
       refine CW.condM (t := x2718.1 == 2) rfl hm (fun hb3302 hm => ?_) (fun hb3302 hm => ?_)
       · obtain ⟨wz3303, hL, ho3304⟩ := hL.freeze 1 rfl
         simp only [lC, lD] at hL
         obtain ⟨wz3305, hL, ho3306⟩ := hL.freeze 2 rfl
         simp only [lC, lD] at hL
         obtain ⟨wz3307, hL, ho3308⟩ := hL.freeze 4 rfl
         simp only [lC, lD] at hL
         refine CW.draw Try_mixed ?_
         have hL := hL.call (Mod.drew _)
         refine DW.pre (fuel := 1) (fin := bma 11 1023) (C := fun w' => Mod None_ _ w') [0, 1, 2, 3, 4, 5, 6, 7, 8, 9] (Mod.refl _ _) (by kernel_rfl) (by kernel_rfl) ?_
         refine QW.cons rfl (QP.val (v := (.pointer (some ⟨b2133, 1, none⟩))) rfl (fun w' hm' => x_fieldAddr (fsz := 1) 0 1 1 U29 rfl Try_T22 rfl f2140 rfl) ?_)
         refine QW.cons rfl (QP.val (v := v2126) rfl (fun w' hm' => x_load1 U22 rfl rfl ((hL.call hm').cellB 0 rfl rfl)) ?_)
         refine QW.cons rfl (QP.val (v := (.int .i64 x2144.1)) rfl (fun w' hm' => x_move) ?_)
         refine QW.cons rfl (QP.val (v := (.pointer (some ⟨b2133, 1, none⟩))) rfl (fun w' hm' => x_fieldAddr (fsz := 1) 0 1 1 U29 rfl Try_T22 rfl f2140 rfl) ?_)
         refine QW.cons rfl (QP.val (v := v2126) rfl (fun w' hm' => x_load1 U22 rfl rfl ((hL.call hm').cellB 0 rfl rfl)) ?_)
         refine QW.cons rfl (QP.val (v := (.int .i64 x2144.1)) rfl (fun w' hm' => x_move) ?_)
         obtain ⟨x3309, ha3310, hm⟩ := bndE hm
         obtain ⟨hz3311, ha3319⟩ := idxE ha3310
         obtain ⟨b3312, q3313, v3314, hix3315, hs3316, hc3317, hr3318⟩ := rdN_at ho3304.1.rdL hz3311 ha3319
         refine QW.cons rfl (QP.val (v := (.pointer (some ⟨b3312, q3313, none⟩))) rfl (fun w' hm' => x_ix U22 Try_T25 rfl rfl hix3315) ?_)
         refine QW.cons rfl (QP.val (v := v3314) rfl (fun w' hm' => x_load1 U25 rfl rfl ((hL.call hm').cellF 1 rfl hs3316 hc3317)) ?_)
         obtain ⟨hc3322, hm⟩ := chkE hm
         obtain ⟨v3320, hs3321⟩ := subV_of (hL.rdF 1 rfl hr3318) hc3322
         refine QW.cons rfl (QP.val (v := v3320) rfl (fun w' hm' => x_slice1 U25 Try_T2 rfl rfl (subV_len (hL.rdF 1 rfl hr3318)) hs3321) ?_)
         obtain ⟨x3323, ha3324, hm⟩ := bndE hm
         obtain ⟨hz3325, ha3333⟩ := idxE ha3324
         obtain ⟨b3326, q3327, v3328, hix3329, hs3330, hc3331, hr3332⟩ := rdN_at ho3304.1.rdL hz3325 ha3333
         refine QW.cons rfl (QP.val (v := (.pointer (some ⟨b3326, q3327, none⟩))) rfl (fun w' hm' => x_ix U22 Try_T25 rfl rfl hix3329) ?_)
         refine QW.nil ?_
         intro wd3334 hmod
         have hL := hL.call hmod
         have hc3336 := hL.cellF 1 rfl hs3316 hc3317
         have hL := hL.thaw 1 rfl ho3304
         simp only [lC, lD] at hL
         refine DW.only 10 rfl (by kernel_rfl) (S_rowTail (subL x3309 1 (x3309.length : Int)) hL 1 rfl Try_T25 hix3315 ha3319 hc3336 (fun S w h => SubV.rdL hs3321 h) hix3329 rfl rfl ?_)
         intro wd3335 hL
         simp only [lC, lD] at hL
         refine DW.done (by kernel_rfl) ?_
         have hL := hL.thaw 2 rfl ho3306
         have hL := hL.thaw 4 rfl ho3308
         have hL := hL.rdxIn 2 rfl
         simp only [lC, lD] at hL
         have hL := hL.sel [1, 2, 0, 3, 4, 5, 6, 7] (by decide) rfl
         exact ⟨(x2718.2.1, x2718.2.2, x2123.1.Points.set (x2144.1 : Int).toNat (subL x3309 1 (x3309.length : Int)), x2123.1.Codes), hm, ⟨v2126, S2125, v2128, S2127, f2139, f2140, hL⟩⟩
       refine CSR ?_
       refine OV (.bool (x2718.1 == 3)) rfl (x_eql rfl rfl) ?_
       refine OV (.bool (x2718.1 == 3)) rfl (x_assign) ?_
       refine OW.nil ?_
       refine CW.condM (t := x2718.1 == 3) rfl hm (fun hb3337 hm => ?_) (fun hb3337 hm => ?_)
       · refine CW.regionL ?_
         refine OV (.pointer (some ⟨b2133, 2, none⟩)) rfl (x_fieldAddr (fsz := 1) 0 2 2 U29 rfl Try_T22 rfl f2140 rfl) ?_
         refine OV v2128 rfl (x_load1 U22 rfl rfl (hL.cellB 0 rfl rfl)) ?_
         obtain ⟨hc3340, hm⟩ := chkE hm
         obtain ⟨v3338, hs3339⟩ := subV_of (hL.rdO 2 rfl) hc3340
         refine OV v3338 rfl (x_slice1 U22 Try_T25 rfl rfl (subV_len (hL.rdO 2 rfl)) hs3339) ?_
         refine OV (.pointer (some ⟨b2133, 2, none⟩)) rfl (x_fieldAddr (fsz := 1) 0 2 2 U29 rfl Try_T22 rfl f2140 rfl) ?_
         refine OW.cons (S_store (cs' := #[(.int .i64 x2123.1.Boats), v2126, v3338]) hL 0 rfl Try_T22 rfl (rdL_one (SubV.rdL hs3339 (hL.rdO 2 rfl))) rfl rfl rfl ?_)
         intro wd3341 hL
         refine OW.nil ?_
         have hL := hL.rdxIn 1 rfl
         simp only [lC, lD] at hL
         have hL := hL.rdxSub 2 rfl hs3339
         simp only [lC, lD] at hL
         have hL := hL.sel [1, 2, 0, 3, 4, 5, 6, 7] (by decide) rfl
         exact ⟨(x2718.2.1, x2718.2.2, x2123.1.Points, subL x2123.1.Codes 1 (x2123.1.Codes.length : Int)), hm, ⟨v2126, S2125, v3338, S2127, f2139, f2140, hL⟩⟩
       refine CW.seqJ (fun (s_j4 : Bool) (F : Fr) (w : World) => F 0 = (.pointer (some ⟨b1, 0, none⟩)) ∧ F 2 = (.pointer (some ⟨b6, 0, none⟩)) ∧ F 7 = (.pointer (some ⟨b2133, 0, none⟩)) ∧ F 9 = (.int .i64 x2144.1) ∧ F 10 = (.int .i64 x2149.1) ∧ F 127 = (.bool s_j4) ∧ Hp w0 [Ent.blk b2133 29 #[(.int .i64 x2123.1.Boats), v2126, v2128], Ent.own 25 S2125 v2126 x2123.1.Points, Ent.own 25 S2127 v2128 x2123.1.Codes, Ent.blk b15 97 #[(.int .i64 x7.1.Boats), (.int .i64 x7.1.Scheme), v10], Ent.own 101 S2112 v10 s_l1.2.2.1, Ent.blk b6 29 #[(.int .i64 0), (.slice none 0 0), (.slice none 0 0)], Ent.blk b1 90 #[v2, (.int .i64 x2718.2.1), (.int .i64 x2718.2.2)], Ent.frz w0 (Ent.blk b1 90 #[v2, .int .i64 a0.at_, .int .i64 a0.seed]).S] w) (fun s_j4 => M.spec_l26DrawTable_j4 a0 x2123 x2144 x2149 x2718 s_j4 = some r) ?_ ?_
       · refine CSR ?_
         refine OV (.bool (x2718.1 == 4)) rfl (x_eql rfl rfl) ?_
         refine OV (.bool (x2718.1 == 4)) rfl (x_assign) ?_
         refine OW.nil ?_
         refine CW.condM (t := x2718.1 == 4) rfl hm (fun hb3502 hm => ?_) (fun hb3502 hm => ?_)
         · refine CW.skip ?_
           exact ⟨x2718.1 == 4, hm, ⟨f2138, f2139, f2140, rfl, rfl, rfl, hL⟩⟩
         refine CSR ?_
         refine OV (.bool (x2718.1 == 5)) rfl (x_eql rfl rfl) ?_
         refine OV (.bool (x2718.1 == 5)) rfl (x_assign) ?_
         refine OW.nil ?_
         refine CW.condM (t := x2718.1 == 5) rfl hm (fun hb3503 hm => ?_) (fun hb3503 hm => ?_)
         · refine CW.skip ?_
           exact ⟨x2718.1 == 5, hm, ⟨f2138, f2139, f2140, rfl, rfl, rfl, hL⟩⟩
         refine CW.regionL ?_
         refine OV (.bool (x2718.1 == 6)) rfl (x_eql rfl rfl) ?_
         refine OV (.bool (x2718.1 == 6)) rfl (x_assign) ?_
         refine OW.nil ?_
         exact ⟨x2718.1 == 6, hm, ⟨f2138, f2139, f2140, rfl, rfl, rfl, hL⟩⟩
       intro s_j4 F3344 wd3345 hJ hm
       unfold M.spec_l26DrawTable_j4 at hm
       obtain ⟨f3346, f3347, f3348, f3349, f3350, f3351, hL⟩ := hJ
       refine CW.condM (t := s_j4) f3351 hm (fun hb3352 hm => ?_) (fun hb3352 hm => ?_)
       · obtain ⟨wz3353, hL, ho3354⟩ := hL.freeze 1 rfl
         simp only [lC, lD] at hL
         obtain ⟨wz3355, hL, ho3356⟩ := hL.freeze 2 rfl
         simp only [lC, lD] at hL
         obtain ⟨wz3357, hL, ho3358⟩ := hL.freeze 4 rfl
         simp only [lC, lD] at hL
         refine CW.drawH (fun w' => Hp w0 [Ent.blk b2133 29 #[(.int .i64 x2123.1.Boats), v2126, v2128], Ent.frzS wz3355 S2127, Ent.blk b15 97 #[(.int .i64 x7.1.Boats), (.int .i64 x7.1.Scheme), v10], Ent.frzS wz3357 S2112, Ent.blk b6 29 #[(.int .i64 0), (.slice none 0 0), (.slice none 0 0)], Ent.frz w0 (Ent.blk b1 90 #[v2, .int .i64 a0.at_, .int .i64 a0.seed]).S] w') Try_mixed ?_
         have hL := hL.call (Mod.drew _)
         have hS := (hL.sel [0, 2, 3, 4, 5, 7] (by decide) rfl)
         refine DH.take 0 rfl (by kernel_rfl) (by kernel_rfl) (by kernel_rfl) rfl rfl hS (YH.val (v := (.pointer (some ⟨b2133, 1, none⟩))) (fun w' hS' => x_fieldAddr (fsz := 1) 0 1 1 U29 rfl Try_T22 rfl f3348 rfl)) ?_
         have hS := (hL.sel [0, 2, 3, 4, 5, 7] (by decide) rfl)
         refine DH.take 1 rfl (by kernel_rfl) (by kernel_rfl) (by kernel_rfl) rfl rfl hS (YH.val (v := v2126) (fun w' hS' => x_load1 U22 rfl rfl (hS'.cellB 0 rfl rfl))) ?_
         have hS := (hL.sel [0, 2, 3, 4, 5, 7] (by decide) rfl)
         refine DH.take 2 rfl (by kernel_rfl) (by kernel_rfl) (by kernel_rfl) rfl rfl hS (YH.val (v := (.int .i64 x2144.1)) (fun w' hS' => x_mv f3349)) ?_
         have hS := (hL.sel [0, 2, 3, 4, 5, 7] (by decide) rfl)
         obtain ⟨x3392, ha3393, hm⟩ := bndE hm
         obtain ⟨hz3394, ha3402⟩ := idxE ha3393
         obtain ⟨b3395, q3396, v3397, hix3398, hs3399, hc3400, hr3401⟩ := rdN_at ho3354.1.rdL hz3394 ha3402
         refine DH.take 3 rfl (by kernel_rfl) (by kernel_rfl) (by kernel_rfl) rfl rfl hS (YH.val (v := (.pointer (some ⟨b3395, q3396, none⟩))) (fun w' hS' => x_ix U22 Try_T25 rfl rfl hix3398)) ?_
         have hS := (hL.sel [0, 2, 3, 4, 5, 7] (by decide) rfl)
         refine DH.take 5 rfl (by kernel_rfl) (by kernel_rfl) (by kernel_rfl) rfl rfl hS (YH.val (v := (.int .i64 x2149.1)) (fun w' hS' => x_mv f3350)) ?_
         have hS := (hL.sel [0, 2, 3, 4, 5, 7] (by decide) rfl)
         refine DH.take 6 rfl (by kernel_rfl) (by kernel_rfl) (by kernel_rfl) rfl rfl hS (YH.val (v := (.pointer (some ⟨b1, 0, none⟩))) (fun w' hS' => x_mv f3346)) ?_
         obtain ⟨x3403, hx3404, hm⟩ := bndE hm
         obtain ⟨x3408, ha3409, hm⟩ := bndE hm
         refine DH.node (listed' := (bma 11 2047)) (fuel' := 0) (fun (F : Fr) (w : World) => ∃ (v3450 : Value) (S3451 : Nat → Prop), F 2 = (.pointer (some ⟨b6, 0, none⟩)) ∧ F 7 = (.pointer (some ⟨b2133, 0, none⟩)) ∧ Hp w0 [Ent.blk b2133 29 #[(.int .i64 x2123.1.Boats), v3450, v2128], Ent.own 25 S3451 v3450 (x2123.1.Points.set (x2144.1 : Int).toNat (x3392.set (x2149.1 : Int).toNat (w64 (10 * x3403.1)))), Ent.frzS wz3355 S2127, Ent.blk b15 97 #[(.int .i64 x7.1.Boats), (.int .i64 x7.1.Scheme), v10], Ent.frzS wz3357 S2112, Ent.blk b6 29 #[(.int .i64 0), (.slice none 0 0), (.slice none 0 0)], Ent.blk b1 90 #[v2, (.int .i64 x3403.2.1), (.int .i64 x3403.2.2)], Ent.frz w0 (Ent.blk b1 90 #[v2, .int .i64 a0.at_, .int .i64 a0.seed]).S] w) ?_ (fun hN3446 => ?_)
         · intro F3455 wd3456 hJ
           obtain ⟨v3450, S3451, f3457, f3458, hL⟩ := hJ
           refine DH.done (by kernel_rfl) ?_
           have hL := hL.thaw 2 rfl ho3356
           have hL := hL.thaw 4 rfl ho3358
           have hL := hL.rdxIn 1 rfl
           simp only [lC, lD] at hL
           have hL := hL.rdxIn 2 rfl
           simp only [lC, lD] at hL
           have hL := hL.sel [1, 2, 0, 3, 4, 5, 6, 7] (by decide) rfl
           exact ⟨(x3403.2.1, x3403.2.2, x2123.1.Points.set (x2144.1 : Int).toNat (x3392.set (x2149.1 : Int).toNat (w64 (10 * x3403.1))), x2123.1.Codes), hm, ⟨v3450, S3451, v2128, S2127, f3457, f3458, hL⟩⟩
         refine DH.node (listed' := (bma 11 1023)) (fuel' := 1) (fun (F : Fr) (w : World) => ∃ (b3452 : Nat) (q3453 : Nat), IxAddr v3397 (GoT.sz Int) x2149.1 b3452 q3453 ∧ F 2 = (.pointer (some ⟨b6, 0, none⟩)) ∧ F 7 = (.pointer (some ⟨b2133, 0, none⟩)) ∧ F 139 = (.int .i64 (w64 (10 * x3403.1))) ∧ F 140 = (.pointer (some ⟨b3452, q3453, none⟩)) ∧ Hp w0 [Ent.blk b2133 29 #[(.int .i64 x2123.1.Boats), v2126, v2128], Ent.frzS wz3353 S2125, Ent.frzS wz3355 S2127, Ent.blk b15 97 #[(.int .i64 x7.1.Boats), (.int .i64 x7.1.Scheme), v10], Ent.frzS wz3357 S2112, Ent.blk b6 29 #[(.int .i64 0), (.slice none 0 0), (.slice none 0 0)], Ent.blk b1 90 #[v2, (.int .i64 x3403.2.1), (.int .i64 x3403.2.2)], Ent.frz w0 (Ent.blk b1 90 #[v2, .int .i64 a0.at_, .int .i64 a0.seed]).S] w) ?_ (fun hN3447 => ?_)
         · intro F3459 wd3460 hJ
           obtain ⟨b3452, q3453, hix3454, f3461, f3462, f3463, f3464, hL⟩ := hJ
           obtain ⟨_, ha3432⟩ := idxE ha3409
           have hc3466 := hL.cellF 1 rfl hs3399 hc3400
           have hL := hL.thaw 1 rfl ho3354
           simp only [lC, lD] at hL
           refine DH.only 10 rfl (by kernel_rfl) (S_inRow (α := Int) (x3392.set (x2149.1 : Int).toNat (w64 (10 * x3403.1))) (x3392.set (x2149.1 : Int).toNat (w64 (10 * x3403.1))) rfl hL 1 rfl hix3398 ha3402 hc3466 (fun E2 S1 hL hK => S_storeX (j := 0) (w64 (10 * x3403.1)) hL 0 rfl Try_T2 hix3454 ha3432 f3464 rfl rfl f3463 rfl rfl hK) ?_)
           intro wd3465 S3467 hL
           simp only [lC, lD] at hL
           refine ⟨(hL.sel [0, 2, 3, 4, 5, 7] (by decide) rfl), ?_⟩
           exact DH.relist (listed' := (bma 11 2047)) (by kernel_rfl) (hN3446 _ _ ⟨v2126, S3467, f3461, f3462, hL⟩)
         refine DH.node (listed' := (bma 11 495)) (fuel' := 3) (fun (F : Fr) (w : World) => F 2 = (.pointer (some ⟨b6, 0, none⟩)) ∧ F 7 = (.pointer (some ⟨b2133, 0, none⟩)) ∧ F 134 = (.pointer (some ⟨b3395, q3396, none⟩)) ∧ F 136 = (.int .i64 x2149.1) ∧ F 139 = (.int .i64 (w64 (10 * x3403.1))) ∧ Hp w0 [Ent.blk b2133 29 #[(.int .i64 x2123.1.Boats), v2126, v2128], Ent.frzS wz3353 S2125, Ent.frzS wz3355 S2127, Ent.blk b15 97 #[(.int .i64 x7.1.Boats), (.int .i64 x7.1.Scheme), v10], Ent.frzS wz3357 S2112, Ent.blk b6 29 #[(.int .i64 0), (.slice none 0 0), (.slice none 0 0)], Ent.blk b1 90 #[v2, (.int .i64 x3403.2.1), (.int .i64 x3403.2.2)], Ent.frz w0 (Ent.blk b1 90 #[v2, .int .i64 a0.at_, .int .i64 a0.seed]).S] w) ?_ (fun hN3448 => ?_)
         · intro F3470 wd3471 hJ
           obtain ⟨f3472, f3473, f3474, f3475, f3476, hL⟩ := hJ
           refine DH.only 4 rfl (by kernel_rfl) (OP.val (v := v3397) rfl (x_load1 U25 rfl f3474 (hL.cellF 1 rfl hs3399 hc3400)) ?_)
           refine ⟨(hL.sel [0, 2, 3, 4, 5, 7] (by decide) rfl), ?_⟩
           have hS := (hL.sel [0, 2, 3, 4, 5, 7] (by decide) rfl)
           obtain ⟨hz3477, ha3481⟩ := idxE ha3409
           obtain ⟨b3478, q3479, hix3480⟩ := rdL_ix (hL.rdF 1 rfl hr3401) hz3477 ha3481
           refine DH.take 9 rfl (by kernel_rfl) (by kernel_rfl) (by kernel_rfl) rfl rfl hS (YH.val (v := (.pointer (some ⟨b3478, q3479, none⟩))) (fun w' hS' => x_ix U25 Try_T2 rfl f3475 hix3480)) ?_
           exact DH.relist (listed' := (bma 11 1023)) (by kernel_rfl) (hN3447 _ _ ⟨b3478, q3479, hix3480, f3472, f3473, f3476, rfl, hL⟩)
         refine DH.node (listed' := (bma 11 127)) (fuel' := 4) (fun (F : Fr) (w : World) => F 2 = (.pointer (some ⟨b6, 0, none⟩)) ∧ F 7 = (.pointer (some ⟨b2133, 0, none⟩)) ∧ F 135 = v3397 ∧ F 136 = (.int .i64 x2149.1) ∧ F 137 = (.pointer (some ⟨b1, 0, none⟩)) ∧ Hp w0 [Ent.blk b2133 29 #[(.int .i64 x2123.1.Boats), v2126, v2128], Ent.frzS wz3353 S2125, Ent.frzS wz3355 S2127, Ent.blk b15 97 #[(.int .i64 x7.1.Boats), (.int .i64 x7.1.Scheme), v10], Ent.frzS wz3357 S2112, Ent.blk b6 29 #[(.int .i64 0), (.slice none 0 0), (.slice none 0 0)], Ent.blk b1 90 #[v2, (.int .i64 x2718.2.1), (.int .i64 x2718.2.2)], Ent.frz w0 (Ent.blk b1 90 #[v2, .int .i64 a0.at_, .int .i64 a0.seed]).S] w) ?_ (fun hN3449 => ?_)
         · intro F3482 wd3483 hJ
           obtain ⟨f3484, f3485, f3486, f3487, f3488, hL⟩ := hJ
           refine DH.only 7 rfl (by kernel_rfl) (OP.call rfl (x_call (vs := [(.pointer (some ⟨b1, 0, none⟩)), (.int .i64 8)]) Try_C86 ⟨f3488, rfl, trivial⟩) (M.spec_l01Next_ok _ (Src.mk a0.code x2718.2.1 x2718.2.2) (hL.exZ 7 6 (by decide) rfl rfl h3) (hL.get 6 rfl) 8 hx3404) ?_)
           rintro e3489 wd3490 ⟨rfl, hF3491⟩
           refine ⟨_, rfl, ?_⟩
           have hL := hL.mut 6 rfl hF3491
           simp only [lA, lB, lC, lD] at hL
           refine ⟨(hL.sel [0, 2, 3, 4, 5, 7] (by decide) rfl), ?_⟩
           have hS := (hL.sel [0, 2, 3, 4, 5, 7] (by decide) rfl)
           refine DH.take 8 rfl (by kernel_rfl) (by kernel_rfl) (by kernel_rfl) rfl rfl hS (YH.val (v := (.int .i64 (w64 (10 * x3403.1)))) (fun w' hS' => x_mul rfl rfl)) ?_
           have hS := (hL.sel [0, 2, 3, 4, 5, 7] (by decide) rfl)
           obtain ⟨hz3492, ha3496⟩ := idxE ha3409
           obtain ⟨b3493, q3494, hix3495⟩ := rdL_ix (hL.rdF 1 rfl hr3401) hz3492 ha3496
           refine DH.take 9 rfl (by kernel_rfl) (by kernel_rfl) (by kernel_rfl) rfl rfl hS (YH.val (v := (.pointer (some ⟨b3493, q3494, none⟩))) (fun w' hS' => x_ix U25 Try_T2 f3486 f3487 hix3495)) ?_
           exact DH.relist (listed' := (bma 11 1023)) (by kernel_rfl) (hN3447 _ _ ⟨b3493, q3494, hix3495, f3484, f3485, rfl, rfl, hL⟩)
         refine DH.all (rs := [4, 7]) (by kernel_rfl) (by simp) ?_
         intro i3497 hi3498
         simp only [List.mem_cons, List.not_mem_nil, or_false] at hi3498
         rcases hi3498 with rfl | rfl
         · refine ⟨_, rfl, ?_⟩
           refine OP.val (v := v3397) rfl (x_load1 U25 rfl rfl (hL.cellF 1 rfl hs3399 hc3400)) ?_
           refine ⟨(hL.sel [0, 2, 3, 4, 5, 7] (by decide) rfl), ?_⟩
           exact DH.relist (listed' := (bma 11 127)) (by kernel_rfl) (hN3449 _ _ ⟨f3347, f3348, rfl, rfl, rfl, hL⟩)
         refine ⟨_, rfl, ?_⟩
         refine OP.call rfl (x_call (vs := [(.pointer (some ⟨b1, 0, none⟩)), (.int .i64 8)]) Try_C86 ⟨rfl, rfl, trivial⟩) (M.spec_l01Next_ok _ (Src.mk a0.code x2718.2.1 x2718.2.2) (hL.exZ 7 6 (by decide) rfl rfl h3) (hL.get 6 rfl) 8 hx3404) ?_
         rintro e3499 wd3500 ⟨rfl, hF3501⟩
         refine ⟨_, rfl, ?_⟩
         have hL := hL.mut 6 rfl hF3501
         simp only [lA, lB, lC, lD] at hL
         refine ⟨(hL.sel [0, 2, 3, 4, 5, 7] (by decide) rfl), ?_⟩
         have hS := (hL.sel [0, 2, 3, 4, 5, 7] (by decide) rfl)
         refine DH.take 8 rfl (by kernel_rfl) (by kernel_rfl) (by kernel_rfl) rfl rfl hS (YH.val (v := (.int .i64 (w64 (10 * x3403.1)))) (fun w' hS' => x_mul rfl rfl)) ?_
         exact DH.relist (listed' := (bma 11 495)) (by kernel_rfl) (hN3448 _ _ ⟨f3347, f3348, rfl, rfl, rfl, hL⟩)
       refine CW.skip ?_
       have hL := hL.rdxIn 1 rfl
       simp only [lC, lD] at hL
       have hL := hL.rdxIn 2 rfl
       simp only [lC, lD] at hL
       have hL := hL.sel [1, 2, 0, 3, 4, 5, 6, 7] (by decide) rfl
       exact ⟨(x2718.2.1, x2718.2.2, x2123.1.Points, x2123.1.Codes), hm, ⟨v2126, S2125, v2128, S2127, f3347, f3348, hL⟩⟩
     intro s_j3 F2998 wd2999 hJ hm
     unfold M.spec_l26DrawTable_j3 at hm
     obtain ⟨v2994, S2995, v2996, S2997, f3000, f3001, hL⟩ := hJ
     exact ⟨(s_j3.1, s_j3.2.1, s_j3.2.2.1, s_j3.2.2.2), hm, ⟨v2994, S2995, v2996, S2997, f3000, f3001, hL⟩⟩
   intro s_j2 F2713 wd2714 hJ hm
   unfold M.spec_l26DrawTable_j2 at hm
   obtain ⟨v2709, S2710, v2711, S2712, f2715, f2716, hL⟩ := hJ
   refine CSR ?_
   refine OV (.agg #[(.int .i64 x2123.1.Boats), v2709, v2711]) rfl (x_loadN (cs := [(.int .i64 x2123.1.Boats), v2709, v2711]) U29 Try_T29 rfl f2716 (hL.cellsB 2 rfl (o := 0) (l := [(.int .i64 x2123.1.Boats), v2709, v2711]) (by intro j u hj; exact (by simpa using hj)))) ?_
   refine OW.cons (S_storeN (l := [(.int .i64 x2123.1.Boats), v2709, v2711]) (cs' := #[(.int .i64 x2123.1.Boats), v2709, v2711]) hL 5 rfl Try_T29 f2715 rfl (List.forall_mem_cons.2 ⟨rfl, (List.forall_mem_cons.2 ⟨rdL_one (hL.rdX 0 rfl), (List.forall_mem_cons.2 ⟨rdL_one (hL.rdX 1 rfl), (fun _ h => by cases h)⟩)⟩)⟩) rfl (Nat.le_of_ble_eq_true rfl) rfl ?_)
   intro wd2717 hL
   refine OW.nil ?_
   refine CW.ret ?_
   obtain rfl := Option.some.inj hm
   exact RRc rfl f2715 (run_loadBlk U29 Try_T29 (hL.get 5 rfl) rfl) ⟨v2709, S2710, v2711, S2712, rfl, hL.mutOut 7 rfl [6, 0, 1] (by decide) (by decide) rfl⟩
 intro s_l1 F3505 wd3506 t2113 hJ hm hr2114
 unfold M.spec_l26DrawTable_l1 at hm
 obtain ⟨S2112, f3507, f3508, f3509, f3510, hL⟩ := hJ
 refine CW.seq ?_
 refine CSR ?_
 refine OV (.int .i64 s_l1.2.2.2) rfl (x_mv f3510) ?_
 refine OV (.pointer (some ⟨b15, 2, none⟩)) rfl (x_fieldAddr (fsz := 1) 0 2 2 U97 rfl Try_T95 rfl f3509 rfl) ?_
 refine OV v10 rfl (x_load1 U95 rfl rfl (hL.cellB 0 rfl rfl)) ?_
 refine OV (.int .i64 (s_l1.2.2.1.length : Int)) rfl (x_lenR U95 rfl (hL.rdO 1 rfl)) ?_
 refine OV (.bool (decide (s_l1.2.2.2 < (s_l1.2.2.1.length : Int)))) rfl (x_lss rfl rfl) ?_
 refine OW.nil ?_
 refine CW.condM (t := decide (s_l1.2.2.2 < (s_l1.2.2.1.length : Int))) rfl hm (fun hb3511 hm => ?_) (fun hb3511 hm => ?_)
 · refine CW.skip ?_
   refine CW.seq ?_
   refine CW.block ?_
   refine CSR ?_
   refine OV (.int .i64 0) rfl (x_assign) ?_
   refine OW.nil ?_
   obtain ⟨o4200, ho4201, hm⟩ := bndE hm
   refine CW.loopB (fun (s_l2 : Int × Int × (List Race) × Int) (F : Fr) (w : World) => ∃ (S4197 : Nat → Prop), F 0 = (.pointer (some ⟨b1, 0, none⟩)) ∧ F 2 = (.pointer (some ⟨b6, 0, none⟩)) ∧ F 3 = (.pointer (some ⟨b15, 0, none⟩)) ∧ F 4 = (.int .i64 s_l1.2.2.2) ∧ F 5 = (.int .i64 s_l2.2.2.2) ∧ Hp w0 [Ent.blk b15 97 #[(.int .i64 x7.1.Boats), (.int .i64 x7.1.Scheme), v10], Ent.own 101 S4197 v10 s_l2.2.2.1, Ent.blk b6 29 #[(.int .i64 0), (.slice none 0 0), (.slice none 0 0)], Ent.blk b1 90 #[v2, (.int .i64 s_l2.1), (.int .i64 s_l2.2.1)], Ent.frz w0 (Ent.blk b1 90 #[v2, .int .i64 a0.at_, .int .i64 a0.seed]).S] w) (fun o => outc o (fun x => some (.ret x)) (fun s => M.spec_l26DrawTable_a2 s_l1 s) = some t2113) ho4201 hm ⟨S2112, f3507, f3508, f3509, f3510, rfl, hL⟩ ?_ ?_
   · intro s_l2 F4202 wd4203 hJ hm
     have hm := outcE hm
     have hm : M.spec_l26DrawTable_a2 s_l1 s_l2 = some t2113 := hm
     unfold M.spec_l26DrawTable_a2 at hm
     obtain ⟨S4197, f4204, f4205, f4206, f4207, f4208, hL⟩ := hJ
     refine CW.regionL ?_
     refine OV (.int .i64 s_l1.2.2.2) rfl (x_mv f4207) ?_
     refine OV (.int .i64 (w64 (s_l1.2.2.2 + 1))) rfl (x_add rfl rfl) ?_
     refine OV (.int .i64 (w64 (s_l1.2.2.2 + 1))) rfl (x_assign) ?_
     refine OW.nil ?_
     obtain rfl := Option.some.inj hm
     exact ⟨_, rfl, ⟨S4197, f4204, f4205, f4206, rfl, hL⟩⟩
   intro s_l2 F4209 wd4210 t4198 hJ hm hr4199
   unfold M.spec_l26DrawTable_l2 at hm
   obtain ⟨S4197, f4211, f4212, f4213, f4214, f4215, hL⟩ := hJ
   refine CW.seq ?_
   refine CSR ?_
   refine OV (.int .i64 s_l2.2.2.2) rfl (x_mv f4215) ?_
   refine OV (.pointer (some ⟨b15, 2, none⟩)) rfl (x_fieldAddr (fsz := 1) 0 2 2 U97 rfl Try_T95 rfl f4213 rfl) ?_
   refine OV v10 rfl (x_load1 U95 rfl rfl (hL.cellB 0 rfl rfl)) ?_
   refine OV (.int .i64 s_l1.2.2.2) rfl (x_mv f4214) ?_
   obtain ⟨wz4216, hL, ho4217⟩ := hL.freeze 1 rfl
   simp only [lC, lD] at hL
   obtain ⟨x4218, ha4219, hm⟩ := bndE hm
   obtain ⟨hz4220, ha4228⟩ := idxE ha4219
   obtain ⟨b4221, q4222, v4223, hix4224, hs4225, hc4226, hr4227⟩ := rdN_at ho4217.1.rdL hz4220 ha4228
   refine OV (.pointer (some ⟨b4221, q4222, none⟩)) rfl (x_ix U95 Try_T101 rfl rfl hix4224) ?_
   refine OV (.pointer (some ⟨b4221, q4222, none⟩)) rfl (x_fieldAddr (fsz := 1) q4222 0 q4222 U101 rfl Try_T99 rfl rfl rfl) ?_
   refine OV v4223 rfl (x_load1 U99 rfl rfl (hL.cellF 1 rfl hs4225 hc4226)) ?_
   refine OV (.int .i64 (x4218.Finishes.length : Int)) rfl (x_lenR U99 rfl (hL.rdF 1 rfl hr4227)) ?_
   refine OV (.bool (decide (s_l2.2.2.2 < (x4218.Finishes.length : Int)))) rfl (x_lss rfl rfl) ?_
   refine OW.nil ?_
   refine CW.condM (t := decide (s_l2.2.2.2 < (x4218.Finishes.length : Int))) rfl hm (fun hb4229 hm => ?_) (fun hb4229 hm => ?_)
   · refine CW.skip ?_
     have hL := hL.thaw 1 rfl ho4217
     refine CW.seqJ (fun (s_j5 : Int × Int × (List Race)) (F : Fr) (w : World) => ∃ (S4390 : Nat → Prop), F 0 = (.pointer (some ⟨b1, 0, none⟩)) ∧ F 2 = (.pointer (some ⟨b6, 0, none⟩)) ∧ F 3 = (.pointer (some ⟨b15, 0, none⟩)) ∧ F 4 = (.int .i64 s_l1.2.2.2) ∧ F 5 = (.int .i64 s_l2.2.2.2) ∧ Hp w0 [Ent.blk b15 97 #[(.int .i64 x7.1.Boats), (.int .i64 x7.1.Scheme), v10], Ent.own 101 S4390 v10 s_j5.2.2, Ent.blk b6 29 #[(.int .i64 0), (.slice none 0 0), (.slice none 0 0)], Ent.blk b1 90 #[v2, (.int .i64 s_j5.1), (.int .i64 s_j5.2.1)], Ent.frz w0 (Ent.blk b1 90 #[v2, .int .i64 a0.at_, .int .i64 a0.seed]).S] w) (fun s_j5 => M.spec_l26DrawTable_j5 s_l2 s_j5 = some t4198) ?_ ?_
     · refine CW.blockJ (fun (s_j6 : Int × Int × (List Race)) (F : Fr) (w : World) => ∃ (S4474 : Nat → Prop), F 0 = (.pointer (some ⟨b1, 0, none⟩)) ∧ F 2 = (.pointer (some ⟨b6, 0, none⟩)) ∧ F 3 = (.pointer (some ⟨b15, 0, none⟩)) ∧ F 4 = (.int .i64 s_l1.2.2.2) ∧ F 5 = (.int .i64 s_l2.2.2.2) ∧ Hp w0 [Ent.blk b15 97 #[(.int .i64 x7.1.Boats), (.int .i64 x7.1.Scheme), v10], Ent.own 101 S4474 v10 s_j6.2.2, Ent.blk b6 29 #[(.int .i64 0), (.slice none 0 0), (.slice none 0 0)], Ent.blk b1 90 #[v2, (.int .i64 s_j6.1), (.int .i64 s_j6.2.1)], Ent.frz w0 (Ent.blk b1 90 #[v2, .int .i64 a0.at_, .int .i64 a0.seed]).S] w) (fun s_j6 => M.spec_l26DrawTable_j6 s_l2 s_j6 = some t4198) ?_ ?_
       · refine CSR ?_
         refine OV (.pointer (some ⟨b15, 2, none⟩)) rfl (x_fieldAddr (fsz := 1) 0 2 2 U97 rfl Try_T95 rfl f4213 rfl) ?_
         refine OV v10 rfl (x_load1 U95 rfl rfl (hL.cellB 0 rfl rfl)) ?_
         refine OV (.int .i64 s_l1.2.2.2) rfl (x_mv f4214) ?_
         obtain ⟨wz4482, hL, ho4483⟩ := hL.freeze 1 rfl
         simp only [lC, lD] at hL
         obtain ⟨x4484, ha4485, hm⟩ := bndE hm
         obtain ⟨hz4486, ha4494⟩ := idxE ha4485
         obtain ⟨b4487, q4488, v4489, hix4490, hs4491, hc4492, hr4493⟩ := rdN_at ho4483.1.rdL hz4486 ha4494
         refine OV (.pointer (some ⟨b4487, q4488, none⟩)) rfl (x_ix U95 Try_T101 rfl rfl hix4490) ?_
         refine OV (.pointer (some ⟨b4487, q4488, none⟩)) rfl (x_fieldAddr (fsz := 1) q4488 0 q4488 U101 rfl Try_T99 rfl rfl rfl) ?_
         refine OV v4489 rfl (x_load1 U99 rfl rfl (hL.cellF 1 rfl hs4491 hc4492)) ?_
         refine OV (.int .i64 s_l2.2.2.2) rfl (x_mv f4215) ?_
         obtain ⟨x4495, ha4496, hm⟩ := bndE hm
         obtain ⟨hz4497, ha4501⟩ := idxE ha4496
         obtain ⟨b4498, q4499, hix4500⟩ := rdL_ix (hL.rdF 1 rfl hr4493) hz4497 ha4501
         refine OV (.pointer (some ⟨b4498, q4499, none⟩)) rfl (x_ix U99 Try_T103 rfl rfl hix4500) ?_
         refine OV (.agg #[(.int .i64 x4495.Boat), (.int .i64 x4495.Code), (.int .i64 x4495.Time)]) rfl (x_loadN (cs := [(.int .i64 x4495.Boat), (.int .i64 x4495.Code), (.int .i64 x4495.Time)]) U103 Try_T103 rfl rfl (rdF_cells (hL.rdF 1 rfl hr4493) hix4500 ha4501)) ?_
         refine OW.cons (S_alloc (cs := #[(.int .i64 0), (.int .i64 0), (.int .i64 0)]) hL Try_T103 rfl rfl ?_)
         intro wd4502 b4503 hL
         refine OW.cons (S_storeN (l := [(.int .i64 x4495.Boat), (.int .i64 x4495.Code), (.int .i64 x4495.Time)]) (cs' := #[(.int .i64 x4495.Boat), (.int .i64 x4495.Code), (.int .i64 x4495.Time)]) hL 0 rfl Try_T103 rfl rfl (List.forall_mem_cons.2 ⟨rfl, (List.forall_mem_cons.2 ⟨rfl, (List.forall_mem_cons.2 ⟨rfl, (fun _ h => by cases h)⟩)⟩)⟩) rfl (Nat.le_of_ble_eq_true rfl) rfl ?_)
         intro wd4504 hL
         refine OW.nil ?_
         have hL := hL.thaw 2 rfl ho4483
         refine CW.seqJ (fun (s_j7 : Int × Int × Bool) (F : Fr) (w : World) => F 0 = (.pointer (some ⟨b1, 0, none⟩)) ∧ F 2 = (.pointer (some ⟨b6, 0, none⟩)) ∧ F 3 = (.pointer (some ⟨b15, 0, none⟩)) ∧ F 4 = (.int .i64 s_l1.2.2.2) ∧ F 5 = (.int .i64 s_l2.2.2.2) ∧ F 6 = (.pointer (some ⟨b4503, 0, none⟩)) ∧ F 47 = (.bool s_j7.2.2) ∧ Hp w0 [Ent.blk b4503 103 #[(.int .i64 x4495.Boat), (.int .i64 x4495.Code), (.int .i64 x4495.Time)], Ent.blk b15 97 #[(.int .i64 x7.1.Boats), (.int .i64 x7.1.Scheme), v10], Ent.own 101 S4197 v10 s_l2.2.2.1, Ent.blk b6 29 #[(.int .i64 0), (.slice none 0 0), (.slice none 0 0)], Ent.blk b1 90 #[v2, (.int .i64 s_j7.1), (.int .i64 s_j7.2.1)], Ent.frz w0 (Ent.blk b1 90 #[v2, .int .i64 a0.at_, .int .i64 a0.seed]).S] w) (fun s_j7 => M.spec_l26DrawTable_j7 s_l1 s_l2 x4495 s_j7 = some t4198) ?_ ?_
         · refine CW.regionL ?_
           refine OV (.pointer (some ⟨b4503, 1, none⟩)) rfl (x_fieldAddr (fsz := 1) 0 1 1 U103 rfl Try_T2 rfl rfl rfl) ?_
           refine OV (.int .i64 x4495.Code) rfl (x_load1 U2 rfl rfl (hL.cellB 0 rfl rfl)) ?_
           refine OV (.bool (x4495.Code == 9)) rfl (x_eql rfl rfl) ?_
           refine OV (.bool (x4495.Code == 9)) rfl (x_move) ?_
           refine ifB_elim hm (fun hb4552 hm => ?_) (fun hb4552 hm => ?_)
           · refine OW.cons (OP.yes' rfl rfl hb4552 (OP.val (v := (.pointer (some ⟨b1, 0, none⟩))) rfl (x_mv f4211) ?_))
             obtain ⟨x4553, hx4554, hm⟩ := bndE hm
             refine OW.cons (OP.yes' rfl rfl hb4552 (OP.call rfl (x_call (vs := [(.pointer (some ⟨b1, 0, none⟩)), (.int .i64 2)]) Try_C86 ⟨rfl, rfl, trivial⟩) (M.spec_l01Next_ok _ (Src.mk a0.code s_l2.1 s_l2.2.1) (hL.exZ 5 4 (by decide) rfl rfl h3) (hL.get 4 rfl) 2 hx4554) ?_))
             rintro e4555 wd4556 ⟨rfl, hF4557⟩
             refine ⟨_, rfl, ?_⟩
             have hL := hL.mut 4 rfl hF4557
             simp only [lA, lB, lC, lD] at hL
             refine OW.cons (OP.yes' rfl rfl hb4552 (OP.val (v := (.bool (x4553.1 == 0))) rfl (x_eql rfl rfl) ?_))
             refine OV (.bool (x4553.1 == 0)) rfl (x_pickT' rfl hb4552 rfl) ?_
             refine OW.nil ?_
             exact ⟨(x4553.2.1, x4553.2.2, x4553.1 == 0), hm, ⟨f4211, f4212, f4213, f4214, f4215, rfl, rfl, hL⟩⟩
           refine OW.cons (OP.no' rfl rfl hb4552 rfl ?_)
           refine OW.cons (OP.no' rfl rfl hb4552 rfl ?_)
           refine OW.cons (OP.no' rfl rfl hb4552 rfl ?_)
           refine OV (.bool false) rfl (x_pickF' rfl hb4552 rfl) ?_
           refine OW.nil ?_
           exact ⟨(s_l2.1, s_l2.2.1, false), hm, ⟨f4211, f4212, f4213, f4214, f4215, rfl, rfl, hL⟩⟩
         intro s_j7 F4511 wd4512 hJ hm
         unfold M.spec_l26DrawTable_j7 at hm
         obtain ⟨f4513, f4514, f4515, f4516, f4517, f4518, f4519, hL⟩ := hJ
         refine CW.condM (t := s_j7.2.2) f4519 hm (fun hb4520 hm => ?_) (fun hb4520 hm => ?_)
         · obtain ⟨wz4521, hL, ho4522⟩ := hL.freeze 2 rfl
           simp only [lC, lD] at hL
           refine CW.draw Try_mixed ?_
           have hL := hL.call (Mod.drew _)
           refine DW.pre (fuel := 1) (fin := bma 12 2047) (C := fun w' => Mod None_ _ w') [0, 1, 2, 3, 4, 5, 6, 7, 8, 9, 10] (Mod.refl _ _) (by kernel_rfl) (by kernel_rfl) ?_
           refine QW.cons rfl (QP.val (v := (.pointer (some ⟨b15, 2, none⟩))) rfl (fun w' hm' => x_fieldAddr (fsz := 1) 0 2 2 U97 rfl Try_T95 rfl f4515 rfl) ?_)
           refine QW.cons rfl (QP.val (v := v10) rfl (fun w' hm' => x_load1 U95 rfl rfl ((hL.call hm').cellB 1 rfl rfl)) ?_)
           refine QW.cons rfl (QP.val (v := (.int .i64 s_l1.2.2.2)) rfl (fun w' hm' => x_mv f4516) ?_)
           obtain ⟨x4523, ha4524, hm⟩ := bndE hm
           obtain ⟨hz4525, ha4533⟩ := idxE ha4524
           obtain ⟨b4526, q4527, v4528, hix4529, hs4530, hc4531, hr4532⟩ := rdN_at ho4522.1.rdL hz4525 ha4533
           refine QW.cons rfl (QP.val (v := (.pointer (some ⟨b4526, q4527, none⟩))) rfl (fun w' hm' => x_ix U95 Try_T101 rfl rfl hix4529) ?_)
           refine QW.cons rfl (QP.val (v := (.pointer (some ⟨b4526, q4527, none⟩))) rfl (fun w' hm' => x_fieldAddr (fsz := 1) q4527 0 q4527 U101 rfl Try_T99 rfl rfl rfl) ?_)
           refine QW.cons rfl (QP.val (v := v4528) rfl (fun w' hm' => x_load1 U99 rfl rfl ((hL.call hm').cellF 2 rfl hs4530 hc4531)) ?_)
           refine QW.cons rfl (QP.val (v := (.int .i64 s_l2.2.2.2)) rfl (fun w' hm' => x_mv f4517) ?_)
           refine QW.cons rfl (QP.val (v := (.pointer (some ⟨b4503, 0, none⟩))) rfl (fun w' hm' => x_fieldAddr (fsz := 1) 0 0 0 U103 rfl Try_T2 rfl f4518 rfl) ?_)
           refine QW.cons rfl (QP.val (v := (.int .i64 x4495.Boat)) rfl (fun w' hm' => x_load1 U2 rfl rfl ((hL.call hm').cellB 0 rfl rfl)) ?_)
           refine QW.cons rfl (QP.val (v := (.agg #[(.int .i64 x4495.Boat), (.int .i64 4), (.int .i64 0)])) rfl (fun w' hm' => x_build Try_B103 (ps := [(0, (.int .i64 x4495.Boat)), (1, (.int .i64 4))]) ⟨⟨rfl, rfl⟩, ⟨rfl, rfl⟩, trivial⟩ (by simp [Instr.fill, cells_int, cells_bool, cells_string, cells_agg, cells_slice, cells_pointer])) ?_)
           obtain ⟨x4534, ha4535, hm⟩ := bndE hm
           obtain ⟨hz4536, ha4540⟩ := idxE ha4535
           obtain ⟨b4537, q4538, hix4539⟩ := rdL_ix (hL.rdF 2 rfl hr4532) hz4536 ha4540
           refine QW.cons rfl (QP.val (v := (.pointer (some ⟨b4537, q4538, none⟩))) rfl (fun w' hm' => x_ix U99 Try_T103 rfl rfl hix4539) ?_)
           refine QW.nil ?_
           intro wd4541 hmod
           have hL := hL.call hmod
           have hc4543 := hL.cellF 2 rfl hs4530 hc4531
           have hL := hL.thaw 2 rfl ho4522
           simp only [lC, lD] at hL
           refine DW.only 11 rfl (by kernel_rfl) (S_inRowC (α := Finish) (x4523.Finishes.set (s_l2.2.2.2 : Int).toNat (Finish.mk x4495.Boat 4 0)) (Race.mk (x4523.Finishes.set (s_l2.2.2.2 : Int).toNat (Finish.mk x4495.Boat 4 0))) rfl hL 2 rfl hix4529 ha4533 hc4543 (fun E2 S1 hL hK => S_storeXN (l := [(.int .i64 x4495.Boat), (.int .i64 4), (.int .i64 0)]) (Finish.mk x4495.Boat 4 0) hL 0 rfl Try_T103 hix4539 ha4540 rfl rfl rfl hK) ?_)
           intro wd4542 S4544 hL hc4545 ha4546
           simp only [lC, lD] at hL
           obtain ⟨wz4547, hL, ho4548, hs4549, hc4550, hr4551⟩ := hL.freezeAt (α := Finish) 2 rfl hix4529 ha4546 hc4545
           simp only [lC, lD] at hL
           refine DW.done (by kernel_rfl) ?_
           have hL := hL.thaw 2 rfl ho4548
           have hL := hL.sel [1, 2, 3, 4, 5] (by decide) rfl
           exact ⟨(s_j7.1, s_j7.2.1, s_l2.2.2.1.set (s_l1.2.2.2 : Int).toNat (Race.mk (x4523.Finishes.set (s_l2.2.2.2 : Int).toNat (Finish.mk x4495.Boat 4 0)))), hm, ⟨S4544, f4513, f4514, f4515, f4516, f4517, hL⟩⟩
         refine CW.skip ?_
         have hL := hL.sel [1, 2, 3, 4, 5] (by decide) rfl
         exact ⟨(s_j7.1, s_j7.2.1, s_l2.2.2.1), hm, ⟨S4197, f4513, f4514, f4515, f4516, f4517, hL⟩⟩
       intro s_j6 F4475 wd4476 hJ hm
       unfold M.spec_l26DrawTable_j6 at hm
       obtain ⟨S4474, f4477, f4478, f4479, f4480, f4481, hL⟩ := hJ
       exact ⟨(s_j6.1, s_j6.2.1, s_j6.2.2), hm, ⟨S4474, f4477, f4478, f4479, f4480, f4481, hL⟩⟩
     intro s_j5 F4391 wd4392 hJ hm
     unfold M.spec_l26DrawTable_j5 at hm
     obtain ⟨S4390, f4393, f4394, f4395, f4396, f4397, hL⟩ := hJ
     refine CW.regionL ?_
     refine OV (.int .i64 s_l2.2.2.2) rfl (x_mv f4397) ?_
     refine OV (.int .i64 (w64 (s_l2.2.2.2 + 1))) rfl (x_add rfl rfl) ?_
     refine OV (.int .i64 (w64 (s_l2.2.2.2 + 1))) rfl (x_assign) ?_
     refine OW.nil ?_
     obtain rfl := Option.some.inj hm
     exact ⟨_, rfl, ⟨S4390, f4393, f4394, f4395, f4396, rfl, hL⟩⟩
   refine CW.exit ?_
   refine XJ.hit ?_
   have hL := hL.thaw 1 rfl ho4217
   obtain rfl := Option.some.inj hm
   exact ⟨_, rfl, ⟨S4197, f4211, f4212, f4213, f4214, f4215, hL⟩⟩
 refine CW.exit ?_
 refine XJ.hit ?_
 obtain rfl := Option.some.inj hm
 exact ⟨_, rfl, ⟨S2112, f3507, f3508, f3509, f3510, hL⟩⟩

theorem M.spec_l27DrawRule_ok (w0 : World) {b1 : Nat} {v2 : Value} (a0 : Src) (h3 : rdL (fun k => k < w0.heap.size ∧ ¬ (Ent.blk b1 90 #[v2, .int .i64 a0.at_, .int .i64 a0.seed]).S k) w0 v2 a0.code) (he4 : (Ent.blk b1 90 #[v2, .int .i64 a0.at_, .int .i64 a0.seed]).H w0) {r : ((List Int)) × (Int × Int)} (hm : M.spec_l27DrawRule a0 = some r) :
    Calls Try.prog 85 #[(.pointer (some ⟨b1, 0, none⟩))] w0 fun e w' => ∃ (rv0 : Value) (rS0 : Nat → Prop), e = .returned rv0 ∧ Mut w0 w' (Ent.blk b1 90 #[v2, .int .i64 a0.at_, .int .i64 a0.seed]).S [Ent.blk b1 90 #[v2, .int .i64 r.2.1, .int .i64 r.2.2], Ent.own 2 rS0 rv0 r.1] := by
 unfold M.spec_l27DrawRule at hm
 refine calls_CW (args := [(.pointer (some ⟨b1, 0, none⟩))]) Try.func85 rfl rfl rfl ?_
 have hL := Hp.startIO he4
 refine CSR ?_
 refine OV (.slice none 0 0) rfl (x_assign) ?_
 refine ONR ?_
 refine OW.cons (S_lit ([] : List Int) hL U25 Try_T2 rfl (by decide) (by first | (simp [Instr.fill, madeCells, Value.cells, ev, upd, Flat.enc, Flat.sz]; done) | rfl | kernel_rfl) rfl rfl ?_)
 intro wd5 v6 S7 hL
 refine OV v6 rfl (x_assign) ?_
 refine ONR ?_
 refine OV (.int .i64 0) rfl (x_assign) ?_
 refine ONS ?_
 refine CSR ?_
 refine OV (.pointer (some ⟨b1, 0, none⟩)) rfl (x_move) ?_
 obtain ⟨x8, hx9, hm⟩ := bndE hm
 refine OW.cons (OP.call rfl (x_call (vs := [(.pointer (some ⟨b1, 0, none⟩)), (.int .i64 4)]) Try_C86 ⟨rfl, rfl, trivial⟩) (M.spec_l01Next_ok _ (Src.mk a0.code a0.at_ a0.seed) (hL.exZ 2 1 (by decide) rfl rfl h3) (hL.get 1 rfl) 4 hx9) ?_)
 rintro e10 wd11 ⟨rfl, hF12⟩
 refine ⟨_, rfl, ?_⟩
 have hL := hL.mut 1 rfl hF12
 simp only [lA, lB, lC, lD] at hL
 refine OV (.int .i64 x8.1) rfl (x_assign) ?_
 refine OW.nil ?_
 obtain ⟨o45, ho46, hm⟩ := bndE hm
 refine CW.loopB (fun (s_l1 : Int × Int × (List Int) × Int × Int) (F : Fr) (w : World) => ∃ (v41 : Value) (S42 : Nat → Prop), F 0 = (.pointer (some ⟨b1, 0, none⟩)) ∧ F 3 = v41 ∧ F 4 = (.int .i64 s_l1.2.2.2.1) ∧ F 5 = (.int .i64 s_l1.2.2.2.2) ∧ Hp w0 [Ent.own 2 S42 v41 s_l1.2.2.1, Ent.blk b1 90 #[v2, (.int .i64 s_l1.1), (.int .i64 s_l1.2.1)], Ent.frz w0 (Ent.blk b1 90 #[v2, .int .i64 a0.at_, .int .i64 a0.seed]).S] w) (fun o => outc o (fun x => some x) (fun s => M.spec_l27DrawRule_a1 a0 s) = some r) ho46 hm ⟨v6, S7, rfl, rfl, rfl, rfl, hL⟩ ?_ ?_
 · intro s_l1 F47 wd48 hJ hm
   have hm := outcE hm
   have hm : M.spec_l27DrawRule_a1 a0 s_l1 = some r := hm
   unfold M.spec_l27DrawRule_a1 at hm
   obtain ⟨v41, S42, f49, f50, f51, f52, hL⟩ := hJ
   refine CW.seq ?_
   refine CSR ?_
   refine OV (.pointer (some ⟨b1, 0, none⟩)) rfl (x_mv f49) ?_
   obtain ⟨x53, hx54, hm⟩ := bndE hm
   refine OW.cons (OP.call rfl (x_call (vs := [(.pointer (some ⟨b1, 0, none⟩)), (.int .i64 30)]) Try_C86 ⟨rfl, rfl, trivial⟩) (M.spec_l01Next_ok _ (Src.mk a0.code s_l1.1 s_l1.2.1) (hL.exZ 2 1 (by decide) rfl rfl h3) (hL.get 1 rfl) 30 hx54) ?_)
   rintro e55 wd56 ⟨rfl, hF57⟩
   refine ⟨_, rfl, ?_⟩
   have hL := hL.mut 1 rfl hF57
   simp only [lA, lB, lC, lD] at hL
   refine OW.nil ?_
   refine CW.block ?_
   refine CSR ?_
   refine OV (.bool (x53.1 == 0)) rfl (x_eql rfl rfl) ?_
   refine OV (.bool (x53.1 == 0)) rfl (x_assign) ?_
   refine OW.nil ?_
   refine CW.condM (t := x53.1 == 0) rfl hm (fun hb58 hm => ?_) (fun hb58 hm => ?_)
   · refine CSR ?_
     refine OV v41 rfl (x_mv f50) ?_
     refine OV (.int .i64 s_l1.2.2.2.1) rfl (x_mv f51) ?_
     refine OW.cons (S_lit ([s_l1.2.2.2.1] : List Int) hL U25 Try_T2 rfl (by decide) (by first | (simp [Instr.fill, madeCells, Value.cells, ev, upd, Flat.enc, Flat.sz]; done) | rfl | kernel_rfl) rfl rfl ?_)
     intro wd59 v60 S61 hL
     obtain ⟨hc65, hm⟩ := chkE hm
     refine OW.cons (S_append (ys := ([s_l1.2.2.2.1] : List Int)) hL 1 rfl U25 Try_T2 rfl rfl rfl (hL.rdO 0 rfl) hc65 (by decide) rfl ?_)
     intro wd62 v63 S64 hL
     refine OV v63 rfl (x_assign) ?_
     refine OW.nil ?_
     refine CW.ret ?_
     obtain rfl := Option.some.inj hm
     exact RR1 rfl rfl ⟨v63, S64, rfl, hL.mutOut 3 rfl [2, 1] (by decide) (by decide) rfl⟩
   refine CSR ?_
   refine OV (.bool (x53.1 == 1)) rfl (x_eql rfl rfl) ?_
   refine OV (.bool (x53.1 == 1)) rfl (x_assign) ?_
   refine OW.nil ?_
   refine CW.condM (t := x53.1 == 1) rfl hm (fun hb66 hm => ?_) (fun hb66 hm => ?_)
   · refine CSR ?_
     refine OV (.pointer (some ⟨b1, 0, none⟩)) rfl (x_mv f49) ?_
     obtain ⟨x67, hx68, hm⟩ := bndE hm
     refine OW.cons (OP.call rfl (x_call (vs := [(.pointer (some ⟨b1, 0, none⟩)), (.int .i64 2)]) Try_C86 ⟨rfl, rfl, trivial⟩) (M.spec_l01Next_ok _ (Src.mk a0.code x53.2.1 x53.2.2) (hL.exZ 2 1 (by decide) rfl rfl h3) (hL.get 1 rfl) 2 hx68) ?_)
     rintro e69 wd70 ⟨rfl, hF71⟩
     refine ⟨_, rfl, ?_⟩
     have hL := hL.mut 1 rfl hF71
     simp only [lA, lB, lC, lD] at hL
     refine OV (.int .i64 (w64 (13 * x67.1))) rfl (x_mul rfl rfl) ?_
     refine OW.cons (S_lit ([w64 (13 * x67.1)] : List Int) hL U25 Try_T2 rfl (by decide) (by first | (simp [Instr.fill, madeCells, Value.cells, ev, upd, Flat.enc, Flat.sz]; done) | rfl | kernel_rfl) rfl rfl ?_)
     intro wd72 v73 S74 hL
     refine OV v73 rfl (x_assign) ?_
     refine OW.nil ?_
     refine CW.ret ?_
     obtain rfl := Option.some.inj hm
     exact RR1 rfl rfl ⟨v73, S74, rfl, hL.mutOut 3 rfl [2, 0] (by decide) (by decide) rfl⟩
   refine CSR ?_
   refine OV (.bool (x53.1 == 2)) rfl (x_eql rfl rfl) ?_
   refine OV (.bool (x53.1 == 2)) rfl (x_assign) ?_
   refine OW.nil ?_
   refine CW.condM (t := x53.1 == 2) rfl hm (fun hb75 hm => ?_) (fun hb75 hm => ?_)
   · refine CSR ?_
     refine OW.cons (S_lit ([1, 2, 3, 4] : List Int) hL U25 Try_T2 rfl (by decide) (by first | (simp [Instr.fill, madeCells, Value.cells, ev, upd, Flat.enc, Flat.sz]; done) | rfl | kernel_rfl) rfl rfl ?_)
     intro wd76 v77 S78 hL
     refine OV v77 rfl (x_assign) ?_
     refine OW.nil ?_
     refine CW.ret ?_
     obtain rfl := Option.some.inj hm
     exact RR1 rfl rfl ⟨v77, S78, rfl, hL.mutOut 3 rfl [2, 0] (by decide) (by decide) rfl⟩
   refine CW.skip ?_
   refine CSR ?_
   refine OV v41 rfl (x_mv f50) ?_
   refine OV v41 rfl (x_assign) ?_
   refine OW.nil ?_
   refine CW.ret ?_
   obtain rfl := Option.some.inj hm
   exact RR1 rfl rfl ⟨v41, S42, rfl, hL.mutOut 2 rfl [1, 0] (by decide) (by decide) rfl⟩
 intro s_l1 F79 wd80 t43 hJ hm hr44
 unfold M.spec_l27DrawRule_l1 at hm
 obtain ⟨v41, S42, f81, f82, f83, f84, hL⟩ := hJ
 refine CW.seq ?_
 refine CSR ?_
 refine OV (.int .i64 s_l1.2.2.2.2) rfl (x_mv f84) ?_
 refine OV (.bool (decide (0 < s_l1.2.2.2.2))) rfl (x_gtr rfl rfl) ?_
 refine OW.nil ?_
 refine CW.condM (t := decide (0 < s_l1.2.2.2.2)) rfl hm (fun hb85 hm => ?_) (fun hb85 hm => ?_)
 · refine CW.skip ?_
   refine CW.seq ?_
   refine CW.block ?_
   refine CSR ?_
   refine OV (.int .i64 s_l1.2.2.2.1) rfl (x_mv f83) ?_
   refine OV (.int .i64 (w64 (s_l1.2.2.2.1 + 1))) rfl (x_add rfl rfl) ?_
   refine OV (.pointer (some ⟨b1, 0, none⟩)) rfl (x_mv f81) ?_
   obtain ⟨x86, hx87, hm⟩ := bndE hm
   refine OW.cons (OP.call rfl (x_call (vs := [(.pointer (some ⟨b1, 0, none⟩)), (.int .i64 4)]) Try_C86 ⟨rfl, rfl, trivial⟩) (M.spec_l01Next_ok _ (Src.mk a0.code s_l1.1 s_l1.2.1) (hL.exZ 2 1 (by decide) rfl rfl h3) (hL.get 1 rfl) 4 hx87) ?_)
   rintro e88 wd89 ⟨rfl, hF90⟩
   refine ⟨_, rfl, ?_⟩
   have hL := hL.mut 1 rfl hF90
   simp only [lA, lB, lC, lD] at hL
   refine OV (.int .i64 (w64 ((w64 (s_l1.2.2.2.1 + 1)) + x86.1))) rfl (x_add rfl rfl) ?_
   refine OV (.int .i64 (w64 ((w64 (s_l1.2.2.2.1 + 1)) + x86.1))) rfl (x_assign) ?_
   refine OW.nil ?_
   refine CW.regionL ?_
   refine OV v41 rfl (x_mv f82) ?_
   refine OV (.int .i64 (w64 ((w64 (s_l1.2.2.2.1 + 1)) + x86.1))) rfl (x_move) ?_
   refine OW.cons (S_lit ([w64 ((w64 (s_l1.2.2.2.1 + 1)) + x86.1)] : List Int) hL U25 Try_T2 rfl (by decide) (by first | (simp [Instr.fill, madeCells, Value.cells, ev, upd, Flat.enc, Flat.sz]; done) | rfl | kernel_rfl) rfl rfl ?_)
   intro wd91 v92 S93 hL
   obtain ⟨hc97, hm⟩ := chkE hm
   refine OW.cons (S_append (ys := ([w64 ((w64 (s_l1.2.2.2.1 + 1)) + x86.1)] : List Int)) hL 1 rfl U25 Try_T2 rfl rfl rfl (hL.rdO 0 rfl) hc97 (by decide) rfl ?_)
   intro wd94 v95 S96 hL
   refine OV v95 rfl (x_assign) ?_
   refine OW.nil ?_
   refine CW.regionL ?_
   refine OV (.int .i64 s_l1.2.2.2.2) rfl (x_mv f84) ?_
   refine OV (.int .i64 (w64 (s_l1.2.2.2.2 - 1))) rfl (x_sub rfl rfl) ?_
   refine OV (.int .i64 (w64 (s_l1.2.2.2.2 - 1))) rfl (x_assign) ?_
   refine OW.nil ?_
   have hL := hL.sel [1, 2, 3] (by decide) rfl
   obtain rfl := Option.some.inj hm
   exact ⟨_, rfl, ⟨v95, S96, f81, rfl, rfl, rfl, hL⟩⟩
 refine CW.exit ?_
 refine XJ.hit ?_
 obtain rfl := Option.some.inj hm
 exact ⟨_, rfl, ⟨v41, S42, f81, f82, f83, f84, hL⟩⟩

theorem M.spec_l27DrawBoat_ok (w0 : World) {b1 : Nat} {v2 : Value} (a0 : Src) (h3 : rdL (fun k => k < w0.heap.size ∧ ¬ (Ent.blk b1 90 #[v2, .int .i64 a0.at_, .int .i64 a0.seed]).S k) w0 v2 a0.code) (he4 : (Ent.blk b1 90 #[v2, .int .i64 a0.at_, .int .i64 a0.seed]).H w0) (a1 : Table) {v5 : Value} {v7 : Value} (h6 : rdL (fun k => k < w0.heap.size ∧ ¬ (Ent.blk b1 90 #[v2, .int .i64 a0.at_, .int .i64 a0.seed]).S k) w0 v5 a1.Points) (h8 : rdL (fun k => k < w0.heap.size ∧ ¬ (Ent.blk b1 90 #[v2, .int .i64 a0.at_, .int .i64 a0.seed]).S k) w0 v7 a1.Codes) {r : (Int) × (Int × Int)} (hm : M.spec_l27DrawBoat a0 a1 = some r) :
    Calls Try.prog 105 #[(.pointer (some ⟨b1, 0, none⟩)), (.agg #[(.int .i64 a1.Boats), v5, v7])] w0 fun e w' => e = .returned (.int .i64 r.1) ∧ Mut w0 w' (Ent.blk b1 90 #[v2, .int .i64 a0.at_, .int .i64 a0.seed]).S [Ent.blk b1 90 #[v2, .int .i64 r.2.1, .int .i64 r.2.2]] := by
 unfold M.spec_l27DrawBoat at hm
 refine calls_CW (args := [(.pointer (some ⟨b1, 0, none⟩)), (.agg #[(.int .i64 a1.Boats), v5, v7])]) Try.func105 rfl rfl rfl ?_
 have hL := Hp.startIO he4
 refine CSR ?_
 refine OW.cons (S_box (cs := #[(.int .i64 a1.Boats), v5, v7]) hL rfl rfl rfl ?_)
 intro wd9 b10 hL
 refine OV (.int .i64 0) rfl (x_assign) ?_
 refine ONS ?_
 refine CSR ?_
 refine OV (.pointer (some ⟨b1, 0, none⟩)) rfl (x_move) ?_
 obtain ⟨x11, hx12, hm⟩ := bndE hm
 refine OW.cons (OP.call rfl (x_call (vs := [(.pointer (some ⟨b1, 0, none⟩)), (.int .i64 24)]) Try_C86 ⟨rfl, rfl, trivial⟩) (M.spec_l01Next_ok _ (Src.mk a0.code a0.at_ a0.seed) (hL.exZ 2 1 (by decide) rfl rfl h3) (hL.get 1 rfl) 24 hx12) ?_)
 rintro e13 wd14 ⟨rfl, hF15⟩
 refine ⟨_, rfl, ?_⟩
 have hL := hL.mut 1 rfl hF15
 simp only [lA, lB, lC, lD] at hL
 refine OV (.bool (x11.1 == 0)) rfl (x_eql rfl rfl) ?_
 refine OW.nil ?_
 refine CW.condM (t := x11.1 == 0) rfl hm (fun hb16 hm => ?_) (fun hb16 hm => ?_)
 · refine CW.seq ?_
   refine CW.drawH (fun w' => Hp w0 [Ent.blk b10 29 #[(.int .i64 a1.Boats), v5, v7], Ent.frz w0 (Ent.blk b1 90 #[v2, .int .i64 a0.at_, .int .i64 a0.seed]).S] w') Try_mixed ?_
   have hL := hL.call (Mod.drew _)
   have hS := (hL.sel [0, 2] (by decide) rfl)
   refine DH.take 0 rfl (by kernel_rfl) (by kernel_rfl) (by kernel_rfl) rfl rfl hS (YH.val (v := (.pointer (some ⟨b10, 0, none⟩))) (fun w' hS' => x_fieldAddr (fsz := 1) 0 0 0 U29 rfl Try_T2 rfl rfl rfl)) ?_
   have hS := (hL.sel [0, 2] (by decide) rfl)
   refine DH.take 1 rfl (by kernel_rfl) (by kernel_rfl) (by kernel_rfl) rfl rfl hS (YH.val (v := (.int .i64 a1.Boats)) (fun w' hS' => x_load1 U2 rfl rfl (hS'.cellB 0 rfl rfl))) ?_
   have hS := (hL.sel [0, 2] (by decide) rfl)
   refine DH.take 2 rfl (by kernel_rfl) (by kernel_rfl) (by kernel_rfl) rfl rfl hS (YH.val (v := (.pointer (some ⟨b10, 0, none⟩))) (fun w' hS' => x_fieldAddr (fsz := 1) 0 0 0 U29 rfl Try_T2 rfl rfl rfl)) ?_
   have hS := (hL.sel [0, 2] (by decide) rfl)
   refine DH.take 3 rfl (by kernel_rfl) (by kernel_rfl) (by kernel_rfl) rfl rfl hS (YH.val (v := (.int .i64 a1.Boats)) (fun w' hS' => x_load1 U2 rfl rfl (hS'.cellB 0 rfl rfl))) ?_
   have hS := (hL.sel [0, 2] (by decide) rfl)
   refine DH.take 4 rfl (by kernel_rfl) (by kernel_rfl) (by kernel_rfl) rfl rfl hS (YH.val (v := (.int .i64 (w64 (a1.Boats + 1)))) (fun w' hS' => x_add rfl rfl)) ?_
   have hS := (hL.sel [0, 2] (by decide) rfl)
   refine DH.take 5 rfl (by kernel_rfl) (by kernel_rfl) (by kernel_rfl) rfl rfl hS (YH.val (v := (.pointer (some ⟨b1, 0, none⟩))) (fun w' hS' => x_move)) ?_
   obtain ⟨x22, hx23, hm⟩ := bndE hm
   refine DH.only 6 rfl (by kernel_rfl) (OP.call rfl (x_call (vs := [(.pointer (some ⟨b1, 0, none⟩)), (.int .i64 2)]) Try_C86 ⟨rfl, rfl, trivial⟩) (M.spec_l01Next_ok _ (Src.mk a0.code x11.2.1 x11.2.2) (hL.exZ 2 1 (by decide) rfl rfl h3) (hL.get 1 rfl) 2 hx23) ?_)
   rintro e24 wd25 ⟨rfl, hF26⟩
   refine ⟨_, rfl, ?_⟩
   have hL := hL.mut 1 rfl hF26
   simp only [lA, lB, lC, lD] at hL
   refine ⟨(hL.sel [0, 2] (by decide) rfl), ?_⟩
   have hS := (hL.sel [0, 2] (by decide) rfl)
   refine DH.take 7 rfl (by kernel_rfl) (by kernel_rfl) (by kernel_rfl) rfl rfl hS (YH.val (v := (.int .i64 (w64 ((w64 (a1.Boats + 1)) * x22.1)))) (fun w' hS' => x_mul rfl rfl)) ?_
   have hS := (hL.sel [0, 2] (by decide) rfl)
   refine DH.take 8 rfl (by kernel_rfl) (by kernel_rfl) (by kernel_rfl) rfl rfl hS (YH.val (v := (.int .i64 (w64 (a1.Boats - (w64 ((w64 (a1.Boats + 1)) * x22.1)))))) (fun w' hS' => x_sub rfl rfl)) ?_
   have hS := (hL.sel [0, 2] (by decide) rfl)
   refine DH.take 9 rfl (by kernel_rfl) (by kernel_rfl) (by kernel_rfl) rfl rfl hS (YH.val (v := (.int .i64 (w64 (a1.Boats - (w64 ((w64 (a1.Boats + 1)) * x22.1)))))) (fun w' hS' => x_assign)) ?_
   refine DH.done (by kernel_rfl) ?_
   refine CW.ret ?_
   obtain rfl := Option.some.inj hm
   exact RR1 rfl rfl ⟨rfl, hL.mutOut 2 rfl [1] (by decide) (by decide) rfl⟩
 refine CW.skip ?_
 refine CSR ?_
 refine OV (.pointer (some ⟨b1, 0, none⟩)) rfl (x_move) ?_
 refine OV (.pointer (some ⟨b10, 0, none⟩)) rfl (x_fieldAddr (fsz := 1) 0 0 0 U29 rfl Try_T2 rfl rfl rfl) ?_
 refine OV (.int .i64 a1.Boats) rfl (x_load1 U2 rfl rfl (hL.cellB 0 rfl rfl)) ?_
 refine OV (.int .i64 (max 1 a1.Boats)) rfl (x_max2 rfl rfl) ?_
 obtain ⟨x27, hx28, hm⟩ := bndE hm
 refine OW.cons (OP.call rfl (x_call (vs := [(.pointer (some ⟨b1, 0, none⟩)), (.int .i64 (max 1 a1.Boats))]) Try_C86 ⟨rfl, rfl, trivial⟩) (M.spec_l01Next_ok _ (Src.mk a0.code x11.2.1 x11.2.2) (hL.exZ 2 1 (by decide) rfl rfl h3) (hL.get 1 rfl) (max 1 a1.Boats) hx28) ?_)
 rintro e29 wd30 ⟨rfl, hF31⟩
 refine ⟨_, rfl, ?_⟩
 have hL := hL.mut 1 rfl hF31
 simp only [lA, lB, lC, lD] at hL
 refine OV (.int .i64 x27.1) rfl (x_assign) ?_
 refine OW.nil ?_
 refine CW.ret ?_
 obtain rfl := Option.some.inj hm
 exact RR1 rfl rfl ⟨rfl, hL.mutOut 2 rfl [1] (by decide) (by decide) rfl⟩

theorem M.spec_l27Draw_ok (w0 : World) (a0 : List UInt8) {v1 : Value} (h2 : rdL (· < w0.heap.size) w0 v1 a0) {r : Table × (List Int) × Int} (hm : M.spec_l27Draw a0 = some r) :
    Calls Try.prog 77 #[v1] w0 fun e w' => ∃ (rv0 : Value) (rS0 : Nat → Prop), ∃ (rv1 : Value) (rS1 : Nat → Prop), ∃ (rv2 : Value) (rS2 : Nat → Prop), e = .returned (.tuple #[(.agg #[(.int .i64 r.1.Boats), rv0, rv1]), rv2, (.int .i64 r.2.2)]) ∧ Fresh w0 w' [Ent.rdx rS0 rv0 r.1.Points, Ent.rdx rS1 rv1 r.1.Codes, Ent.rdx rS2 rv2 r.2.1] := by
 unfold M.spec_l27Draw at hm
 refine calls_CW (args := [v1]) Try.func77 rfl rfl rfl ?_
 have hL := Hp.start w0
 refine CSR ?_
 refine OW.cons (S_alloc (cs := #[(.int .i64 0), (.slice none 0 0), (.slice none 0 0)]) hL Try_T29 rfl rfl ?_)
 intro wd3 b4 hL
 refine OV (.slice none 0 0) rfl (x_assign) ?_
 refine OV (.int .i64 0) rfl (x_assign) ?_
 refine ONR ?_
 refine OV v1 rfl (x_move) ?_
 obtain ⟨x5, hx6, hm⟩ := bndE hm
 refine OW.cons (OP.call rfl (x_call (vs := [v1]) Try_C84 ⟨rfl, trivial⟩) (M.spec_l01From_ok _ a0 (hL.rdS 1 rfl h2) hx6) ?_)
 rintro e8 wd9 ⟨b7, rfl, hF10⟩
 refine ⟨_, rfl, ?_⟩
 have hL := hL.pushAll hF10
 simp only [lA, lB, lC, lD] at hL
 refine OV (.pointer (some ⟨b7, 0, none⟩)) rfl (x_assign) ?_
 refine ONR ?_
 refine OV (.pointer (some ⟨b7, 0, none⟩)) rfl (x_move) ?_
 obtain ⟨x11, hx12, hm⟩ := bndE hm
 refine OW.cons (OP.call rfl (x_call (vs := [(.pointer (some ⟨b7, 0, none⟩))]) Try_C104 ⟨rfl, trivial⟩) (M.spec_l26DrawTable_ok _ (Src.mk a0 x5.1 x5.2) (hL.exS 2 0 (by decide) rfl rfl h2) (hL.get 0 rfl) hx12) ?_)
 rintro e17 wd18 ⟨v14, S13, v16, S15, rfl, hF19⟩
 refine ⟨_, rfl, ?_⟩
 have hL := hL.mut 0 rfl hF19
 simp only [lA, lB, lC, lD] at hL
 obtain ⟨wz20, hL, ho21⟩ := hL.rdxFz 0 rfl
 simp only [lC, lD] at hL
 obtain ⟨wz22, hL, ho23⟩ := hL.rdxFz 1 rfl
 simp only [lC, lD] at hL
 refine OW.cons (S_alloc (cs := #[(.int .i64 0), (.slice none 0 0), (.slice none 0 0)]) hL Try_T29 rfl rfl ?_)
 intro wd24 b25 hL
 refine OW.cons (S_storeN (l := [(.int .i64 x11.1.Boats), v14, v16]) (cs' := #[(.int .i64 x11.1.Boats), v14, v16]) hL 0 rfl Try_T29 rfl rfl (List.forall_mem_cons.2 ⟨rfl, (List.forall_mem_cons.2 ⟨rdL_one (hL.rdF 1 rfl ho21.1.rdL), (List.forall_mem_cons.2 ⟨rdL_one (hL.rdF 2 rfl ho23.1.rdL), (fun _ h => by cases h)⟩)⟩)⟩) rfl (Nat.le_of_ble_eq_true rfl) rfl ?_)
 intro wd26 hL
 refine ONR ?_
 refine OV (.pointer (some ⟨b7, 0, none⟩)) rfl (x_move) ?_
 obtain ⟨x27, hx28, hm⟩ := bndE hm
 refine OW.cons (OP.call rfl (x_call (vs := [(.pointer (some ⟨b7, 0, none⟩))]) Try_C85 ⟨rfl, trivial⟩) (M.spec_l27DrawRule_ok _ (Src.mk a0 x11.2.1 x11.2.2) (hL.exS 5 3 (by decide) rfl rfl h2) (hL.get 3 rfl) hx28) ?_)
 rintro e31 wd32 ⟨v30, S29, rfl, hF33⟩
 refine ⟨_, rfl, ?_⟩
 have hL := hL.mut 3 rfl hF33
 simp only [lA, lB, lC, lD] at hL
 refine OV v30 rfl (x_assign) ?_
 refine ONS ?_
 refine CW.drawH (fun w' => Hp w0 [Ent.own 2 S29 v30 x27.1, Ent.blk b25 29 #[(.int .i64 x11.1.Boats), v14, v16], Ent.frzS wz20 S13, Ent.frzS wz22 S15, Ent.snap w0 w0.heap.size] w') Try_mixed ?_
 have hL := hL.call (Mod.drew _)
 have hS := (hL.sel [0, 1, 2, 3, 6] (by decide) rfl)
 refine DH.take 0 rfl (by kernel_rfl) (by kernel_rfl) (by kernel_rfl) rfl rfl hS (YH.val (v := (.agg #[(.int .i64 x11.1.Boats), v14, v16])) (fun w' hS' => x_loadN (cs := [(.int .i64 x11.1.Boats), v14, v16]) U29 Try_T29 rfl rfl (hS'.cellsB 1 rfl (o := 0) (l := [(.int .i64 x11.1.Boats), v14, v16]) (by intro j u hj; exact (by simpa using hj))))) ?_
 have hS := (hL.sel [0, 1, 2, 3, 6] (by decide) rfl)
 refine DH.take 1 rfl (by kernel_rfl) (by kernel_rfl) (by kernel_rfl) rfl rfl hS (YH.val (v := v30) (fun w' hS' => x_move)) ?_
 have hS := (hL.sel [0, 1, 2, 3, 6] (by decide) rfl)
 refine DH.take 2 rfl (by kernel_rfl) (by kernel_rfl) (by kernel_rfl) rfl rfl hS (YH.val (v := (.pointer (some ⟨b7, 0, none⟩))) (fun w' hS' => x_move)) ?_
 have hS := (hL.sel [0, 1, 2, 3, 6] (by decide) rfl)
 refine DH.take 3 rfl (by kernel_rfl) (by kernel_rfl) (by kernel_rfl) rfl rfl hS (YH.val (v := (.agg #[(.int .i64 x11.1.Boats), v14, v16])) (fun w' hS' => x_loadN (cs := [(.int .i64 x11.1.Boats), v14, v16]) U29 Try_T29 rfl rfl (hS'.cellsB 1 rfl (o := 0) (l := [(.int .i64 x11.1.Boats), v14, v16]) (by intro j u hj; exact (by simpa using hj))))) ?_
 obtain ⟨x40, hx41, hm⟩ := bndE hm
 refine DH.only 4 rfl (by kernel_rfl) (OP.call rfl (x_call (vs := [(.pointer (some ⟨b7, 0, none⟩)), (.agg #[(.int .i64 x11.1.Boats), v14, v16])]) Try_C105 ⟨rfl, rfl, trivial⟩) (M.spec_l27DrawBoat_ok _ (Src.mk a0 x27.2.1 x27.2.2) (hL.exS 6 4 (by decide) rfl rfl h2) (hL.get 4 rfl) x11.1 (hL.exF 2 4 (by decide) rfl rfl ho21.1.rdL) (hL.exF 3 4 (by decide) rfl rfl ho23.1.rdL) hx41) ?_)
 rintro e42 wd43 ⟨rfl, hF44⟩
 refine ⟨_, rfl, ?_⟩
 have hL := hL.mut 4 rfl hF44
 simp only [lA, lB, lC, lD] at hL
 refine ⟨(hL.sel [0, 1, 2, 3, 6] (by decide) rfl), ?_⟩
 refine DH.only 5 rfl (by kernel_rfl) (S_storeN (l := [(.int .i64 x11.1.Boats), v14, v16]) (cs' := #[(.int .i64 x11.1.Boats), v14, v16]) hL 5 rfl Try_T29 rfl rfl (List.forall_mem_cons.2 ⟨rfl, (List.forall_mem_cons.2 ⟨rdL_one (hL.rdF 2 rfl ho21.1.rdL), (List.forall_mem_cons.2 ⟨rdL_one (hL.rdF 3 rfl ho23.1.rdL), (fun _ h => by cases h)⟩)⟩)⟩) rfl (Nat.le_of_ble_eq_true rfl) rfl ?_)
 intro wd45 hL
 refine ⟨(hL.sel [0, 1, 2, 3, 6] (by decide) rfl), ?_⟩
 have hS := (hL.sel [0, 1, 2, 3, 6] (by decide) rfl)
 refine DH.take 6 rfl (by kernel_rfl) (by kernel_rfl) (by kernel_rfl) rfl rfl hS (YH.val (v := v30) (fun w' hS' => x_assign)) ?_
 have hS := (hL.sel [0, 1, 2, 3, 6] (by decide) rfl)
 refine DH.take 7 rfl (by kernel_rfl) (by kernel_rfl) (by kernel_rfl) rfl rfl hS (YH.val (v := (.int .i64 x40.1)) (fun w' hS' => x_assign)) ?_
 refine DH.done (by kernel_rfl) ?_
 refine CW.ret ?_
 have hL := hL.rdxOut 2 rfl ho21
 simp only [lC, lD] at hL
 have hL := hL.rdxOut 3 rfl ho23
 simp only [lC, lD] at hL
 have hL := hL.rdxIn 0 rfl
 simp only [lC, lD] at hL
 obtain rfl := Option.some.inj hm
 exact RRs (v := (.agg #[(.int .i64 x11.1.Boats), v14, v16])) (v2 := v30) (vs := [(.int .i64 x40.1)]) (rs := [.cell 2 29, .tmp 3, .tmp 4]) rfl ⟨resCell rfl (run_loadBlk U29 Try_T29 (hL.get 5 rfl) rfl), resTmp rfl, resTmp rfl, trivial⟩ ⟨v14, S13, v16, S15, v30, S29, rfl, hL.fresh 6 rfl [2, 3, 0] (by decide) (by decide) rfl⟩

theorem M.laws_likeInts_ok (w0 : World) (a0 : List Int) {v1 : Value} (h2 : rdL (· < w0.heap.size) w0 v1 a0) (a1 : List Int) {v3 : Value} (h4 : rdL (· < w0.heap.size) w0 v3 a1) {r : Bool} (hm : M.laws_likeInts a0 a1 = some r) :
    Calls Try.prog 40 #[v1, v3] w0 fun e w' => e = .returned (.bool r) ∧ Fresh w0 w' [] := by
 unfold M.laws_likeInts at hm
 refine calls_CW (args := [v1, v3]) Try.func40 rfl rfl rfl ?_
 have hL := Hp.start w0
 refine CSR ?_
 refine OV (.bool false) rfl (x_assign) ?_
 refine ONS ?_
 refine CSR ?_
 refine OV v1 rfl (x_move) ?_
 refine OV (.int .i64 (a0.length : Int)) rfl (x_lenR U25 rfl (hL.rdS 0 rfl h2)) ?_
 refine OV v3 rfl (x_move) ?_
 refine OV (.int .i64 (a1.length : Int)) rfl (x_lenR U25 rfl (hL.rdS 0 rfl h4)) ?_
 refine OV (.bool ((a0.length : Int) != (a1.length : Int))) rfl (x_neq rfl rfl) ?_
 refine OW.nil ?_
 refine CW.condM (t := (a0.length : Int) != (a1.length : Int)) rfl hm (fun hb5 hm => ?_) (fun hb5 hm => ?_)
 · refine CSR ?_
   refine OV (.bool false) rfl (x_assign) ?_
   refine OW.nil ?_
   refine CW.ret ?_
   obtain rfl := Option.some.inj hm
   exact RR1 rfl rfl ⟨rfl, hL.fresh 0 rfl [] (by decide) (by decide) rfl⟩
 refine CW.skip ?_
 refine CW.seq ?_
 refine CSR ?_
 refine OV (.int .i64 0) rfl (x_assign) ?_
 refine OW.nil ?_
 obtain ⟨o42, ho43, hm⟩ := bndE hm
 refine CW.loopB (fun (s_l1 : Int) (F : Fr) (w : World) => F 0 = v1 ∧ F 1 = v3 ∧ F 5 = (.int .i64 s_l1) ∧ Hp w0 [Ent.snap w0 w0.heap.size] w) (fun o => outc o (fun x => some x) (fun s => M.laws_likeInts_a1 s) = some r) ho43 hm ⟨rfl, rfl, rfl, hL⟩ ?_ ?_
 · intro s_l1 F44 wd45 hJ hm
   have hm := outcE hm
   have hm : M.laws_likeInts_a1 s_l1 = some r := hm
   unfold M.laws_likeInts_a1 at hm
   obtain ⟨f46, f47, f48, hL⟩ := hJ
   refine CSR ?_
   refine OV (.bool true) rfl (x_assign) ?_
   refine OW.nil ?_
   refine CW.ret ?_
   obtain rfl := Option.some.inj hm
   exact RR1 rfl rfl ⟨rfl, hL.fresh 0 rfl [] (by decide) (by decide) rfl⟩
 intro s_l1 F49 wd50 t40 hJ hm hr41
 unfold M.laws_likeInts_l1 at hm
 obtain ⟨f51, f52, f53, hL⟩ := hJ
 refine CW.seq ?_
 refine CSR ?_
 refine OV (.int .i64 s_l1) rfl (x_mv f53) ?_
 refine OV v1 rfl (x_mv f51) ?_
 refine OV (.int .i64 (a0.length : Int)) rfl (x_lenR U25 rfl (hL.rdS 0 rfl h2)) ?_
 refine OV (.bool (decide (s_l1 < (a0.length : Int)))) rfl (x_lss rfl rfl) ?_
 refine OW.nil ?_
 refine CW.condM (t := decide (s_l1 < (a0.length : Int))) rfl hm (fun hb54 hm => ?_) (fun hb54 hm => ?_)
 · refine CW.skip ?_
   refine CW.seq ?_
   refine CW.block ?_
   refine CW.seq ?_
   refine CW.draw Try_mixed ?_
   have hL := hL.call (Mod.drew _)
   refine DW.pre (fuel := 0) (fin := bma 9 511) (C := fun w' => Mod None_ _ w') [0, 1, 2, 3, 4, 5, 6, 7, 8] (Mod.refl _ _) (by kernel_rfl) (by kernel_rfl) ?_
   refine QW.cons rfl (QP.val (v := v1) rfl (fun w' hm' => x_mv f51) ?_)
   refine QW.cons rfl (QP.val (v := (.int .i64 s_l1)) rfl (fun w' hm' => x_mv f53) ?_)
   obtain ⟨x55, ha56, hm⟩ := bndE hm
   obtain ⟨hz57, ha61⟩ := idxE ha56
   obtain ⟨b58, q59, hix60⟩ := rdL_ix (hL.rdS 0 rfl h2) hz57 ha61
   refine QW.cons rfl (QP.val (v := (.pointer (some ⟨b58, q59, none⟩))) rfl (fun w' hm' => x_ix U25 Try_T2 rfl rfl hix60) ?_)
   refine QW.cons rfl (QP.val (v := (.int .i64 x55)) rfl (fun w' hm' => x_load1 U2 rfl rfl (rdF_cells ((hL.call hm').rdS 0 rfl h2) hix60 ha61 0 _ rfl)) ?_)
   refine QW.cons rfl (QP.val (v := v3) rfl (fun w' hm' => x_mv f52) ?_)
   refine QW.cons rfl (QP.val (v := (.int .i64 s_l1)) rfl (fun w' hm' => x_mv f53) ?_)
   obtain ⟨x62, ha63, hm⟩ := bndE hm
   obtain ⟨hz64, ha68⟩ := idxE ha63
   obtain ⟨b65, q66, hix67⟩ := rdL_ix (hL.rdS 0 rfl h4) hz64 ha68
   refine QW.cons rfl (QP.val (v := (.pointer (some ⟨b65, q66, none⟩))) rfl (fun w' hm' => x_ix U25 Try_T2 rfl rfl hix67) ?_)
   refine QW.cons rfl (QP.val (v := (.int .i64 x62)) rfl (fun w' hm' => x_load1 U2 rfl rfl (rdF_cells ((hL.call hm').rdS 0 rfl h4) hix67 ha68 0 _ rfl)) ?_)
   refine QW.cons rfl (QP.val (v := (.bool (x55 != x62))) rfl (fun w' hm' => x_neq rfl rfl) ?_)
   refine QW.nil ?_
   intro wd69 hmod
   have hL := hL.call hmod
   refine DW.done (by kernel_rfl) ?_
   refine CW.condM (t := x55 != x62) rfl hm (fun hb70 hm => ?_) (fun hb70 hm => ?_)
   · refine CSR ?_
     refine OV (.bool false) rfl (x_assign) ?_
     refine OW.nil ?_
     refine CW.ret ?_
     obtain rfl := Option.some.inj hm
     have hm := hr41 _ rfl
     obtain rfl := Option.some.inj hm
     exact RR1 rfl rfl ⟨rfl, hL.fresh 0 rfl [] (by decide) (by decide) rfl⟩
   refine CW.skip ?_
   refine CW.regionL ?_
   refine OV (.int .i64 s_l1) rfl (x_mv f53) ?_
   refine OV (.int .i64 (w64 (s_l1 + 1))) rfl (x_add rfl rfl) ?_
   refine OV (.int .i64 (w64 (s_l1 + 1))) rfl (x_assign) ?_
   refine OW.nil ?_
   obtain rfl := Option.some.inj hm
   exact ⟨_, rfl, ⟨f51, f52, rfl, hL⟩⟩
 refine CW.exit ?_
 refine XJ.hit ?_
 obtain rfl := Option.some.inj hm
 exact ⟨_, rfl, ⟨f51, f52, f53, hL⟩⟩

theorem M.impl_DiscardCount_ok (w0 : World) (a0 : List Int) {v1 : Value} (h2 : rdL (· < w0.heap.size) w0 v1 a0) (a1 : Int) {r : Int} (hm : M.impl_DiscardCount a0 a1 = some r) :
    Calls Try.prog 44 #[v1, (.int .i64 a1)] w0 fun e w' => e = .returned (.int .i64 r) ∧ Fresh w0 w' [] := by
 unfold M.impl_DiscardCount at hm
 refine calls_CW (args := [v1, (.int .i64 a1)]) Try.func44 rfl rfl rfl ?_
 have hL := Hp.start w0
 refine CSR ?_
 refine OV (.int .i64 0) rfl (x_assign) ?_
 refine ONS ?_
 refine CW.seqJ (fun (s_j1 : Bool) (F : Fr) (w : World) => F 0 = v1 ∧ F 1 = (.int .i64 a1) ∧ F 12 = (.bool s_j1) ∧ Hp w0 [Ent.snap w0 w0.heap.size] w) (fun s_j1 => M.impl_DiscardCount_j1 a0 a1 s_j1 = some r) ?_ ?_
 · refine CW.regionL ?_
   refine OV v1 rfl (x_move) ?_
   obtain ⟨x25, hx26, hm⟩ := bndE hm
   refine OW.cons (OP.call rfl (x_call (vs := [v1]) Try_C80 ⟨rfl, trivial⟩) (M.impl_IsDiscardRule_ok _ a0 (hL.rdS 0 rfl h2) hx26) ?_)
   rintro e27 wd28 ⟨rfl, hF29⟩
   refine ⟨_, rfl, ?_⟩
   have hL := hL.pushAll hF29
   simp only [lA, lB, lC, lD] at hL
   refine OV (.bool (!x25)) rfl (x_not rfl) ?_
   refine OV (.bool (!x25)) rfl (x_move) ?_
   refine ifB_elim hm (fun hb30 hm => ?_) (fun hb30 hm => ?_)
   · refine OW.cons (OP.no' rfl rfl hb30 rfl ?_)
     refine OW.cons (OP.no' rfl rfl hb30 rfl ?_)
     refine OW.cons (OP.no' rfl rfl hb30 rfl ?_)
     refine OV (.bool true) rfl (x_pickT' rfl hb30 rfl) ?_
     refine OW.nil ?_
     exact ⟨true, hm, ⟨rfl, rfl, rfl, hL⟩⟩
   refine OW.cons (OP.yes' rfl rfl hb30 (OP.val (v := (.int .i64 a1)) rfl (x_move) ?_))
   obtain ⟨x31, hx32, hm⟩ := bndE hm
   refine OW.cons (OP.yes' rfl rfl hb30 (OP.call rfl (x_call (vs := [(.int .i64 a1), (.int .i64 0), (.int .i64 12)]) Try_C81 ⟨rfl, rfl, rfl, trivial⟩) (M.impl_within_ok _ a1 0 12 hx32) ?_))
   rintro e33 wd34 ⟨rfl, hF35⟩
   refine ⟨_, rfl, ?_⟩
   have hL := hL.pushAll hF35
   simp only [lA, lB, lC, lD] at hL
   refine OW.cons (OP.yes' rfl rfl hb30 (OP.val (v := (.bool (!x31))) rfl (x_not rfl) ?_))
   refine OV (.bool (!x31)) rfl (x_pickF' rfl hb30 rfl) ?_
   refine OW.nil ?_
   exact ⟨!x31, hm, ⟨rfl, rfl, rfl, hL⟩⟩
 intro s_j1 F14 wd15 hJ hm
 unfold M.impl_DiscardCount_j1 at hm
 obtain ⟨f16, f17, f18, hL⟩ := hJ
 refine CW.condM (t := s_j1) f18 hm (fun hb19 hm => ?_) (fun hb19 hm => ?_)
 · refine CSR ?_
   refine OV (.int .i64 (-1)) rfl (x_assign) ?_
   refine OW.nil ?_
   refine CW.ret ?_
   obtain rfl := Option.some.inj hm
   exact RR1 rfl rfl ⟨rfl, hL.fresh 0 rfl [] (by decide) (by decide) rfl⟩
 refine CW.skip ?_
 refine CSR ?_
 refine OV v1 rfl (x_mv f16) ?_
 refine OV (.int .i64 a1) rfl (x_mv f17) ?_
 obtain ⟨x20, hx21, hm⟩ := bndE hm
 refine OW.cons (OP.call rfl (x_call (vs := [v1, (.int .i64 a1)]) Try_C82 ⟨rfl, rfl, trivial⟩) (M.impl_discardCount_ok _ a0 (hL.rdS 0 rfl h2) a1 hx21) ?_)
 rintro e22 wd23 ⟨rfl, hF24⟩
 refine ⟨_, rfl, ?_⟩
 have hL := hL.pushAll hF24
 simp only [lA, lB, lC, lD] at hL
 refine OV (.int .i64 x20) rfl (x_assign) ?_
 refine OW.nil ?_
 refine CW.ret ?_
 obtain rfl := Option.some.inj hm
 exact RR1 rfl rfl ⟨rfl, hL.fresh 0 rfl [] (by decide) (by decide) rfl⟩

theorem M.spec_DrawNetScores_ok (w0 : World) (a0 : List UInt8) {v1 : Value} (h2 : rdL (· < w0.heap.size) w0 v1 a0) {r : Table × (List Int)} (hm : M.spec_DrawNetScores a0 = some r) :
    Calls Try.prog 45 #[v1] w0 fun e w' => ∃ (rv0 : Value) (rS0 : Nat → Prop), ∃ (rv1 : Value) (rS1 : Nat → Prop), ∃ (rv2 : Value) (rS2 : Nat → Prop), e = .returned (.tuple #[(.agg #[(.int .i64 r.1.Boats), rv0, rv1]), rv2]) ∧ Fresh w0 w' [Ent.rdx rS0 rv0 r.1.Points, Ent.rdx rS1 rv1 r.1.Codes, Ent.rdx rS2 rv2 r.2] := by
 unfold M.spec_DrawNetScores at hm
 refine calls_CW (args := [v1]) Try.func45 rfl rfl rfl ?_
 have hL := Hp.start w0
 refine CSR ?_
 refine OW.cons (S_alloc (cs := #[(.int .i64 0), (.slice none 0 0), (.slice none 0 0)]) hL Try_T29 rfl rfl ?_)
 intro wd3 b4 hL
 refine OV (.slice none 0 0) rfl (x_assign) ?_
 refine ONR ?_
 refine OV v1 rfl (x_move) ?_
 obtain ⟨x5, hx6, hm⟩ := bndE hm
 refine OW.cons (OP.call rfl (x_call (vs := [v1]) Try_C77 ⟨rfl, trivial⟩) (M.spec_l27Draw_ok _ a0 (hL.rdS 1 rfl h2) hx6) ?_)
 rintro e13 wd14 ⟨v8, S7, v10, S9, v12, S11, rfl, hF15⟩
 refine ⟨_, rfl, ?_⟩
 have hL := hL.pushAll hF15
 simp only [lA, lB, lC, lD] at hL
 obtain ⟨wz16, hL, ho17⟩ := hL.rdxFz 0 rfl
 simp only [lC, lD] at hL
 obtain ⟨wz18, hL, ho19⟩ := hL.rdxFz 1 rfl
 simp only [lC, lD] at hL
 obtain ⟨wz20, hL, ho21⟩ := hL.rdxFz 2 rfl
 simp only [lC, lD] at hL
 refine OV (.tuple #[(.agg #[(.int .i64 x5.1.Boats), v8, v10]), v12, (.int .i64 x5.2.2)]) rfl (x_move) ?_
 refine OV (.agg #[(.int .i64 x5.1.Boats), v8, v10]) rfl (x_extract rfl rfl) ?_
 refine OV v12 rfl (x_extract rfl rfl) ?_
 refine OV (.int .i64 x5.2.2) rfl (x_extract rfl rfl) ?_
 refine OW.cons (S_alloc (cs := #[(.int .i64 0), (.slice none 0 0), (.slice none 0 0)]) hL Try_T29 rfl rfl ?_)
 intro wd22 b23 hL
 refine OW.cons (S_storeN (l := [(.int .i64 x5.1.Boats), v8, v10]) (cs' := #[(.int .i64 x5.1.Boats), v8, v10]) hL 0 rfl Try_T29 rfl rfl (List.forall_mem_cons.2 ⟨rfl, (List.forall_mem_cons.2 ⟨rdL_one (hL.rdF 1 rfl ho17.1.rdL), (List.forall_mem_cons.2 ⟨rdL_one (hL.rdF 2 rfl ho19.1.rdL), (fun _ h => by cases h)⟩)⟩)⟩) rfl (Nat.le_of_ble_eq_true rfl) rfl ?_)
 intro wd24 hL
 refine OV v12 rfl (x_assign) ?_
 refine OV (.int .i64 x5.2.2) rfl (x_assign) ?_
 refine ONR ?_
 refine OV (.agg #[(.int .i64 x5.1.Boats), v8, v10]) rfl (x_loadN (cs := [(.int .i64 x5.1.Boats), v8, v10]) U29 Try_T29 rfl rfl (hL.cellsB 0 rfl (o := 0) (l := [(.int .i64 x5.1.Boats), v8, v10]) (by intro j u hj; exact (by simpa using hj)))) ?_
 refine OV v12 rfl (x_move) ?_
 refine OW.cons (S_storeN (l := [(.int .i64 x5.1.Boats), v8, v10]) (cs' := #[(.int .i64 x5.1.Boats), v8, v10]) hL 4 rfl Try_T29 rfl rfl (List.forall_mem_cons.2 ⟨rfl, (List.forall_mem_cons.2 ⟨rdL_one (hL.rdF 1 rfl ho17.1.rdL), (List.forall_mem_cons.2 ⟨rdL_one (hL.rdF 2 rfl ho19.1.rdL), (fun _ h => by cases h)⟩)⟩)⟩) rfl (Nat.le_of_ble_eq_true rfl) rfl ?_)
 intro wd25 hL
 refine OV v12 rfl (x_assign) ?_
 refine OW.nil ?_
 refine CW.ret ?_
 have hL := hL.rdxOut 1 rfl ho17
 simp only [lC, lD] at hL
 have hL := hL.rdxOut 2 rfl ho19
 simp only [lC, lD] at hL
 have hL := hL.rdxOut 3 rfl ho21
 simp only [lC, lD] at hL
 obtain rfl := Option.some.inj hm
 exact RRct rfl rfl (run_loadBlk U29 Try_T29 (hL.get 4 rfl) rfl) rfl ⟨v8, S7, v10, S9, v12, S11, rfl, hL.fresh 5 rfl [1, 2, 3] (by decide) (by decide) rfl⟩

theorem M.spec_DrawDiscardCount_ok (w0 : World) (a0 : List UInt8) {v1 : Value} (h2 : rdL (· < w0.heap.size) w0 v1 a0) {r : (List Int) × Int} (hm : M.spec_DrawDiscardCount a0 = some r) :
    Calls Try.prog 48 #[v1] w0 fun e w' => ∃ (rv0 : Value) (rS0 : Nat → Prop), e = .returned (.tuple #[rv0, (.int .i64 r.2)]) ∧ Fresh w0 w' [Ent.own 2 rS0 rv0 r.1] := by
 unfold M.spec_DrawDiscardCount at hm
 refine calls_CW (args := [v1]) Try.func48 rfl rfl rfl ?_
 have hL := Hp.start w0
 refine CSR ?_
 refine OV (.slice none 0 0) rfl (x_assign) ?_
 refine OV (.int .i64 0) rfl (x_assign) ?_
 refine ONR ?_
 refine OV v1 rfl (x_move) ?_
 obtain ⟨x3, hx4, hm⟩ := bndE hm
 refine OW.cons (OP.call rfl (x_call (vs := [v1]) Try_C84 ⟨rfl, trivial⟩) (M.spec_l01From_ok _ a0 (hL.rdS 0 rfl h2) hx4) ?_)
 rintro e6 wd7 ⟨b5, rfl, hF8⟩
 refine ⟨_, rfl, ?_⟩
 have hL := hL.pushAll hF8
 simp only [lA, lB, lC, lD] at hL
 refine OV (.pointer (some ⟨b5, 0, none⟩)) rfl (x_assign) ?_
 refine ONR ?_
 refine OV (.pointer (some ⟨b5, 0, none⟩)) rfl (x_move) ?_
 obtain ⟨x9, hx10, hm⟩ := bndE hm
 refine OW.cons (OP.call rfl (x_call (vs := [(.pointer (some ⟨b5, 0, none⟩))]) Try_C85 ⟨rfl, trivial⟩) (M.spec_l27DrawRule_ok _ (Src.mk a0 x3.1 x3.2) (hL.exS 1 0 (by decide) rfl rfl h2) (hL.get 0 rfl) hx10) ?_)
 rintro e13 wd14 ⟨v12, S11, rfl, hF15⟩
 refine ⟨_, rfl, ?_⟩
 have hL := hL.mut 0 rfl hF15
 simp only [lA, lB, lC, lD] at hL
 refine OV (.pointer (some ⟨b5, 0, none⟩)) rfl (x_move) ?_
 obtain ⟨x16, hx17, hm⟩ := bndE hm
 refine OW.cons (OP.call rfl (x_call (vs := [(.pointer (some ⟨b5, 0, none⟩)), (.int .i64 15)]) Try_C86 ⟨rfl, rfl, trivial⟩) (M.spec_l01Next_ok _ (Src.mk a0 x9.2.1 x9.2.2) (hL.exS 2 1 (by decide) rfl rfl h2) (hL.get 1 rfl) 15 hx17) ?_)
 rintro e18 wd19 ⟨rfl, hF20⟩
 refine ⟨_, rfl, ?_⟩
 have hL := hL.mut 1 rfl hF20
 simp only [lA, lB, lC, lD] at hL
 refine OV (.int .i64 (w64 (x16.1 - 1))) rfl (x_sub rfl rfl) ?_
 refine OV v12 rfl (x_assign) ?_
 refine OV (.int .i64 (w64 (x16.1 - 1))) rfl (x_assign) ?_
 refine OW.nil ?_
 refine CW.ret ?_
 obtain rfl := Option.some.inj hm
 exact RR2 rfl rfl rfl ⟨v12, S11, rfl, hL.fresh 2 rfl [0] (by decide) (by decide) rfl⟩

theorem M.spec_DiscardCount_ok (w0 : World) (a0 : List Int) {v1 : Value} (h2 : rdL (· < w0.heap.size) w0 v1 a0) (a1 : Int) {r : Int} (hm : M.spec_DiscardCount a0 a1 = some r) :
    Calls Try.prog 49 #[v1, (.int .i64 a1)] w0 fun e w' => e = .returned (.int .i64 r) ∧ Fresh w0 w' [] := by
 unfold M.spec_DiscardCount at hm
 refine calls_CW (args := [v1, (.int .i64 a1)]) Try.func49 rfl rfl rfl ?_
 have hL := Hp.start w0
 refine CSR ?_
 refine OV (.int .i64 0) rfl (x_assign) ?_
 refine ONS ?_
 refine CW.seqJ (fun (s_j1 : Bool) (F : Fr) (w : World) => F 0 = v1 ∧ F 1 = (.int .i64 a1) ∧ F 12 = (.bool s_j1) ∧ Hp w0 [Ent.snap w0 w0.heap.size] w) (fun s_j1 => M.spec_DiscardCount_j1 a0 a1 s_j1 = some r) ?_ ?_
 · refine CW.regionL ?_
   refine OV v1 rfl (x_move) ?_
   obtain ⟨x25, hx26, hm⟩ := bndE hm
   refine OW.cons (OP.call rfl (x_call (vs := [v1]) Try_C87 ⟨rfl, trivial⟩) (M.spec_IsDiscardRule_ok _ a0 (hL.rdS 0 rfl h2) hx26) ?_)
   rintro e27 wd28 ⟨rfl, hF29⟩
   refine ⟨_, rfl, ?_⟩
   have hL := hL.pushAll hF29
   simp only [lA, lB, lC, lD] at hL
   refine OV (.bool (!x25)) rfl (x_not rfl) ?_
   refine OV (.bool (!x25)) rfl (x_move) ?_
   refine ifB_elim hm (fun hb30 hm => ?_) (fun hb30 hm => ?_)
   · refine OW.cons (OP.no' rfl rfl hb30 rfl ?_)
     refine OW.cons (OP.no' rfl rfl hb30 rfl ?_)
     refine OW.cons (OP.no' rfl rfl hb30 rfl ?_)
     refine OV (.bool true) rfl (x_pickT' rfl hb30 rfl) ?_
     refine OW.nil ?_
     exact ⟨true, hm, ⟨rfl, rfl, rfl, hL⟩⟩
   refine OW.cons (OP.yes' rfl rfl hb30 (OP.val (v := (.int .i64 a1)) rfl (x_move) ?_))
   obtain ⟨x31, hx32, hm⟩ := bndE hm
   refine OW.cons (OP.yes' rfl rfl hb30 (OP.call rfl (x_call (vs := [(.int .i64 a1), (.int .i64 0), (.int .i64 12)]) Try_C88 ⟨rfl, rfl, rfl, trivial⟩) (M.spec_l01In_ok _ a1 0 12 hx32) ?_))
   rintro e33 wd34 ⟨rfl, hF35⟩
   refine ⟨_, rfl, ?_⟩
   have hL := hL.pushAll hF35
   simp only [lA, lB, lC, lD] at hL
   refine OW.cons (OP.yes' rfl rfl hb30 (OP.val (v := (.bool (!x31))) rfl (x_not rfl) ?_))
   refine OV (.bool (!x31)) rfl (x_pickF' rfl hb30 rfl) ?_
   refine OW.nil ?_
   exact ⟨!x31, hm, ⟨rfl, rfl, rfl, hL⟩⟩
 intro s_j1 F14 wd15 hJ hm
 unfold M.spec_DiscardCount_j1 at hm
 obtain ⟨f16, f17, f18, hL⟩ := hJ
 refine CW.condM (t := s_j1) f18 hm (fun hb19 hm => ?_) (fun hb19 hm => ?_)
 · refine CSR ?_
   refine OV (.int .i64 (-1)) rfl (x_assign) ?_
   refine OW.nil ?_
   refine CW.ret ?_
   obtain rfl := Option.some.inj hm
   exact RR1 rfl rfl ⟨rfl, hL.fresh 0 rfl [] (by decide) (by decide) rfl⟩
 refine CW.skip ?_
 refine CSR ?_
 refine OV v1 rfl (x_mv f16) ?_
 refine OV (.int .i64 a1) rfl (x_mv f17) ?_
 obtain ⟨x20, hx21, hm⟩ := bndE hm
 refine OW.cons (OP.call rfl (x_call (vs := [v1, (.int .i64 a1)]) Try_C89 ⟨rfl, rfl, trivial⟩) (M.spec_l27Count_ok _ a0 (hL.rdS 0 rfl h2) a1 hx21) ?_)
 rintro e22 wd23 ⟨rfl, hF24⟩
 refine ⟨_, rfl, ?_⟩
 have hL := hL.pushAll hF24
 simp only [lA, lB, lC, lD] at hL
 refine OV (.int .i64 x20) rfl (x_assign) ?_
 refine OW.nil ?_
 refine CW.ret ?_
 obtain rfl := Option.some.inj hm
 exact RR1 rfl rfl ⟨rfl, hL.fresh 0 rfl [] (by decide) (by decide) rfl⟩

theorem M.impl_CountedPoints_ok (w0 : World) (a0 : Table) {v1 : Value} {v3 : Value} (h2 : rdL (· < w0.heap.size) w0 v1 a0.Points) (h4 : rdL (· < w0.heap.size) w0 v3 a0.Codes) (a1 : List Int) {v5 : Value} (h6 : rdL (· < w0.heap.size) w0 v5 a1) (a2 : Int) {r : (List Int) × Int} (hm : M.impl_CountedPoints a0 a1 a2 = some r) :
    Calls Try.prog 50 #[(.agg #[(.int .i64 a0.Boats), v1, v3]), v5, (.int .i64 a2)] w0 fun e w' => ∃ (rv0 : Value) (rS0 : Nat → Prop), e = .returned (.tuple #[rv0, (.int .i64 r.2)]) ∧ Fresh w0 w' [Ent.own 2 rS0 rv0 r.1] := by
 unfold M.impl_CountedPoints at hm
 refine calls_CW (args := [(.agg #[(.int .i64 a0.Boats), v1, v3]), v5, (.int .i64 a2)]) Try.func50 rfl rfl rfl ?_
 have hL := Hp.start w0
 refine CSR ?_
 refine OW.cons (S_box (cs := #[(.int .i64 a0.Boats), v1, v3]) hL rfl rfl rfl ?_)
 intro wd7 b8 hL
 refine OV (.slice none 0 0) rfl (x_assign) ?_
 refine OV (.int .i64 0) rfl (x_assign) ?_
 refine ONS ?_
 refine CSR ?_
 refine OV (.agg #[(.int .i64 a0.Boats), v1, v3]) rfl (x_loadN (cs := [(.int .i64 a0.Boats), v1, v3]) U29 Try_T29 rfl rfl (hL.cellsB 0 rfl (o := 0) (l := [(.int .i64 a0.Boats), v1, v3]) (by intro j u hj; exact (by simpa using hj)))) ?_
 refine OV v5 rfl (x_move) ?_
 refine OV (.int .i64 a2) rfl (x_move) ?_
 obtain ⟨x9, hx10, hm⟩ := bndE hm
 refine OW.cons (OP.call rfl (x_call (vs := [(.agg #[(.int .i64 a0.Boats), v1, v3]), v5, (.int .i64 a2)]) Try_C65 ⟨rfl, rfl, rfl, trivial⟩) (M.impl_tableCode_ok _ a0 (hL.rdS 1 rfl h2) (hL.rdS 1 rfl h4) a1 (hL.rdS 1 rfl h6) a2 hx10) ?_)
 rintro e11 wd12 ⟨rfl, hF13⟩
 refine ⟨_, rfl, ?_⟩
 have hL := hL.pushAll hF13
 simp only [lA, lB, lC, lD] at hL
 refine OV (.int .i64 x9) rfl (x_assign) ?_
 refine ONR ?_
 refine OV (.int .i64 x9) rfl (x_move) ?_
 refine OV (.bool (x9 != 0)) rfl (x_neq rfl rfl) ?_
 refine OW.nil ?_
 refine CW.condM (t := x9 != 0) rfl hm (fun hb14 hm => ?_) (fun hb14 hm => ?_)
 · refine CSR ?_
   refine OV (.int .i64 x9) rfl (x_move) ?_
   refine OV (.slice none 0 0) rfl (x_assign) ?_
   refine OV (.int .i64 x9) rfl (x_assign) ?_
   refine OW.nil ?_
   refine CW.ret ?_
   have hL := hL.pushNil Int 2
   obtain rfl := Option.some.inj hm
   exact RR2 rfl rfl rfl ⟨(.slice none 0 0), None_, rfl, hL.fresh 2 rfl [0] (by decide) (by decide) rfl⟩
 refine CW.skip ?_
 refine CSR ?_
 refine OV (.agg #[(.int .i64 a0.Boats), v1, v3]) rfl (x_loadN (cs := [(.int .i64 a0.Boats), v1, v3]) U29 Try_T29 rfl rfl (hL.cellsB 0 rfl (o := 0) (l := [(.int .i64 a0.Boats), v1, v3]) (by intro j u hj; exact (by simpa using hj)))) ?_
 refine OV v5 rfl (x_move) ?_
 refine OV (.int .i64 a2) rfl (x_move) ?_
 obtain ⟨x15, hx16, hm⟩ := bndE hm
 refine OW.cons (OP.call rfl (x_call (vs := [(.agg #[(.int .i64 a0.Boats), v1, v3]), v5, (.int .i64 a2)]) Try_C90 ⟨rfl, rfl, rfl, trivial⟩) (M.impl_countedPoints_ok _ a0 (hL.rdS 1 rfl h2) (hL.rdS 1 rfl h4) a1 (hL.rdS 1 rfl h6) a2 hx16) ?_)
 rintro e19 wd20 ⟨v18, S17, rfl, hF21⟩
 refine ⟨_, rfl, ?_⟩
 have hL := hL.pushAll hF21
 simp only [lA, lB, lC, lD] at hL
 refine OV v18 rfl (x_assign) ?_
 refine OV (.int .i64 0) rfl (x_assign) ?_
 refine OW.nil ?_
 refine CW.ret ?_
 obtain rfl := Option.some.inj hm
 exact RR2 rfl rfl rfl ⟨v18, S17, rfl, hL.fresh 2 rfl [0] (by decide) (by decide) rfl⟩

theorem M.laws_FnCounted_ok (w0 : World) (a0 : List UInt8) {v1 : Value} (h2 : rdL (· < w0.heap.size) w0 v1 a0) {r : Bool} (hm : M.laws_FnCounted a0 = some r) :
    Calls Try.prog 10 #[v1] w0 fun e w' => e = .returned (.bool r) ∧ Fresh w0 w' [] := by
 unfold M.laws_FnCounted at hm
 refine calls_CW (args := [v1]) Try.func10 rfl rfl rfl ?_
 have hL := Hp.start w0
 refine CSR ?_
 refine OV (.bool false) rfl (x_assign) ?_
 refine ONS ?_
 refine CSR ?_
 refine OV v1 rfl (x_move) ?_
 obtain ⟨x3, hx4, hm⟩ := bndE hm
 refine OW.cons (OP.call rfl (x_call (vs := [v1]) Try_C36 ⟨rfl, trivial⟩) (M.laws_big_ok _ a0 (hL.rdS 0 rfl h2) hx4) ?_)
 rintro e5 wd6 ⟨rfl, hF7⟩
 refine ⟨_, rfl, ?_⟩
 have hL := hL.pushAll hF7
 simp only [lA, lB, lC, lD] at hL
 refine OW.nil ?_
 refine CW.condM (t := x3) rfl hm (fun hb8 hm => ?_) (fun hb8 hm => ?_)
 · refine CSR ?_
   refine OV (.bool true) rfl (x_assign) ?_
   refine OW.nil ?_
   refine CW.ret ?_
   obtain rfl := Option.some.inj hm
   exact RR1 rfl rfl ⟨rfl, hL.fresh 0 rfl [] (by decide) (by decide) rfl⟩
 refine CW.skip ?_
 refine CSR ?_
 refine OV v1 rfl (x_move) ?_
 obtain ⟨x9, hx10, hm⟩ := bndE hm
 refine OW.cons (OP.call rfl (x_call (vs := [v1]) Try_C45 ⟨rfl, trivial⟩) (M.spec_DrawNetScores_ok _ a0 (hL.rdS 0 rfl h2) hx10) ?_)
 rintro e17 wd18 ⟨v12, S11, v14, S13, v16, S15, rfl, hF19⟩
 refine ⟨_, rfl, ?_⟩
 have hL := hL.pushAll hF19
 simp only [lA, lB, lC, lD] at hL
 obtain ⟨wz20, hL, ho21⟩ := hL.rdxFz 0 rfl
 simp only [lC, lD] at hL
 obtain ⟨wz22, hL, ho23⟩ := hL.rdxFz 1 rfl
 simp only [lC, lD] at hL
 obtain ⟨wz24, hL, ho25⟩ := hL.rdxFz 2 rfl
 simp only [lC, lD] at hL
 refine OV (.tuple #[(.agg #[(.int .i64 x9.1.Boats), v12, v14]), v16]) rfl (x_move) ?_
 refine OV (.agg #[(.int .i64 x9.1.Boats), v12, v14]) rfl (x_extract rfl rfl) ?_
 refine OV v16 rfl (x_extract rfl rfl) ?_
 refine OW.cons (S_alloc (cs := #[(.int .i64 0), (.slice none 0 0), (.slice none 0 0)]) hL Try_T29 rfl rfl ?_)
 intro wd26 b27 hL
 refine OW.cons (S_storeN (l := [(.int .i64 x9.1.Boats), v12, v14]) (cs' := #[(.int .i64 x9.1.Boats), v12, v14]) hL 0 rfl Try_T29 rfl rfl (List.forall_mem_cons.2 ⟨rfl, (List.forall_mem_cons.2 ⟨rdL_one (hL.rdF 1 rfl ho21.1.rdL), (List.forall_mem_cons.2 ⟨rdL_one (hL.rdF 2 rfl ho23.1.rdL), (fun _ h => by cases h)⟩)⟩)⟩) rfl (Nat.le_of_ble_eq_true rfl) rfl ?_)
 intro wd28 hL
 refine OV v16 rfl (x_assign) ?_
 refine ONR ?_
 refine OV (.agg #[(.int .i64 x9.1.Boats), v12, v14]) rfl (x_loadN (cs := [(.int .i64 x9.1.Boats), v12, v14]) U29 Try_T29 rfl rfl (hL.cellsB 0 rfl (o := 0) (l := [(.int .i64 x9.1.Boats), v12, v14]) (by intro j u hj; exact (by simpa using hj)))) ?_
 refine OV v16 rfl (x_move) ?_
 obtain ⟨x29, hx30, hm⟩ := bndE hm
 refine OW.cons (OP.call rfl (x_call (vs := [(.agg #[(.int .i64 x9.1.Boats), v12, v14]), v16]) Try_C46 ⟨rfl, rfl, trivial⟩) (M.impl_NetScores_ok _ x9.1 (hL.rdF 1 rfl ho21.1.rdL) (hL.rdF 2 rfl ho23.1.rdL) x9.2 (hL.rdF 3 rfl ho25.1.rdL) hx30) ?_)
 rintro e33 wd34 ⟨v32, S31, rfl, hF35⟩
 refine ⟨_, rfl, ?_⟩
 have hL := hL.pushAll hF35
 simp only [lA, lB, lC, lD] at hL
 refine OV (.tuple #[v32, (.int .i64 x29.2)]) rfl (x_move) ?_
 refine OV v32 rfl (x_extract rfl rfl) ?_
 refine OV (.int .i64 x29.2) rfl (x_extract rfl rfl) ?_
 refine OV v32 rfl (x_assign) ?_
 refine OV (.int .i64 x29.2) rfl (x_assign) ?_
 refine ONR ?_
 refine OV v1 rfl (x_move) ?_
 obtain ⟨x36, hx37, hm⟩ := bndE hm
 refine OW.cons (OP.call rfl (x_call (vs := [v1]) Try_C45 ⟨rfl, trivial⟩) (M.spec_DrawNetScores_ok _ a0 (hL.rdS 5 rfl h2) hx37) ?_)
 rintro e44 wd45 ⟨v39, S38, v41, S40, v43, S42, rfl, hF46⟩
 refine ⟨_, rfl, ?_⟩
 have hL := hL.pushAll hF46
 simp only [lA, lB, lC, lD] at hL
 obtain ⟨wz47, hL, ho48⟩ := hL.rdxFz 0 rfl
 simp only [lC, lD] at hL
 obtain ⟨wz49, hL, ho50⟩ := hL.rdxFz 1 rfl
 simp only [lC, lD] at hL
 obtain ⟨wz51, hL, ho52⟩ := hL.rdxFz 2 rfl
 simp only [lC, lD] at hL
 refine OV (.tuple #[(.agg #[(.int .i64 x36.1.Boats), v39, v41]), v43]) rfl (x_move) ?_
 refine OV (.agg #[(.int .i64 x36.1.Boats), v39, v41]) rfl (x_extract rfl rfl) ?_
 refine OV v43 rfl (x_extract rfl rfl) ?_
 refine OW.cons (S_storeN (l := [(.int .i64 x36.1.Boats), v39, v41]) (cs' := #[(.int .i64 x36.1.Boats), v39, v41]) hL 4 rfl Try_T29 rfl rfl (List.forall_mem_cons.2 ⟨rfl, (List.forall_mem_cons.2 ⟨rdL_one (hL.rdF 0 rfl ho48.1.rdL), (List.forall_mem_cons.2 ⟨rdL_one (hL.rdF 1 rfl ho50.1.rdL), (fun _ h => by cases h)⟩)⟩)⟩) rfl (Nat.le_of_ble_eq_true rfl) rfl ?_)
 intro wd53 hL
 refine OV v43 rfl (x_assign) ?_
 refine ONR ?_
 refine OV (.agg #[(.int .i64 x36.1.Boats), v39, v41]) rfl (x_loadN (cs := [(.int .i64 x36.1.Boats), v39, v41]) U29 Try_T29 rfl rfl (hL.cellsB 4 rfl (o := 0) (l := [(.int .i64 x36.1.Boats), v39, v41]) (by intro j u hj; exact (by simpa using hj)))) ?_
 refine OV v43 rfl (x_move) ?_
 obtain ⟨x54, hx55, hm⟩ := bndE hm
 refine OW.cons (OP.call rfl (x_call (vs := [(.agg #[(.int .i64 x36.1.Boats), v39, v41]), v43]) Try_C47 ⟨rfl, rfl, trivial⟩) (M.spec_NetScores_ok _ x36.1 (hL.rdF 0 rfl ho48.1.rdL) (hL.rdF 1 rfl ho50.1.rdL) x36.2 (hL.rdF 2 rfl ho52.1.rdL) hx55) ?_)
 rintro e58 wd59 ⟨v57, S56, rfl, hF60⟩
 refine ⟨_, rfl, ?_⟩
 have hL := hL.pushAll hF60
 simp only [lA, lB, lC, lD] at hL
 refine OV (.tuple #[v57, (.int .i64 x54.2)]) rfl (x_move) ?_
 refine OV v57 rfl (x_extract rfl rfl) ?_
 refine OV (.int .i64 x54.2) rfl (x_extract rfl rfl) ?_
 refine OV v57 rfl (x_assign) ?_
 refine OV (.int .i64 x54.2) rfl (x_assign) ?_
 refine ONS ?_
 refine CW.seqJ (fun (s_j1 : Bool) (F : Fr) (w : World) => F 0 = v1 ∧ F 3 = (.pointer (some ⟨b27, 0, none⟩)) ∧ F 4 = v43 ∧ F 5 = v32 ∧ F 6 = (.int .i64 x29.2) ∧ F 49 = (.bool s_j1) ∧ Hp w0 [Ent.frzS wz47 S38, Ent.frzS wz49 S40, Ent.frzS wz51 S42, Ent.own 2 S31 v32 x29.1, Ent.blk b27 29 #[(.int .i64 x36.1.Boats), v39, v41], Ent.snap w0 w0.heap.size] w) (fun s_j1 => M.laws_FnCounted_j1 a0 x29 x36 s_j1 = some r) ?_ ?_
 · refine CW.regionL ?_
   refine OV (.int .i64 x29.2) rfl (x_move) ?_
   refine OV (.int .i64 x54.2) rfl (x_move) ?_
   refine OV (.bool (x29.2 != x54.2)) rfl (x_neq rfl rfl) ?_
   refine OV (.bool (x29.2 != x54.2)) rfl (x_move) ?_
   refine ifB_elim hm (fun hb379 hm => ?_) (fun hb379 hm => ?_)
   · refine OW.cons (OP.no' rfl rfl hb379 rfl ?_)
     refine OW.cons (OP.no' rfl rfl hb379 rfl ?_)
     refine OW.cons (OP.no' rfl rfl hb379 rfl ?_)
     refine OW.cons (OP.no' rfl rfl hb379 rfl ?_)
     refine OV (.bool true) rfl (x_pickT' rfl hb379 rfl) ?_
     refine OW.nil ?_
     have hL := hL.sel [1, 2, 3, 4, 5, 9] (by decide) rfl
     exact ⟨true, hm, ⟨rfl, rfl, rfl, rfl, rfl, rfl, hL⟩⟩
   refine OW.cons (OP.yes' rfl rfl hb379 (OP.val (v := v32) rfl (x_move) ?_))
   refine OW.cons (OP.yes' rfl rfl hb379 (OP.val (v := v57) rfl (x_move) ?_))
   obtain ⟨x380, hx381, hm⟩ := bndE hm
   refine OW.cons (OP.yes' rfl rfl hb379 (OP.call rfl (x_call (vs := [v32, v57]) Try_C40 ⟨rfl, rfl, trivial⟩) (M.laws_likeInts_ok _ x29.1 (hL.rdO 4 rfl) x54.1 (hL.rdO 0 rfl) hx381) ?_))
   rintro e382 wd383 ⟨rfl, hF384⟩
   refine ⟨_, rfl, ?_⟩
   have hL := hL.pushAll hF384
   simp only [lA, lB, lC, lD] at hL
   refine OW.cons (OP.yes' rfl rfl hb379 (OP.val (v := (.bool (!x380))) rfl (x_not rfl) ?_))
   refine OV (.bool (!x380)) rfl (x_pickF' rfl hb379 rfl) ?_
   refine OW.nil ?_
   have hL := hL.sel [1, 2, 3, 4, 5, 9] (by decide) rfl
   exact ⟨!x380, hm, ⟨rfl, rfl, rfl, rfl, rfl, rfl, hL⟩⟩
 intro s_j1 F67 wd68 hJ hm
 unfold M.laws_FnCounted_j1 at hm
 obtain ⟨f69, f70, f71, f72, f73, f74, hL⟩ := hJ
 refine CW.condM (t := s_j1) f74 hm (fun hb75 hm => ?_) (fun hb75 hm => ?_)
 · refine CSR ?_
   refine OV (.bool false) rfl (x_assign) ?_
   refine OW.nil ?_
   refine CW.ret ?_
   obtain rfl := Option.some.inj hm
   exact RR1 rfl rfl ⟨rfl, hL.fresh 5 rfl [] (by decide) (by decide) rfl⟩
 refine CW.skip ?_
 refine CSR ?_
 refine OV v1 rfl (x_mv f69) ?_
 obtain ⟨x76, hx77, hm⟩ := bndE hm
 refine OW.cons (OP.call rfl (x_call (vs := [v1]) Try_C48 ⟨rfl, trivial⟩) (M.spec_DrawDiscardCount_ok _ a0 (hL.rdS 5 rfl h2) hx77) ?_)
 rintro e80 wd81 ⟨v79, S78, rfl, hF82⟩
 refine ⟨_, rfl, ?_⟩
 have hL := hL.pushAll hF82
 simp only [lA, lB, lC, lD] at hL
 refine OV (.tuple #[v79, (.int .i64 x76.2)]) rfl (x_move) ?_
 refine OV v79 rfl (x_extract rfl rfl) ?_
 refine OV (.int .i64 x76.2) rfl (x_extract rfl rfl) ?_
 refine OV v79 rfl (x_assign) ?_
 refine OV (.int .i64 x76.2) rfl (x_assign) ?_
 refine ONR ?_
 refine OV v79 rfl (x_move) ?_
 refine OV (.int .i64 x76.2) rfl (x_move) ?_
 obtain ⟨x83, hx84, hm⟩ := bndE hm
 refine OW.cons (OP.call rfl (x_call (vs := [v79, (.int .i64 x76.2)]) Try_C44 ⟨rfl, rfl, trivial⟩) (M.impl_DiscardCount_ok _ x76.1 (hL.rdO 0 rfl) x76.2 hx84) ?_)
 rintro e85 wd86 ⟨rfl, hF87⟩
 refine ⟨_, rfl, ?_⟩
 have hL := hL.pushAll hF87
 simp only [lA, lB, lC, lD] at hL
 refine OV (.int .i64 x83) rfl (x_assign) ?_
 refine ONS ?_
 refine CW.seqJ (fun (s_j2 : Bool) (F : Fr) (w : World) => F 3 = (.pointer (some ⟨b27, 0, none⟩)) ∧ F 4 = v43 ∧ F 5 = v32 ∧ F 6 = (.int .i64 x29.2) ∧ F 78 = (.bool s_j2) ∧ Hp w0 [Ent.frzS wz47 S38, Ent.frzS wz49 S40, Ent.frzS wz51 S42, Ent.own 2 S31 v32 x29.1, Ent.blk b27 29 #[(.int .i64 x36.1.Boats), v39, v41], Ent.snap w0 w0.heap.size] w) (fun s_j2 => M.laws_FnCounted_j2 x29 x36 s_j2 = some r) ?_ ?_
 · refine CW.regionL ?_
   refine OV (.int .i64 x83) rfl (x_move) ?_
   refine OV v79 rfl (x_move) ?_
   refine OV (.int .i64 x76.2) rfl (x_move) ?_
   obtain ⟨x366, hx367, hm⟩ := bndE hm
   refine OW.cons (OP.call rfl (x_call (vs := [v79, (.int .i64 x76.2)]) Try_C49 ⟨rfl, rfl, trivial⟩) (M.spec_DiscardCount_ok _ x76.1 (hL.rdO 0 rfl) x76.2 hx367) ?_)
   rintro e368 wd369 ⟨rfl, hF370⟩
   refine ⟨_, rfl, ?_⟩
   have hL := hL.pushAll hF370
   simp only [lA, lB, lC, lD] at hL
   refine OV (.bool (x83 != x366)) rfl (x_neq rfl rfl) ?_
   refine OV (.bool (x83 != x366)) rfl (x_move) ?_
   refine ifB_elim hm (fun hb371 hm => ?_) (fun hb371 hm => ?_)
   · refine OW.cons (OP.no' rfl rfl hb371 rfl ?_)
     refine OW.cons (OP.no' rfl rfl hb371 rfl ?_)
     refine OW.cons (OP.no' rfl rfl hb371 rfl ?_)
     refine OW.cons (OP.noU rfl rfl rfl ?_)
     refine OW.cons (OP.noU rfl rfl rfl ?_)
     refine OW.cons (OP.no' rfl rfl hb371 rfl ?_)
     refine OW.cons (OP.no' rfl rfl hb371 rfl ?_)
     refine OW.cons (OP.noU rfl rfl rfl ?_)
     refine OW.cons (OP.noU rfl rfl rfl ?_)
     refine OW.cons (OP.noU rfl rfl rfl ?_)
     refine OW.cons (OP.noU rfl rfl rfl ?_)
     refine OW.cons (OP.noU rfl rfl rfl ?_)
     refine OW.cons (OP.noU rfl rfl rfl ?_)
     refine OW.cons (OP.no' rfl rfl hb371 rfl ?_)
     refine OV (.bool true) rfl (x_pickT' rfl hb371 rfl) ?_
     refine OW.nil ?_
     have hL := hL.sel [1, 2, 3, 4, 5, 6] (by decide) rfl
     exact ⟨true, hm, ⟨f70, f71, f72, f73, rfl, hL⟩⟩
   refine OW.cons (OP.yes' rfl rfl hb371 (OP.val (v := (.int .i64 x83)) rfl (x_move) ?_))
   refine OW.cons (OP.yes' rfl rfl hb371 (OP.val (v := (.bool (decide (0 ≤ x83)))) rfl (x_geq rfl rfl) ?_))
   refine OW.cons (OP.yes' rfl rfl hb371 (OP.val (v := (.bool (decide (0 ≤ x83)))) rfl (x_move) ?_))
   refine ifB_elim hm (fun hb372 hm => ?_) (fun hb372 hm => ?_)
   · refine OW.cons (OP.yes' rfl rfl hb372 (OP.val (v := (.int .i64 x76.2)) rfl (x_move) ?_))
     refine OW.cons (OP.yes' rfl rfl hb372 (OP.val (v := (.bool (decide (x76.2 < 12)))) rfl (x_lss rfl rfl) ?_))
     refine OW.cons (OP.yes' rfl rfl hb371 (OP.val (v := (.bool (decide (x76.2 < 12)))) rfl (x_pickT' rfl hb372 rfl) ?_))
     refine OW.cons (OP.yes' rfl rfl hb371 (OP.val (v := (.bool (decide (x76.2 < 12)))) rfl (x_move) ?_))
     refine ifB_elim hm (fun hb373 hm => ?_) (fun hb373 hm => ?_)
     · refine OW.cons (OP.yes' rfl rfl hb373 (OP.val (v := v79) rfl (x_move) ?_))
       refine OW.cons (OP.yes' rfl rfl hb373 (OP.val (v := (.int .i64 x76.2)) rfl (x_move) ?_))
       refine OW.cons (OP.yes' rfl rfl hb373 (OP.val (v := (.int .i64 (w64 (x76.2 + 1)))) rfl (x_add rfl rfl) ?_))
       obtain ⟨x374, hx375, hm⟩ := bndE hm
       refine OW.cons (OP.yes' rfl rfl hb373 (OP.call rfl (x_call (vs := [v79, (.int .i64 (w64 (x76.2 + 1)))]) Try_C44 ⟨rfl, rfl, trivial⟩) (M.impl_DiscardCount_ok _ x76.1 (hL.rdO 0 rfl) (w64 (x76.2 + 1)) hx375) ?_))
       rintro e376 wd377 ⟨rfl, hF378⟩
       refine ⟨_, rfl, ?_⟩
       have hL := hL.pushAll hF378
       simp only [lA, lB, lC, lD] at hL
       refine OW.cons (OP.yes' rfl rfl hb373 (OP.val (v := (.int .i64 x83)) rfl (x_move) ?_))
       refine OW.cons (OP.yes' rfl rfl hb373 (OP.val (v := (.bool (decide (x374 < x83)))) rfl (x_lss rfl rfl) ?_))
       refine OW.cons (OP.yes' rfl rfl hb371 (OP.val (v := (.bool (decide (x374 < x83)))) rfl (x_pickT' rfl hb373 rfl) ?_))
       refine OV (.bool (decide (x374 < x83))) rfl (x_pickF' rfl hb371 rfl) ?_
       refine OW.nil ?_
       have hL := hL.sel [1, 2, 3, 4, 5, 6] (by decide) rfl
       exact ⟨decide (x374 < x83), hm, ⟨f70, f71, f72, f73, rfl, hL⟩⟩
     refine OW.cons (OP.no' rfl rfl hb373 rfl ?_)
     refine OW.cons (OP.no' rfl rfl hb373 rfl ?_)
     refine OW.cons (OP.no' rfl rfl hb373 rfl ?_)
     refine OW.cons (OP.no' rfl rfl hb373 rfl ?_)
     refine OW.cons (OP.no' rfl rfl hb373 rfl ?_)
     refine OW.cons (OP.no' rfl rfl hb373 rfl ?_)
     refine OW.cons (OP.yes' rfl rfl hb371 (OP.val (v := (.bool false)) rfl (x_pickF' rfl hb373 rfl) ?_))
     refine OV (.bool false) rfl (x_pickF' rfl hb371 rfl) ?_
     refine OW.nil ?_
     have hL := hL.sel [1, 2, 3, 4, 5, 6] (by decide) rfl
     exact ⟨false, hm, ⟨f70, f71, f72, f73, rfl, hL⟩⟩
   refine OW.cons (OP.no' rfl rfl hb372 rfl ?_)
   refine OW.cons (OP.no' rfl rfl hb372 rfl ?_)
   refine OW.cons (OP.yes' rfl rfl hb371 (OP.val (v := (.bool false)) rfl (x_pickF' rfl hb372 rfl) ?_))
   refine OW.cons (OP.yes' rfl rfl hb371 (OP.val (v := (.bool false)) rfl (x_move) ?_))
   refine OW.cons (OP.no' rfl rfl rfl rfl ?_)
   refine OW.cons (OP.no' rfl rfl rfl rfl ?_)
   refine OW.cons (OP.no' rfl rfl rfl rfl ?_)
   refine OW.cons (OP.no' rfl rfl rfl rfl ?_)
   refine OW.cons (OP.no' rfl rfl rfl rfl ?_)
   refine OW.cons (OP.no' rfl rfl rfl rfl ?_)
   refine OW.cons (OP.yes' rfl rfl hb371 (OP.val (v := (.bool false)) rfl (x_pickF' rfl rfl rfl) ?_))
   refine OV (.bool false) rfl (x_pickF' rfl hb371 rfl) ?_
   refine OW.nil ?_
   have hL := hL.sel [1, 2, 3, 4, 5, 6] (by decide) rfl
   exact ⟨false, hm, ⟨f70, f71, f72, f73, rfl, hL⟩⟩
 intro s_j2 F101 wd102 hJ hm
 unfold M.laws_FnCounted_j2 at hm
 obtain ⟨f103, f104, f105, f106, f107, hL⟩ := hJ
 refine CW.condM (t := s_j2) f107 hm (fun hb108 hm => ?_) (fun hb108 hm => ?_)
 · refine CSR ?_
   refine OV (.bool false) rfl (x_assign) ?_
   refine OW.nil ?_
   refine CW.ret ?_
   obtain rfl := Option.some.inj hm
   exact RR1 rfl rfl ⟨rfl, hL.fresh 5 rfl [] (by decide) (by decide) rfl⟩
 refine CW.skip ?_
 refine CW.seq ?_
 refine CSR ?_
 refine OV (.int .i64 x29.2) rfl (x_mv f106) ?_
 refine OV (.bool (x29.2 != 0)) rfl (x_neq rfl rfl) ?_
 refine OW.nil ?_
 refine CW.condM (t := x29.2 != 0) rfl hm (fun hb109 hm => ?_) (fun hb109 hm => ?_)
 · refine CSR ?_
   refine OV (.bool true) rfl (x_assign) ?_
   refine OW.nil ?_
   refine CW.ret ?_
   obtain rfl := Option.some.inj hm
   exact RR1 rfl rfl ⟨rfl, hL.fresh 5 rfl [] (by decide) (by decide) rfl⟩
 refine CW.skip ?_
 refine CW.seq ?_
 refine CSR ?_
 refine OV (.int .i64 0) rfl (x_assign) ?_
 refine OW.nil ?_
 obtain ⟨o272, ho273, hm⟩ := bndE hm
 refine CW.loopB (fun (s_l1 : Int) (F : Fr) (w : World) => F 3 = (.pointer (some ⟨b27, 0, none⟩)) ∧ F 4 = v43 ∧ F 5 = v32 ∧ F 12 = (.int .i64 s_l1) ∧ Hp w0 [Ent.frzS wz47 S38, Ent.frzS wz49 S40, Ent.frzS wz51 S42, Ent.own 2 S31 v32 x29.1, Ent.blk b27 29 #[(.int .i64 x36.1.Boats), v39, v41], Ent.snap w0 w0.heap.size] w) (fun o => outc o (fun x => some x) (fun s => M.laws_FnCounted_a1 s) = some r) ho273 hm ⟨f103, f104, f105, rfl, hL⟩ ?_ ?_
 · intro s_l1 F274 wd275 hJ hm
   have hm := outcE hm
   have hm : M.laws_FnCounted_a1 s_l1 = some r := hm
   unfold M.laws_FnCounted_a1 at hm
   obtain ⟨f276, f277, f278, f279, hL⟩ := hJ
   refine CSR ?_
   refine OV (.bool true) rfl (x_assign) ?_
   refine OW.nil ?_
   refine CW.ret ?_
   obtain rfl := Option.some.inj hm
   exact RR1 rfl rfl ⟨rfl, hL.fresh 5 rfl [] (by decide) (by decide) rfl⟩
 intro s_l1 F280 wd281 t270 hJ hm hr271
 unfold M.laws_FnCounted_l1 at hm
 obtain ⟨f282, f283, f284, f285, hL⟩ := hJ
 refine CW.seq ?_
 refine CSR ?_
 refine OV (.int .i64 s_l1) rfl (x_mv f285) ?_
 refine OV (.pointer (some ⟨b27, 0, none⟩)) rfl (x_fieldAddr (fsz := 1) 0 0 0 U29 rfl Try_T2 rfl f282 rfl) ?_
 refine OV (.int .i64 x36.1.Boats) rfl (x_load1 U2 rfl rfl (hL.cellB 4 rfl rfl)) ?_
 refine OV (.bool (decide (s_l1 < x36.1.Boats))) rfl (x_lss rfl rfl) ?_
 refine OW.nil ?_
 refine CW.condM (t := decide (s_l1 < x36.1.Boats)) rfl hm (fun hb286 hm => ?_) (fun hb286 hm => ?_)
 · refine CW.skip ?_
   refine CW.seq ?_
   refine CW.block ?_
   refine CSR ?_
   refine OV (.agg #[(.int .i64 x36.1.Boats), v39, v41]) rfl (x_loadN (cs := [(.int .i64 x36.1.Boats), v39, v41]) U29 Try_T29 rfl f282 (hL.cellsB 4 rfl (o := 0) (l := [(.int .i64 x36.1.Boats), v39, v41]) (by intro j u hj; exact (by simpa using hj)))) ?_
   refine OV v43 rfl (x_mv f283) ?_
   refine OV (.int .i64 s_l1) rfl (x_mv f285) ?_
   obtain ⟨x287, hx288, hm⟩ := bndE hm
   refine OW.cons (OP.call rfl (x_call (vs := [(.agg #[(.int .i64 x36.1.Boats), v39, v41]), v43, (.int .i64 s_l1)]) Try_C50 ⟨rfl, rfl, rfl, trivial⟩) (M.impl_CountedPoints_ok _ x36.1 (hL.rdF 0 rfl ho48.1.rdL) (hL.rdF 1 rfl ho50.1.rdL) x36.2 (hL.rdF 2 rfl ho52.1.rdL) s_l1 hx288) ?_)
   rintro e291 wd292 ⟨v290, S289, rfl, hF293⟩
   refine ⟨_, rfl, ?_⟩
   have hL := hL.pushAll hF293
   simp only [lA, lB, lC, lD] at hL
   refine OV (.tuple #[v290, (.int .i64 x287.2)]) rfl (x_move) ?_
   refine OV v290 rfl (x_extract rfl rfl) ?_
   refine OV (.int .i64 x287.2) rfl (x_extract rfl rfl) ?_
   refine OV v290 rfl (x_assign) ?_
   refine OV (.int .i64 x287.2) rfl (x_assign) ?_
   refine ONR ?_
   refine OV (.int .i64 0) rfl (x_assign) ?_
   refine ONS ?_
   refine CSR ?_
   refine OV (.int .i64 0) rfl (x_assign) ?_
   refine OW.nil ?_
   obtain ⟨o312, ho313, hm⟩ := bndE hm
   refine CW.loopB (fun (s_l2 : Int × Int) (F : Fr) (w : World) => F 3 = (.pointer (some ⟨b27, 0, none⟩)) ∧ F 4 = v43 ∧ F 5 = v32 ∧ F 12 = (.int .i64 s_l1) ∧ F 13 = v290 ∧ F 14 = (.int .i64 x287.2) ∧ F 15 = (.int .i64 s_l2.1) ∧ F 16 = (.int .i64 s_l2.2) ∧ Hp w0 [Ent.own 2 S289 v290 x287.1, Ent.frzS wz47 S38, Ent.frzS wz49 S40, Ent.frzS wz51 S42, Ent.own 2 S31 v32 x29.1, Ent.blk b27 29 #[(.int .i64 x36.1.Boats), v39, v41], Ent.snap w0 w0.heap.size] w) (fun o => outc o (fun x => some (.ret x)) (fun s => M.laws_FnCounted_a2 x29 s_l1 x287 s) = some t270) ho313 hm ⟨f282, f283, f284, f285, rfl, rfl, rfl, rfl, hL⟩ ?_ ?_
   · intro s_l2 F314 wd315 hJ hm
     have hm := outcE hm
     have hm : M.laws_FnCounted_a2 x29 s_l1 x287 s_l2 = some t270 := hm
     unfold M.laws_FnCounted_a2 at hm
     obtain ⟨f316, f317, f318, f319, f320, f321, f322, f323, hL⟩ := hJ
     refine CW.seqJ (fun (s_j3 : Bool) (F : Fr) (w : World) => F 3 = (.pointer (some ⟨b27, 0, none⟩)) ∧ F 4 = v43 ∧ F 5 = v32 ∧ F 12 = (.int .i64 s_l1) ∧ F 115 = (.bool s_j3) ∧ Hp w0 [Ent.frzS wz47 S38, Ent.frzS wz49 S40, Ent.frzS wz51 S42, Ent.own 2 S31 v32 x29.1, Ent.blk b27 29 #[(.int .i64 x36.1.Boats), v39, v41], Ent.snap w0 w0.heap.size] w) (fun s_j3 => M.laws_FnCounted_j3 s_l1 s_j3 = some t270) ?_ ?_
     · refine CW.regionL ?_
       refine OV (.int .i64 x287.2) rfl (x_mv f321) ?_
       refine OV (.bool (x287.2 != 0)) rfl (x_neq rfl rfl) ?_
       refine OV (.bool (x287.2 != 0)) rfl (x_move) ?_
       refine ifB_elim hm (fun hb340 hm => ?_) (fun hb340 hm => ?_)
       · refine OW.cons (OP.no' rfl rfl hb340 rfl ?_)
         refine OW.cons (OP.no' rfl rfl hb340 rfl ?_)
         refine OW.cons (OP.no' rfl rfl hb340 rfl ?_)
         refine OW.cons (OP.no' rfl rfl hb340 rfl ?_)
         refine OW.cons (OP.no' rfl rfl hb340 rfl ?_)
         refine OW.cons (OP.no' rfl rfl hb340 rfl ?_)
         refine OV (.bool true) rfl (x_pickT' rfl hb340 rfl) ?_
         refine OW.nil ?_
         have hL := hL.sel [1, 2, 3, 4, 5, 6] (by decide) rfl
         exact ⟨true, hm, ⟨f316, f317, f318, f319, rfl, hL⟩⟩
       refine OW.cons (OP.yes' rfl rfl hb340 (OP.val (v := (.int .i64 s_l2.1)) rfl (x_mv f322) ?_))
       refine OW.cons (OP.yes' rfl rfl hb340 (OP.val (v := v32) rfl (x_mv f318) ?_))
       refine OW.cons (OP.yes' rfl rfl hb340 (OP.val (v := (.int .i64 s_l1)) rfl (x_mv f319) ?_))
       obtain ⟨x341, ha342, hm⟩ := bndE hm
       obtain ⟨hz343, ha347⟩ := idxE ha342
       obtain ⟨b344, q345, hix346⟩ := rdL_ix (hL.rdO 4 rfl) hz343 ha347
       refine OW.cons (OP.yes' rfl rfl hb340 (OP.val (v := (.pointer (some ⟨b344, q345, none⟩))) rfl (x_ix U25 Try_T2 rfl rfl hix346) ?_))
       refine OW.cons (OP.yes' rfl rfl hb340 (OP.val (v := (.int .i64 x341)) rfl (x_load1 U2 rfl rfl (rdF_cells (hL.rdO 4 rfl) hix346 ha347 0 _ rfl)) ?_))
       refine OW.cons (OP.yes' rfl rfl hb340 (OP.val (v := (.bool (s_l2.1 != x341))) rfl (x_neq rfl rfl) ?_))
       refine OV (.bool (s_l2.1 != x341)) rfl (x_pickF' rfl hb340 rfl) ?_
       refine OW.nil ?_
       have hL := hL.sel [1, 2, 3, 4, 5, 6] (by decide) rfl
       exact ⟨s_l2.1 != x341, hm, ⟨f316, f317, f318, f319, rfl, hL⟩⟩
     intro s_j3 F332 wd333 hJ hm
     unfold M.laws_FnCounted_j3 at hm
     obtain ⟨f334, f335, f336, f337, f338, hL⟩ := hJ
     refine CW.condM (t := s_j3) f338 hm (fun hb339 hm => ?_) (fun hb339 hm => ?_)
     · refine CSR ?_
       refine OV (.bool false) rfl (x_assign) ?_
       refine OW.nil ?_
       refine CW.ret ?_
       obtain rfl := Option.some.inj hm
       have hm := hr271 _ rfl
       obtain rfl := Option.some.inj hm
       exact RR1 rfl rfl ⟨rfl, hL.fresh 5 rfl [] (by decide) (by decide) rfl⟩
     refine CW.skip ?_
     refine CW.regionL ?_
     refine OV (.int .i64 s_l1) rfl (x_mv f337) ?_
     refine OV (.int .i64 (w64 (s_l1 + 1))) rfl (x_add rfl rfl) ?_
     refine OV (.int .i64 (w64 (s_l1 + 1))) rfl (x_assign) ?_
     refine OW.nil ?_
     obtain rfl := Option.some.inj hm
     exact ⟨_, rfl, ⟨f334, f335, f336, rfl, hL⟩⟩
   intro s_l2 F348 wd349 t310 hJ hm hr311
   unfold M.laws_FnCounted_l2 at hm
   obtain ⟨f350, f351, f352, f353, f354, f355, f356, f357, hL⟩ := hJ
   refine CW.seq ?_
   refine CSR ?_
   refine OV (.int .i64 s_l2.2) rfl (x_mv f357) ?_
   refine OV v290 rfl (x_mv f354) ?_
   refine OV (.int .i64 (x287.1.length : Int)) rfl (x_lenR U25 rfl (hL.rdO 0 rfl)) ?_
   refine OV (.bool (decide (s_l2.2 < (x287.1.length : Int)))) rfl (x_lss rfl rfl) ?_
   refine OW.nil ?_
   refine CW.condM (t := decide (s_l2.2 < (x287.1.length : Int))) rfl hm (fun hb358 hm => ?_) (fun hb358 hm => ?_)
   · refine CW.skip ?_
     refine CW.seq ?_
     refine CW.block ?_
     refine CW.regionL ?_
     refine OV (.int .i64 s_l2.1) rfl (x_mv f356) ?_
     refine OV v290 rfl (x_mv f354) ?_
     refine OV (.int .i64 s_l2.2) rfl (x_mv f357) ?_
     obtain ⟨x359, ha360, hm⟩ := bndE hm
     obtain ⟨hz361, ha365⟩ := idxE ha360
     obtain ⟨b362, q363, hix364⟩ := rdL_ix (hL.rdO 0 rfl) hz361 ha365
     refine OV (.pointer (some ⟨b362, q363, none⟩)) rfl (x_ix U25 Try_T2 rfl rfl hix364) ?_
     refine OV (.int .i64 x359) rfl (x_load1 U2 rfl rfl (rdF_cells (hL.rdO 0 rfl) hix364 ha365 0 _ rfl)) ?_
     refine OV (.int .i64 (w64 (s_l2.1 + x359))) rfl (x_add rfl rfl) ?_
     refine OV (.int .i64 (w64 (s_l2.1 + x359))) rfl (x_assign) ?_
     refine OW.nil ?_
     refine CW.regionL ?_
     refine OV (.int .i64 s_l2.2) rfl (x_mv f357) ?_
     refine OV (.int .i64 (w64 (s_l2.2 + 1))) rfl (x_add rfl rfl) ?_
     refine OV (.int .i64 (w64 (s_l2.2 + 1))) rfl (x_assign) ?_
     refine OW.nil ?_
     obtain rfl := Option.some.inj hm
     exact ⟨_, rfl, ⟨f350, f351, f352, f353, f354, f355, rfl, rfl, hL⟩⟩
   refine CW.exit ?_
   refine XJ.hit ?_
   obtain rfl := Option.some.inj hm
   exact ⟨_, rfl, ⟨f350, f351, f352, f353, f354, f355, f356, f357, hL⟩⟩
 refine CW.exit ?_
 refine XJ.hit ?_
 obtain rfl := Option.some.inj hm
 exact ⟨_, rfl, ⟨f282, f283, f284, f285, hL⟩⟩

end Go.Proofs.Ytpobaajdhfoomaa
