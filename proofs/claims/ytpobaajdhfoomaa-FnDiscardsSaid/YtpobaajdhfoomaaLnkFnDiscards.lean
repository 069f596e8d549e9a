/- Links: each Go function returns what its model computes and leaves what was there. Printed by my generator. -/
import Derived.Test.YtpobaajdhfoomaaLnkFnDiscardsB
namespace Go.Proofs.Ytpobaajdhfoomaa
set_option maxRecDepth 10000
open Go Go.RowKit Go.ChangeShapes Go.WideShapes
set_option linter.unusedVariables false
set_option linter.unusedSimpArgs false

theorem M.spec_l27DrawRule_ok (w0 : World) {b1 : Nat} {v2 : Value} (a0 : Src) (h3 : rdL (fun k => k < w0.heap.size ∧ ¬ (Ent.blk b1 90 #[v2, .int .i64 a0.at_, .int .i64 a0.seed]).S k) w0 v2 a0.code) (he4 : (Ent.blk b1 90 #[v2, .int .i64 a0.at_, .int .i64 a0.seed]).H w0) {r : ((List Int)) × (Int × Int)} (hm : M.spec_l27DrawRule a0 = some r) :
    Calls Try.prog 85 #[(.pointer (some ⟨b1, 0, none⟩))] w0 fun e w' => ∃ (rv0 : Value) (rS0 : Nat → Prop), e = .returned rv0 ∧ Mut w0 w' (Ent.blk b1 90 #[v2, .int .i64 a0.at_, .int .i64 a0.seed]).S [Ent.blk b1 90 #[v2, .int .i64 r.2.1, .int .i64 r.2.2], Ent.own 2 rS0 rv0 r.1] := by
 unfold M.spec_l27DrawRule at hm
 refine calls_CW (args := [(.pointer (some ⟨b1, 0, none⟩))]) Try.func85 rfl rfl rfl ?_
 have hL := Hp.startIO he4
 refine CSR ?_
 refine OV (.slice none 0 0) rfl (x_assign) ?_
 refine ONR ?_
 refine OW.cons (S_lit ([] : List Int) hL U25 Try_T2 rfl (by decide) (by first | (simp [Instr.fill, madeCells, Value.cells, ev, upd, Flat.enc, Flat.sz]; done) | rfl | kernel_rfl) rfl rfl ?_)
 intro wd5 v6 S7 hL
 refine OV v6 rfl (x_assign) ?_
 refine ONR ?_
 refine OV (.int .i64 0) rfl (x_assign) ?_
 refine ONS ?_
 refine CSR ?_
 refine OV (.pointer (some ⟨b1, 0, none⟩)) rfl (x_move) ?_
 obtain ⟨x8, hx9, hm⟩ := bndE hm
 refine OW.cons (OP.call rfl (x_call (vs := [(.pointer (some ⟨b1, 0, none⟩)), (.int .i64 4)]) Try_C86 ⟨rfl, rfl, trivial⟩) (M.spec_l01Next_ok _ (Src.mk a0.code a0.at_ a0.seed) (hL.exZ 2 1 (by decide) rfl rfl h3) (hL.get 1 rfl) 4 hx9) ?_)
 rintro e10 wd11 ⟨rfl, hF12⟩
 refine ⟨_, rfl, ?_⟩
 have hL := hL.mut 1 rfl hF12
 simp only [lA, lB, lC, lD] at hL
 refine OV (.int .i64 x8.1) rfl (x_assign) ?_
 refine OW.nil ?_
 obtain ⟨o45, ho46, hm⟩ := bndE hm
 refine CW.loopB (fun (s_l1 : Int × Int × (List Int) × Int × Int) (F : Fr) (w : World) => ∃ (v41 : Value) (S42 : Nat → Prop), F 0 = (.pointer (some ⟨b1, 0, none⟩)) ∧ F 3 = v41 ∧ F 4 = (.int .i64 s_l1.2.2.2.1) ∧ F 5 = (.int .i64 s_l1.2.2.2.2) ∧ Hp w0 [Ent.own 2 S42 v41 s_l1.2.2.1, Ent.blk b1 90 #[v2, (.int .i64 s_l1.1), (.int .i64 s_l1.2.1)], Ent.frz w0 (Ent.blk b1 90 #[v2, .int .i64 a0.at_, .int .i64 a0.seed]).S] w) (fun o => outc o (fun x => some x) (fun s => M.spec_l27DrawRule_a1 a0 s) = some r) ho46 hm ⟨v6, S7, rfl, rfl, rfl, rfl, hL⟩ ?_ ?_
 · intro s_l1 F47 wd48 hJ hm
   have hm := outcE hm
   have hm : M.spec_l27DrawRule_a1 a0 s_l1 = some r := hm
   unfold M.spec_l27DrawRule_a1 at hm
   obtain ⟨v41, S42, f49, f50, f51, f52, hL⟩ := hJ
   refine CW.seq ?_
   refine CSR ?_
   refine OV (.pointer (some ⟨b1, 0, none⟩)) rfl (x_mv f49) ?_
   obtain ⟨x53, hx54, hm⟩ := bndE hm
   refine OW.cons (OP.call rfl (x_call (vs := [(.pointer (some ⟨b1, 0, none⟩)), (.int .i64 30)]) Try_C86 ⟨rfl, rfl, trivial⟩) (M.spec_l01Next_ok _ (Src.mk a0.code s_l1.1 s_l1.2.1) (hL.exZ 2 1 (by decide) rfl rfl h3) (hL.get 1 rfl) 30 hx54) ?_)
   rintro e55 wd56 ⟨rfl, hF57⟩
   refine ⟨_, rfl, ?_⟩
   have hL := hL.mut 1 rfl hF57
   simp only [lA, lB, lC, lD] at hL
   refine OW.nil ?_
   refine CW.block ?_
   refine CSR ?_
   refine OV (.bool (x53.1 == 0)) rfl (x_eql rfl rfl) ?_
   refine OV (.bool (x53.1 == 0)) rfl (x_assign) ?_
   refine OW.nil ?_
   refine CW.condM (t := x53.1 == 0) rfl hm (fun hb58 hm => ?_) (fun hb58 hm => ?_)
   · refine CSR ?_
     refine OV v41 rfl (x_mv f50) ?_
     refine OV (.int .i64 s_l1.2.2.2.1) rfl (x_mv f51) ?_
     refine OW.cons (S_lit ([s_l1.2.2.2.1] : List Int) hL U25 Try_T2 rfl (by decide) (by first | (simp [Instr.fill, madeCells, Value.cells, ev, upd, Flat.enc, Flat.sz]; done) | rfl | kernel_rfl) rfl rfl ?_)
     intro wd59 v60 S61 hL
     obtain ⟨hc65, hm⟩ := chkE hm
     refine OW.cons (S_append (ys := ([s_l1.2.2.2.1] : List Int)) hL 1 rfl U25 Try_T2 rfl rfl rfl (hL.rdO 0 rfl) hc65 (by decide) rfl ?_)
     intro wd62 v63 S64 hL
     refine OV v63 rfl (x_assign) ?_
     refine OW.nil ?_
     refine CW.ret ?_
     obtain rfl := Option.some.inj hm
     exact RR1 rfl rfl ⟨v63, S64, rfl, hL.mutOut 3 rfl [2, 1] (by decide) (by decide) rfl⟩
   refine CSR ?_
   refine OV (.bool (x53.1 == 1)) rfl (x_eql rfl rfl) ?_
   refine OV (.bool (x53.1 == 1)) rfl (x_assign) ?_
   refine OW.nil ?_
   refine CW.condM (t := x53.1 == 1) rfl hm (fun hb66 hm => ?_) (fun hb66 hm => ?_)
   · refine CSR ?_
     refine OV (.pointer (some ⟨b1, 0, none⟩)) rfl (x_mv f49) ?_
     obtain ⟨x67, hx68, hm⟩ := bndE hm
     refine OW.cons (OP.call rfl (x_call (vs := [(.pointer (some ⟨b1, 0, none⟩)), (.int .i64 2)]) Try_C86 ⟨rfl, rfl, trivial⟩) (M.spec_l01Next_ok _ (Src.mk a0.code x53.2.1 x53.2.2) (hL.exZ 2 1 (by decide) rfl rfl h3) (hL.get 1 rfl) 2 hx68) ?_)
     rintro e69 wd70 ⟨rfl, hF71⟩
     refine ⟨_, rfl, ?_⟩
     have hL := hL.mut 1 rfl hF71
     simp only [lA, lB, lC, lD] at hL
     refine OV (.int .i64 (w64 (13 * x67.1))) rfl (x_mul rfl rfl) ?_
     refine OW.cons (S_lit ([w64 (13 * x67.1)] : List Int) hL U25 Try_T2 rfl (by decide) (by first | (simp [Instr.fill, madeCells, Value.cells, ev, upd, Flat.enc, Flat.sz]; done) | rfl | kernel_rfl) rfl rfl ?_)
     intro wd72 v73 S74 hL
     refine OV v73 rfl (x_assign) ?_
     refine OW.nil ?_
     refine CW.ret ?_
     obtain rfl := Option.some.inj hm
     exact RR1 rfl rfl ⟨v73, S74, rfl, hL.mutOut 3 rfl [2, 0] (by decide) (by decide) rfl⟩
   refine CSR ?_
   refine OV (.bool (x53.1 == 2)) rfl (x_eql rfl rfl) ?_
   refine OV (.bool (x53.1 == 2)) rfl (x_assign) ?_
   refine OW.nil ?_
   refine CW.condM (t := x53.1 == 2) rfl hm (fun hb75 hm => ?_) (fun hb75 hm => ?_)
   · refine CSR ?_
     refine OW.cons (S_lit ([1, 2, 3, 4] : List Int) hL U25 Try_T2 rfl (by decide) (by first | (simp [Instr.fill, madeCells, Value.cells, ev, upd, Flat.enc, Flat.sz]; done) | rfl | kernel_rfl) rfl rfl ?_)
     intro wd76 v77 S78 hL
     refine OV v77 rfl (x_assign) ?_
     refine OW.nil ?_
     refine CW.ret ?_
     obtain rfl := Option.some.inj hm
     exact RR1 rfl rfl ⟨v77, S78, rfl, hL.mutOut 3 rfl [2, 0] (by decide) (by decide) rfl⟩
   refine CW.skip ?_
   refine CSR ?_
   refine OV v41 rfl (x_mv f50) ?_
   refine OV v41 rfl (x_assign) ?_
   refine OW.nil ?_
   refine CW.ret ?_
   obtain rfl := Option.some.inj hm
   exact RR1 rfl rfl ⟨v41, S42, rfl, hL.mutOut 2 rfl [1, 0] (by decide) (by decide) rfl⟩
 intro s_l1 F79 wd80 t43 hJ hm hr44
 unfold M.spec_l27DrawRule_l1 at hm
 obtain ⟨v41, S42, f81, f82, f83, f84, hL⟩ := hJ
 refine CW.seq ?_
 refine CSR ?_
 refine OV (.int .i64 s_l1.2.2.2.2) rfl (x_mv f84) ?_
 refine OV (.bool (decide (0 < s_l1.2.2.2.2))) rfl (x_gtr rfl rfl) ?_
 refine OW.nil ?_
 refine CW.condM (t := decide (0 < s_l1.2.2.2.2)) rfl hm (fun hb85 hm => ?_) (fun hb85 hm => ?_)
 · refine CW.skip ?_
   refine CW.seq ?_
   refine CW.block ?_
   refine CSR ?_
   refine OV (.int .i64 s_l1.2.2.2.1) rfl (x_mv f83) ?_
   refine OV (.int .i64 (w64 (s_l1.2.2.2.1 + 1))) rfl (x_add rfl rfl) ?_
   refine OV (.pointer (some ⟨b1, 0, none⟩)) rfl (x_mv f81) ?_
   obtain ⟨x86, hx87, hm⟩ := bndE hm
   refine OW.cons (OP.call rfl (x_call (vs := [(.pointer (some ⟨b1, 0, none⟩)), (.int .i64 4)]) Try_C86 ⟨rfl, rfl, trivial⟩) (M.spec_l01Next_ok _ (Src.mk a0.code s_l1.1 s_l1.2.1) (hL.exZ 2 1 (by decide) rfl rfl h3) (hL.get 1 rfl) 4 hx87) ?_)
   rintro e88 wd89 ⟨rfl, hF90⟩
   refine ⟨_, rfl, ?_⟩
   have hL := hL.mut 1 rfl hF90
   simp only [lA, lB, lC, lD] at hL
   refine OV (.int .i64 (w64 ((w64 (s_l1.2.2.2.1 + 1)) + x86.1))) rfl (x_add rfl rfl) ?_
   refine OV (.int .i64 (w64 ((w64 (s_l1.2.2.2.1 + 1)) + x86.1))) rfl (x_assign) ?_
   refine OW.nil ?_
   refine CW.regionL ?_
   refine OV v41 rfl (x_mv f82) ?_
   refine OV (.int .i64 (w64 ((w64 (s_l1.2.2.2.1 + 1)) + x86.1))) rfl (x_move) ?_
   refine OW.cons (S_lit ([w64 ((w64 (s_l1.2.2.2.1 + 1)) + x86.1)] : List Int) hL U25 Try_T2 rfl (by decide) (by first | (simp [Instr.fill, madeCells, Value.cells, ev, upd, Flat.enc, Flat.sz]; done) | rfl | kernel_rfl) rfl rfl ?_)
   intro wd91 v92 S93 hL
   obtain ⟨hc97, hm⟩ := chkE hm
   refine OW.cons (S_append (ys := ([w64 ((w64 (s_l1.2.2.2.1 + 1)) + x86.1)] : List Int)) hL 1 rfl U25 Try_T2 rfl rfl rfl (hL.rdO 0 rfl) hc97 (by decide) rfl ?_)
   intro wd94 v95 S96 hL
   refine OV v95 rfl (x_assign) ?_
   refine OW.nil ?_
   refine CW.regionL ?_
   refine OV (.int .i64 s_l1.2.2.2.2) rfl (x_mv f84) ?_
   refine OV (.int .i64 (w64 (s_l1.2.2.2.2 - 1))) rfl (x_sub rfl rfl) ?_
   refine OV (.int .i64 (w64 (s_l1.2.2.2.2 - 1))) rfl (x_assign) ?_
   refine OW.nil ?_
   have hL := hL.sel [1, 2, 3] (by decide) rfl
   obtain rfl := Option.some.inj hm
   exact ⟨_, rfl, ⟨v95, S96, f81, rfl, rfl, rfl, hL⟩⟩
 refine CW.exit ?_
 refine XJ.hit ?_
 obtain rfl := Option.some.inj hm
 exact ⟨_, rfl, ⟨v41, S42, f81, f82, f83, f84, hL⟩⟩

theorem M.spec_l27DrawBoat_ok (w0 : World) {b1 : Nat} {v2 : Value} (a0 : Src) (h3 : rdL (fun k => k < w0.heap.size ∧ ¬ (Ent.blk b1 90 #[v2, .int .i64 a0.at_, .int .i64 a0.seed]).S k) w0 v2 a0.code) (he4 : (Ent.blk b1 90 #[v2, .int .i64 a0.at_, .int .i64 a0.seed]).H w0) (a1 : Table) {v5 : Value} {v7 : Value} (h6 : rdL (fun k => k < w0.heap.size ∧ ¬ (Ent.blk b1 90 #[v2, .int .i64 a0.at_, .int .i64 a0.seed]).S k) w0 v5 a1.Points) (h8 : rdL (fun k => k < w0.heap.size ∧ ¬ (Ent.blk b1 90 #[v2, .int .i64 a0.at_, .int .i64 a0.seed]).S k) w0 v7 a1.Codes) {r : (Int) × (Int × Int)} (hm : M.spec_l27DrawBoat a0 a1 = some r) :
    Calls Try.prog 105 #[(.pointer (some ⟨b1, 0, none⟩)), (.agg #[(.int .i64 a1.Boats), v5, v7])] w0 fun e w' => e = .returned (.int .i64 r.1) ∧ Mut w0 w' (Ent.blk b1 90 #[v2, .int .i64 a0.at_, .int .i64 a0.seed]).S [Ent.blk b1 90 #[v2, .int .i64 r.2.1, .int .i64 r.2.2]] := by
 unfold M.spec_l27DrawBoat at hm
 refine calls_CW (args := [(.pointer (some ⟨b1, 0, none⟩)), (.agg #[(.int .i64 a1.Boats), v5, v7])]) Try.func105 rfl rfl rfl ?_
 have hL := Hp.startIO he4
 refine CSR ?_
 refine OW.cons (S_box (cs := #[(.int .i64 a1.Boats), v5, v7]) hL rfl rfl rfl ?_)
 intro wd9 b10 hL
 refine OV (.int .i64 0) rfl (x_assign) ?_
 refine ONS ?_
 refine CSR ?_
 refine OV (.pointer (some ⟨b1, 0, none⟩)) rfl (x_move) ?_
 obtain ⟨x11, hx12, hm⟩ := bndE hm
 refine OW.cons (OP.call rfl (x_call (vs := [(.pointer (some ⟨b1, 0, none⟩)), (.int .i64 24)]) Try_C86 ⟨rfl, rfl, trivial⟩) (M.spec_l01Next_ok _ (Src.mk a0.code a0.at_ a0.seed) (hL.exZ 2 1 (by decide) rfl rfl h3) (hL.get 1 rfl) 24 hx12) ?_)
 rintro e13 wd14 ⟨rfl, hF15⟩
 refine ⟨_, rfl, ?_⟩
 have hL := hL.mut 1 rfl hF15
 simp only [lA, lB, lC, lD] at hL
 refine OV (.bool (x11.1 == 0)) rfl (x_eql rfl rfl) ?_
 refine OW.nil ?_
 refine CW.condM (t := x11.1 == 0) rfl hm (fun hb16 hm => ?_) (fun hb16 hm => ?_)
 · refine CW.seq ?_
   refine CW.drawH (fun w' => Hp w0 [Ent.blk b10 29 #[(.int .i64 a1.Boats), v5, v7], Ent.frz w0 (Ent.blk b1 90 #[v2, .int .i64 a0.at_, .int .i64 a0.seed]).S] w') Try_mixed ?_
   have hL := hL.call (Mod.drew _)
   have hS := (hL.sel [0, 2] (by decide) rfl)
   refine DH.take 0 rfl (by kernel_rfl) (by kernel_rfl) (by kernel_rfl) rfl rfl hS (YH.val (v := (.pointer (some ⟨b10, 0, none⟩))) (fun w' hS' => x_fieldAddr (fsz := 1) 0 0 0 U29 rfl Try_T2 rfl rfl rfl)) ?_
   have hS := (hL.sel [0, 2] (by decide) rfl)
   refine DH.take 1 rfl (by kernel_rfl) (by kernel_rfl) (by kernel_rfl) rfl rfl hS (YH.val (v := (.int .i64 a1.Boats)) (fun w' hS' => x_load1 U2 rfl rfl (hS'.cellB 0 rfl rfl))) ?_
   have hS := (hL.sel [0, 2] (by decide) rfl)
   refine DH.take 2 rfl (by kernel_rfl) (by kernel_rfl) (by kernel_rfl) rfl rfl hS (YH.val (v := (.pointer (some ⟨b10, 0, none⟩))) (fun w' hS' => x_fieldAddr (fsz := 1) 0 0 0 U29 rfl Try_T2 rfl rfl rfl)) ?_
   have hS := (hL.sel [0, 2] (by decide) rfl)
   refine DH.take 3 rfl (by kernel_rfl) (by kernel_rfl) (by kernel_rfl) rfl rfl hS (YH.val (v := (.int .i64 a1.Boats)) (fun w' hS' => x_load1 U2 rfl rfl (hS'.cellB 0 rfl rfl))) ?_
   have hS := (hL.sel [0, 2] (by decide) rfl)
   refine DH.take 4 rfl (by kernel_rfl) (by kernel_rfl) (by kernel_rfl) rfl rfl hS (YH.val (v := (.int .i64 (w64 (a1.Boats + 1)))) (fun w' hS' => x_add rfl rfl)) ?_
   have hS := (hL.sel [0, 2] (by decide) rfl)
   refine DH.take 5 rfl (by kernel_rfl) (by kernel_rfl) (by kernel_rfl) rfl rfl hS (YH.val (v := (.pointer (some ⟨b1, 0, none⟩))) (fun w' hS' => x_move)) ?_
   obtain ⟨x22, hx23, hm⟩ := bndE hm
   refine DH.only 6 rfl (by kernel_rfl) (OP.call rfl (x_call (vs := [(.pointer (some ⟨b1, 0, none⟩)), (.int .i64 2)]) Try_C86 ⟨rfl, rfl, trivial⟩) (M.spec_l01Next_ok _ (Src.mk a0.code x11.2.1 x11.2.2) (hL.exZ 2 1 (by decide) rfl rfl h3) (hL.get 1 rfl) 2 hx23) ?_)
   rintro e24 wd25 ⟨rfl, hF26⟩
   refine ⟨_, rfl, ?_⟩
   have hL := hL.mut 1 rfl hF26
   simp only [lA, lB, lC, lD] at hL
   refine ⟨(hL.sel [0, 2] (by decide) rfl), ?_⟩
   have hS := (hL.sel [0, 2] (by decide) rfl)
   refine DH.take 7 rfl (by kernel_rfl) (by kernel_rfl) (by kernel_rfl) rfl rfl hS (YH.val (v := (.int .i64 (w64 ((w64 (a1.Boats + 1)) * x22.1)))) (fun w' hS' => x_mul rfl rfl)) ?_
   have hS := (hL.sel [0, 2] (by decide) rfl)
   refine DH.take 8 rfl (by kernel_rfl) (by kernel_rfl) (by kernel_rfl) rfl rfl hS (YH.val (v := (.int .i64 (w64 (a1.Boats - (w64 ((w64 (a1.Boats + 1)) * x22.1)))))) (fun w' hS' => x_sub rfl rfl)) ?_
   have hS := (hL.sel [0, 2] (by decide) rfl)
   refine DH.take 9 rfl (by kernel_rfl) (by kernel_rfl) (by kernel_rfl) rfl rfl hS (YH.val (v := (.int .i64 (w64 (a1.Boats - (w64 ((w64 (a1.Boats + 1)) * x22.1)))))) (fun w' hS' => x_assign)) ?_
   refine DH.done (by kernel_rfl) ?_
   refine CW.ret ?_
   obtain rfl := Option.some.inj hm
   exact RR1 rfl rfl ⟨rfl, hL.mutOut 2 rfl [1] (by decide) (by decide) rfl⟩
 refine CW.skip ?_
 refine CSR ?_
 refine OV (.pointer (some ⟨b1, 0, none⟩)) rfl (x_move) ?_
 refine OV (.pointer (some ⟨b10, 0, none⟩)) rfl (x_fieldAddr (fsz := 1) 0 0 0 U29 rfl Try_T2 rfl rfl rfl) ?_
 refine OV (.int .i64 a1.Boats) rfl (x_load1 U2 rfl rfl (hL.cellB 0 rfl rfl)) ?_
 refine OV (.int .i64 (max 1 a1.Boats)) rfl (x_max2 rfl rfl) ?_
 obtain ⟨x27, hx28, hm⟩ := bndE hm
 refine OW.cons (OP.call rfl (x_call (vs := [(.pointer (some ⟨b1, 0, none⟩)), (.int .i64 (max 1 a1.Boats))]) Try_C86 ⟨rfl, rfl, trivial⟩) (M.spec_l01Next_ok _ (Src.mk a0.code x11.2.1 x11.2.2) (hL.exZ 2 1 (by decide) rfl rfl h3) (hL.get 1 rfl) (max 1 a1.Boats) hx28) ?_)
 rintro e29 wd30 ⟨rfl, hF31⟩
 refine ⟨_, rfl, ?_⟩
 have hL := hL.mut 1 rfl hF31
 simp only [lA, lB, lC, lD] at hL
 refine OV (.int .i64 x27.1) rfl (x_assign) ?_
 refine OW.nil ?_
 refine CW.ret ?_
 obtain rfl := Option.some.inj hm
 exact RR1 rfl rfl ⟨rfl, hL.mutOut 2 rfl [1] (by decide) (by decide) rfl⟩

theorem M.spec_l27Draw_ok (w0 : World) (a0 : List UInt8) {v1 : Value} (h2 : rdL (· < w0.heap.size) w0 v1 a0) {r : Table × (List Int) × Int} (hm : M.spec_l27Draw a0 = some r) :
    Calls Try.prog 77 #[v1] w0 fun e w' => ∃ (rv0 : Value) (rS0 : Nat → Prop), ∃ (rv1 : Value) (rS1 : Nat → Prop), ∃ (rv2 : Value) (rS2 : Nat → Prop), e = .returned (.tuple #[(.agg #[(.int .i64 r.1.Boats), rv0, rv1]), rv2, (.int .i64 r.2.2)]) ∧ Fresh w0 w' [Ent.rdx rS0 rv0 r.1.Points, Ent.rdx rS1 rv1 r.1.Codes, Ent.rdx rS2 rv2 r.2.1] := by
 unfold M.spec_l27Draw at hm
 refine calls_CW (args := [v1]) Try.func77 rfl rfl rfl ?_
 have hL := Hp.start w0
 refine CSR ?_
 refine OW.cons (S_alloc (cs := #[(.int .i64 0), (.slice none 0 0), (.slice none 0 0)]) hL Try_T29 rfl rfl ?_)
 intro wd3 b4 hL
 refine OV (.slice none 0 0) rfl (x_assign) ?_
 refine OV (.int .i64 0) rfl (x_assign) ?_
 refine ONR ?_
 refine OV v1 rfl (x_move) ?_
 obtain ⟨x5, hx6, hm⟩ := bndE hm
 refine OW.cons (OP.call rfl (x_call (vs := [v1]) Try_C84 ⟨rfl, trivial⟩) (M.spec_l01From_ok _ a0 (hL.rdS 1 rfl h2) hx6) ?_)
 rintro e8 wd9 ⟨b7, rfl, hF10⟩
 refine ⟨_, rfl, ?_⟩
 have hL := hL.pushAll hF10
 simp only [lA, lB, lC, lD] at hL
 refine OV (.pointer (some ⟨b7, 0, none⟩)) rfl (x_assign) ?_
 refine ONR ?_
 refine OV (.pointer (some ⟨b7, 0, none⟩)) rfl (x_move) ?_
 obtain ⟨x11, hx12, hm⟩ := bndE hm
 refine OW.cons (OP.call rfl (x_call (vs := [(.pointer (some ⟨b7, 0, none⟩))]) Try_C104 ⟨rfl, trivial⟩) (M.spec_l26DrawTable_ok _ (Src.mk a0 x5.1 x5.2) (hL.exS 2 0 (by decide) rfl rfl h2) (hL.get 0 rfl) hx12) ?_)
 rintro e17 wd18 ⟨v14, S13, v16, S15, rfl, hF19⟩
 refine ⟨_, rfl, ?_⟩
 have hL := hL.mut 0 rfl hF19
 simp only [lA, lB, lC, lD] at hL
 obtain ⟨wz20, hL, ho21⟩ := hL.rdxFz 0 rfl
 simp only [lC, lD] at hL
 obtain ⟨wz22, hL, ho23⟩ := hL.rdxFz 1 rfl
 simp only [lC, lD] at hL
 refine OW.cons (S_alloc (cs := #[(.int .i64 0), (.slice none 0 0), (.slice none 0 0)]) hL Try_T29 rfl rfl ?_)
 intro wd24 b25 hL
 refine OW.cons (S_storeN (l := [(.int .i64 x11.1.Boats), v14, v16]) (cs' := #[(.int .i64 x11.1.Boats), v14, v16]) hL 0 rfl Try_T29 rfl rfl (List.forall_mem_cons.2 ⟨rfl, (List.forall_mem_cons.2 ⟨rdL_one (hL.rdF 1 rfl ho21.1.rdL), (List.forall_mem_cons.2 ⟨rdL_one (hL.rdF 2 rfl ho23.1.rdL), (fun _ h => by cases h)⟩)⟩)⟩) rfl (Nat.le_of_ble_eq_true rfl) rfl ?_)
 intro wd26 hL
 refine ONR ?_
 refine OV (.pointer (some ⟨b7, 0, none⟩)) rfl (x_move) ?_
 obtain ⟨x27, hx28, hm⟩ := bndE hm
 refine OW.cons (OP.call rfl (x_call (vs := [(.pointer (some ⟨b7, 0, none⟩))]) Try_C85 ⟨rfl, trivial⟩) (M.spec_l27DrawRule_ok _ (Src.mk a0 x11.2.1 x11.2.2) (hL.exS 5 3 (by decide) rfl rfl h2) (hL.get 3 rfl) hx28) ?_)
 rintro e31 wd32 ⟨v30, S29, rfl, hF33⟩
 refine ⟨_, rfl, ?_⟩
 have hL := hL.mut 3 rfl hF33
 simp only [lA, lB, lC, lD] at hL
 refine OV v30 rfl (x_assign) ?_
 refine ONS ?_
 refine CW.drawH (fun w' => Hp w0 [Ent.own 2 S29 v30 x27.1, Ent.blk b25 29 #[(.int .i64 x11.1.Boats), v14, v16], Ent.frzS wz20 S13, Ent.frzS wz22 S15, Ent.snap w0 w0.heap.size] w') Try_mixed ?_
 have hL := hL.call (Mod.drew _)
 have hS := (hL.sel [0, 1, 2, 3, 6] (by decide) rfl)
 refine DH.take 0 rfl (by kernel_rfl) (by kernel_rfl) (by kernel_rfl) rfl rfl hS (YH.val (v := (.agg #[(.int .i64 x11.1.Boats), v14, v16])) (fun w' hS' => x_loadN (cs := [(.int .i64 x11.1.Boats), v14, v16]) U29 Try_T29 rfl rfl (hS'.cellsB 1 rfl (o := 0) (l := [(.int .i64 x11.1.Boats), v14, v16]) (by intro j u hj; exact (by simpa using hj))))) ?_
 have hS := (hL.sel [0, 1, 2, 3, 6] (by decide) rfl)
 refine DH.take 1 rfl (by kernel_rfl) (by kernel_rfl) (by kernel_rfl) rfl rfl hS (YH.val (v := v30) (fun w' hS' => x_move)) ?_
 have hS := (hL.sel [0, 1, 2, 3, 6] (by decide) rfl)
 refine DH.take 2 rfl (by kernel_rfl) (by kernel_rfl) (by kernel_rfl) rfl rfl hS (YH.val (v := (.pointer (some ⟨b7, 0, none⟩))) (fun w' hS' => x_move)) ?_
 have hS := (hL.sel [0, 1, 2, 3, 6] (by decide) rfl)
 refine DH.take 3 rfl (by kernel_rfl) (by kernel_rfl) (by kernel_rfl) rfl rfl hS (YH.val (v := (.agg #[(.int .i64 x11.1.Boats), v14, v16])) (fun w' hS' => x_loadN (cs := [(.int .i64 x11.1.Boats), v14, v16]) U29 Try_T29 rfl rfl (hS'.cellsB 1 rfl (o := 0) (l := [(.int .i64 x11.1.Boats), v14, v16]) (by intro j u hj; exact (by simpa using hj))))) ?_
 obtain ⟨x40, hx41, hm⟩ := bndE hm
 refine DH.only 4 rfl (by kernel_rfl) (OP.call rfl (x_call (vs := [(.pointer (some ⟨b7, 0, none⟩)), (.agg #[(.int .i64 x11.1.Boats), v14, v16])]) Try_C105 ⟨rfl, rfl, trivial⟩) (M.spec_l27DrawBoat_ok _ (Src.mk a0 x27.2.1 x27.2.2) (hL.exS 6 4 (by decide) rfl rfl h2) (hL.get 4 rfl) x11.1 (hL.exF 2 4 (by decide) rfl rfl ho21.1.rdL) (hL.exF 3 4 (by decide) rfl rfl ho23.1.rdL) hx41) ?_)
 rintro e42 wd43 ⟨rfl, hF44⟩
 refine ⟨_, rfl, ?_⟩
 have hL := hL.mut 4 rfl hF44
 simp only [lA, lB, lC, lD] at hL
 refine ⟨(hL.sel [0, 1, 2, 3, 6] (by decide) rfl), ?_⟩
 refine DH.only 5 rfl (by kernel_rfl) (S_storeN (l := [(.int .i64 x11.1.Boats), v14, v16]) (cs' := #[(.int .i64 x11.1.Boats), v14, v16]) hL 5 rfl Try_T29 rfl rfl (List.forall_mem_cons.2 ⟨rfl, (List.forall_mem_cons.2 ⟨rdL_one (hL.rdF 2 rfl ho21.1.rdL), (List.forall_mem_cons.2 ⟨rdL_one (hL.rdF 3 rfl ho23.1.rdL), (fun _ h => by cases h)⟩)⟩)⟩) rfl (Nat.le_of_ble_eq_true rfl) rfl ?_)
 intro wd45 hL
 refine ⟨(hL.sel [0, 1, 2, 3, 6] (by decide) rfl), ?_⟩
 have hS := (hL.sel [0, 1, 2, 3, 6] (by decide) rfl)
 refine DH.take 6 rfl (by kernel_rfl) (by kernel_rfl) (by kernel_rfl) rfl rfl hS (YH.val (v := v30) (fun w' hS' => x_assign)) ?_
 have hS := (hL.sel [0, 1, 2, 3, 6] (by decide) rfl)
 refine DH.take 7 rfl (by kernel_rfl) (by kernel_rfl) (by kernel_rfl) rfl rfl hS (YH.val (v := (.int .i64 x40.1)) (fun w' hS' => x_assign)) ?_
 refine DH.done (by kernel_rfl) ?_
 refine CW.ret ?_
 have hL := hL.rdxOut 2 rfl ho21
 simp only [lC, lD] at hL
 have hL := hL.rdxOut 3 rfl ho23
 simp only [lC, lD] at hL
 have hL := hL.rdxIn 0 rfl
 simp only [lC, lD] at hL
 obtain rfl := Option.some.inj hm
 exact RRs (v := (.agg #[(.int .i64 x11.1.Boats), v14, v16])) (v2 := v30) (vs := [(.int .i64 x40.1)]) (rs := [.cell 2 29, .tmp 3, .tmp 4]) rfl ⟨resCell rfl (run_loadBlk U29 Try_T29 (hL.get 5 rfl) rfl), resTmp rfl, resTmp rfl, trivial⟩ ⟨v14, S13, v16, S15, v30, S29, rfl, hL.fresh 6 rfl [2, 3, 0] (by decide) (by decide) rfl⟩

theorem M.spec_DrawDiscardsOf_ok (w0 : World) (a0 : List UInt8) {v1 : Value} (h2 : rdL (· < w0.heap.size) w0 v1 a0) {r : Table × (List Int) × Int} (hm : M.spec_DrawDiscardsOf a0 = some r) :
    Calls Try.prog 37 #[v1] w0 fun e w' => ∃ (rv0 : Value) (rS0 : Nat → Prop), ∃ (rv1 : Value) (rS1 : Nat → Prop), ∃ (rv2 : Value) (rS2 : Nat → Prop), e = .returned (.tuple #[(.agg #[(.int .i64 r.1.Boats), rv0, rv1]), rv2, (.int .i64 r.2.2)]) ∧ Fresh w0 w' [Ent.rdx rS0 rv0 r.1.Points, Ent.rdx rS1 rv1 r.1.Codes, Ent.rdx rS2 rv2 r.2.1] := by
 unfold M.spec_DrawDiscardsOf at hm
 refine calls_CW (args := [v1]) Try.func37 rfl rfl rfl ?_
 have hL := Hp.start w0
 refine CSR ?_
 refine OW.cons (S_alloc (cs := #[(.int .i64 0), (.slice none 0 0), (.slice none 0 0)]) hL Try_T29 rfl rfl ?_)
 intro wd3 b4 hL
 refine OV (.slice none 0 0) rfl (x_assign) ?_
 refine OV (.int .i64 0) rfl (x_assign) ?_
 refine ONR ?_
 refine OV v1 rfl (x_move) ?_
 obtain ⟨x5, hx6, hm⟩ := bndE hm
 refine OW.cons (OP.call rfl (x_call (vs := [v1]) Try_C77 ⟨rfl, trivial⟩) (M.spec_l27Draw_ok _ a0 (hL.rdS 1 rfl h2) hx6) ?_)
 rintro e13 wd14 ⟨v8, S7, v10, S9, v12, S11, rfl, hF15⟩
 refine ⟨_, rfl, ?_⟩
 have hL := hL.pushAll hF15
 simp only [lA, lB, lC, lD] at hL
 obtain ⟨wz16, hL, ho17⟩ := hL.rdxFz 0 rfl
 simp only [lC, lD] at hL
 obtain ⟨wz18, hL, ho19⟩ := hL.rdxFz 1 rfl
 simp only [lC, lD] at hL
 obtain ⟨wz20, hL, ho21⟩ := hL.rdxFz 2 rfl
 simp only [lC, lD] at hL
 refine OV (.agg #[(.int .i64 x5.1.Boats), v8, v10]) rfl (x_extract rfl rfl) ?_
 refine OV v12 rfl (x_extract rfl rfl) ?_
 refine OV (.int .i64 x5.2.2) rfl (x_extract rfl rfl) ?_
 refine OW.cons (S_storeN (l := [(.int .i64 x5.1.Boats), v8, v10]) (cs' := #[(.int .i64 x5.1.Boats), v8, v10]) hL 3 rfl Try_T29 rfl rfl (List.forall_mem_cons.2 ⟨rfl, (List.forall_mem_cons.2 ⟨rdL_one (hL.rdF 0 rfl ho17.1.rdL), (List.forall_mem_cons.2 ⟨rdL_one (hL.rdF 1 rfl ho19.1.rdL), (fun _ h => by cases h)⟩)⟩)⟩) rfl (Nat.le_of_ble_eq_true rfl) rfl ?_)
 intro wd22 hL
 refine OV v12 rfl (x_assign) ?_
 refine OV (.int .i64 x5.2.2) rfl (x_assign) ?_
 refine OW.nil ?_
 refine CW.ret ?_
 have hL := hL.rdxOut 0 rfl ho17
 simp only [lC, lD] at hL
 have hL := hL.rdxOut 1 rfl ho19
 simp only [lC, lD] at hL
 have hL := hL.rdxOut 2 rfl ho21
 simp only [lC, lD] at hL
 obtain rfl := Option.some.inj hm
 exact RRs (v := (.agg #[(.int .i64 x5.1.Boats), v8, v10])) (v2 := v12) (vs := [(.int .i64 x5.2.2)]) (rs := [.cell 2 29, .tmp 3, .tmp 4]) rfl ⟨resCell rfl (run_loadBlk U29 Try_T29 (hL.get 3 rfl) rfl), resTmp rfl, resTmp rfl, trivial⟩ ⟨v8, S7, v10, S9, v12, S11, rfl, hL.fresh 4 rfl [0, 1, 2] (by decide) (by decide) rfl⟩

theorem M.impl_DiscardsOf_ok (w0 : World) (a0 : Table) {v1 : Value} {v3 : Value} (h2 : rdL (· < w0.heap.size) w0 v1 a0.Points) (h4 : rdL (· < w0.heap.size) w0 v3 a0.Codes) (a1 : List Int) {v5 : Value} (h6 : rdL (· < w0.heap.size) w0 v5 a1) (a2 : Int) {r : (List Int) × Int} (hm : M.impl_DiscardsOf a0 a1 a2 = some r) :
    Calls Try.prog 38 #[(.agg #[(.int .i64 a0.Boats), v1, v3]), v5, (.int .i64 a2)] w0 fun e w' => ∃ (rv0 : Value) (rS0 : Nat → Prop), e = .returned (.tuple #[rv0, (.int .i64 r.2)]) ∧ Fresh w0 w' [Ent.own 2 rS0 rv0 r.1] := by
 unfold M.impl_DiscardsOf at hm
 refine calls_CW (args := [(.agg #[(.int .i64 a0.Boats), v1, v3]), v5, (.int .i64 a2)]) Try.func38 rfl rfl rfl ?_
 have hL := Hp.start w0
 refine CSR ?_
 refine OW.cons (S_box (cs := #[(.int .i64 a0.Boats), v1, v3]) hL rfl rfl rfl ?_)
 intro wd7 b8 hL
 refine OV (.slice none 0 0) rfl (x_assign) ?_
 refine OV (.int .i64 0) rfl (x_assign) ?_
 refine ONS ?_
 refine CSR ?_
 refine OV (.agg #[(.int .i64 a0.Boats), v1, v3]) rfl (x_loadN (cs := [(.int .i64 a0.Boats), v1, v3]) U29 Try_T29 rfl rfl (hL.cellsB 0 rfl (o := 0) (l := [(.int .i64 a0.Boats), v1, v3]) (by intro j u hj; exact (by simpa using hj)))) ?_
 refine OV v5 rfl (x_move) ?_
 refine OV (.int .i64 a2) rfl (x_move) ?_
 obtain ⟨x9, hx10, hm⟩ := bndE hm
 refine OW.cons (OP.call rfl (x_call (vs := [(.agg #[(.int .i64 a0.Boats), v1, v3]), v5, (.int .i64 a2)]) Try_C65 ⟨rfl, rfl, rfl, trivial⟩) (M.impl_tableCode_ok _ a0 (hL.rdS 1 rfl h2) (hL.rdS 1 rfl h4) a1 (hL.rdS 1 rfl h6) a2 hx10) ?_)
 rintro e11 wd12 ⟨rfl, hF13⟩
 refine ⟨_, rfl, ?_⟩
 have hL := hL.pushAll hF13
 simp only [lA, lB, lC, lD] at hL
 refine OV (.int .i64 x9) rfl (x_assign) ?_
 refine ONR ?_
 refine OV (.int .i64 x9) rfl (x_move) ?_
 refine OV (.bool (x9 != 0)) rfl (x_neq rfl rfl) ?_
 refine OW.nil ?_
 refine CW.condM (t := x9 != 0) rfl hm (fun hb14 hm => ?_) (fun hb14 hm => ?_)
 · refine CSR ?_
   refine OV (.int .i64 x9) rfl (x_move) ?_
   refine OV (.slice none 0 0) rfl (x_assign) ?_
   refine OV (.int .i64 x9) rfl (x_assign) ?_
   refine OW.nil ?_
   refine CW.ret ?_
   have hL := hL.pushNil Int 2
   obtain rfl := Option.some.inj hm
   exact RR2 rfl rfl rfl ⟨(.slice none 0 0), None_, rfl, hL.fresh 2 rfl [0] (by decide) (by decide) rfl⟩
 refine CW.skip ?_
 refine CSR ?_
 refine OV (.agg #[(.int .i64 a0.Boats), v1, v3]) rfl (x_loadN (cs := [(.int .i64 a0.Boats), v1, v3]) U29 Try_T29 rfl rfl (hL.cellsB 0 rfl (o := 0) (l := [(.int .i64 a0.Boats), v1, v3]) (by intro j u hj; exact (by simpa using hj)))) ?_
 refine OV v5 rfl (x_move) ?_
 refine OV (.int .i64 a2) rfl (x_move) ?_
 obtain ⟨x15, hx16, hm⟩ := bndE hm
 refine OW.cons (OP.call rfl (x_call (vs := [(.agg #[(.int .i64 a0.Boats), v1, v3]), v5, (.int .i64 a2)]) Try_C78 ⟨rfl, rfl, rfl, trivial⟩) (M.impl_discardsOf_ok _ a0 (hL.rdS 1 rfl h2) (hL.rdS 1 rfl h4) a1 (hL.rdS 1 rfl h6) a2 hx16) ?_)
 rintro e19 wd20 ⟨v18, S17, rfl, hF21⟩
 refine ⟨_, rfl, ?_⟩
 have hL := hL.pushAll hF21
 simp only [lA, lB, lC, lD] at hL
 refine OV v18 rfl (x_assign) ?_
 refine OV (.int .i64 0) rfl (x_assign) ?_
 refine OW.nil ?_
 refine CW.ret ?_
 obtain rfl := Option.some.inj hm
 exact RR2 rfl rfl rfl ⟨v18, S17, rfl, hL.fresh 2 rfl [0] (by decide) (by decide) rfl⟩

theorem M.spec_DiscardsOf_ok (w0 : World) (a0 : Table) {v1 : Value} {v3 : Value} (h2 : rdL (· < w0.heap.size) w0 v1 a0.Points) (h4 : rdL (· < w0.heap.size) w0 v3 a0.Codes) (a1 : List Int) {v5 : Value} (h6 : rdL (· < w0.heap.size) w0 v5 a1) (a2 : Int) {r : (List Int) × Int} (hm : M.spec_DiscardsOf a0 a1 a2 = some r) :
    Calls Try.prog 39 #[(.agg #[(.int .i64 a0.Boats), v1, v3]), v5, (.int .i64 a2)] w0 fun e w' => ∃ (rv0 : Value) (rS0 : Nat → Prop), e = .returned (.tuple #[rv0, (.int .i64 r.2)]) ∧ Fresh w0 w' [Ent.own 2 rS0 rv0 r.1] := by
 unfold M.spec_DiscardsOf at hm
 refine calls_CW (args := [(.agg #[(.int .i64 a0.Boats), v1, v3]), v5, (.int .i64 a2)]) Try.func39 rfl rfl rfl ?_
 have hL := Hp.start w0
 refine CSR ?_
 refine OW.cons (S_box (cs := #[(.int .i64 a0.Boats), v1, v3]) hL rfl rfl rfl ?_)
 intro wd7 b8 hL
 refine OV (.slice none 0 0) rfl (x_assign) ?_
 refine OV (.int .i64 0) rfl (x_assign) ?_
 refine ONR ?_
 refine OV (.agg #[(.int .i64 a0.Boats), v1, v3]) rfl (x_loadN (cs := [(.int .i64 a0.Boats), v1, v3]) U29 Try_T29 rfl rfl (hL.cellsB 0 rfl (o := 0) (l := [(.int .i64 a0.Boats), v1, v3]) (by intro j u hj; exact (by simpa using hj)))) ?_
 refine OV v5 rfl (x_move) ?_
 refine OV (.int .i64 a2) rfl (x_move) ?_
 obtain ⟨x9, hx10, hm⟩ := bndE hm
 refine OW.cons (OP.call rfl (x_call (vs := [(.agg #[(.int .i64 a0.Boats), v1, v3]), v5, (.int .i64 a2)]) Try_C63 ⟨rfl, rfl, rfl, trivial⟩) (M.spec_l27Code_ok _ a0 (hL.rdS 1 rfl h2) (hL.rdS 1 rfl h4) a1 (hL.rdS 1 rfl h6) a2 hx10) ?_)
 rintro e11 wd12 ⟨rfl, hF13⟩
 refine ⟨_, rfl, ?_⟩
 have hL := hL.pushAll hF13
 simp only [lA, lB, lC, lD] at hL
 refine OV (.int .i64 x9) rfl (x_assign) ?_
 refine ONS ?_
 refine CSR ?_
 refine OV (.int .i64 x9) rfl (x_move) ?_
 refine OV (.bool (x9 != 0)) rfl (x_neq rfl rfl) ?_
 refine OW.nil ?_
 refine CW.condM (t := x9 != 0) rfl hm (fun hb14 hm => ?_) (fun hb14 hm => ?_)
 · refine CSR ?_
   refine OV (.int .i64 x9) rfl (x_move) ?_
   refine OV (.slice none 0 0) rfl (x_assign) ?_
   refine OV (.int .i64 x9) rfl (x_assign) ?_
   refine OW.nil ?_
   refine CW.ret ?_
   have hL := hL.pushNil Int 2
   obtain rfl := Option.some.inj hm
   exact RR2 rfl rfl rfl ⟨(.slice none 0 0), None_, rfl, hL.fresh 2 rfl [0] (by decide) (by decide) rfl⟩
 refine CW.skip ?_
 refine CSR ?_
 refine OV (.agg #[(.int .i64 a0.Boats), v1, v3]) rfl (x_loadN (cs := [(.int .i64 a0.Boats), v1, v3]) U29 Try_T29 rfl rfl (hL.cellsB 0 rfl (o := 0) (l := [(.int .i64 a0.Boats), v1, v3]) (by intro j u hj; exact (by simpa using hj)))) ?_
 refine OV v5 rfl (x_move) ?_
 refine OV (.int .i64 a2) rfl (x_move) ?_
 obtain ⟨x15, hx16, hm⟩ := bndE hm
 refine OW.cons (OP.call rfl (x_call (vs := [(.agg #[(.int .i64 a0.Boats), v1, v3]), v5, (.int .i64 a2)]) Try_C79 ⟨rfl, rfl, rfl, trivial⟩) (M.spec_l27Out_ok _ a0 (hL.rdS 1 rfl h2) (hL.rdS 1 rfl h4) a1 (hL.rdS 1 rfl h6) a2 hx16) ?_)
 rintro e19 wd20 ⟨v18, S17, rfl, hF21⟩
 refine ⟨_, rfl, ?_⟩
 have hL := hL.pushAll hF21
 simp only [lA, lB, lC, lD] at hL
 refine OV v18 rfl (x_assign) ?_
 refine ONR ?_
 refine OW.cons (S_lit ([] : List Int) hL U25 Try_T2 rfl (by decide) (by first | (simp [Instr.fill, madeCells, Value.cells, ev, upd, Flat.enc, Flat.sz]; done) | rfl | kernel_rfl) rfl rfl ?_)
 intro wd22 v23 S24 hL
 refine OV v23 rfl (x_assign) ?_
 refine ONS ?_
 refine CSR ?_
 refine OV (.int .i64 0) rfl (x_assign) ?_
 refine OW.nil ?_
 obtain ⟨o195, ho196, hm⟩ := bndE hm
 refine CW.loopB (fun (s_l1 : (List Int) × Int) (F : Fr) (w : World) => ∃ (v191 : Value) (S192 : Nat → Prop), F 9 = v18 ∧ F 10 = v191 ∧ F 11 = (.int .i64 s_l1.2) ∧ Hp w0 [Ent.own 2 S192 v191 s_l1.1, Ent.own 4 S17 v18 x15, Ent.blk b8 29 #[(.int .i64 a0.Boats), v1, v3], Ent.snap w0 w0.heap.size] w) (fun o => outc o (fun x => some x) (fun s => M.spec_DiscardsOf_a1 s) = some r) ho196 hm ⟨v23, S24, rfl, rfl, rfl, hL⟩ ?_ ?_
 · intro s_l1 F197 wd198 hJ hm
   have hm := outcE hm
   have hm : M.spec_DiscardsOf_a1 s_l1 = some r := hm
   unfold M.spec_DiscardsOf_a1 at hm
   obtain ⟨v191, S192, f199, f200, f201, hL⟩ := hJ
   refine CSR ?_
   refine OV v191 rfl (x_mv f200) ?_
   refine OV v191 rfl (x_assign) ?_
   refine OV (.int .i64 0) rfl (x_assign) ?_
   refine OW.nil ?_
   refine CW.ret ?_
   obtain rfl := Option.some.inj hm
   exact RR2 rfl rfl rfl ⟨v191, S192, rfl, hL.fresh 3 rfl [0] (by decide) (by decide) rfl⟩
 intro s_l1 F202 wd203 t193 hJ hm hr194
 unfold M.spec_DiscardsOf_l1 at hm
 obtain ⟨v191, S192, f204, f205, f206, hL⟩ := hJ
 refine CW.seq ?_
 refine CSR ?_
 refine OV (.int .i64 s_l1.2) rfl (x_mv f206) ?_
 refine OV v18 rfl (x_mv f204) ?_
 refine OV (.int .i64 (x15.length : Int)) rfl (x_lenR U71 rfl (hL.rdO 1 rfl)) ?_
 refine OV (.bool (decide (s_l1.2 < (x15.length : Int)))) rfl (x_lss rfl rfl) ?_
 refine OW.nil ?_
 refine CW.condM (t := decide (s_l1.2 < (x15.length : Int))) rfl hm (fun hb207 hm => ?_) (fun hb207 hm => ?_)
 · refine CW.skip ?_
   refine CW.seqJ (fun (s_j1 : (List Int)) (F : Fr) (w : World) => ∃ (v245 : Value) (S246 : Nat → Prop), F 9 = v18 ∧ F 10 = v245 ∧ F 11 = (.int .i64 s_l1.2) ∧ Hp w0 [Ent.own 2 S246 v245 s_j1, Ent.own 4 S17 v18 x15, Ent.blk b8 29 #[(.int .i64 a0.Boats), v1, v3], Ent.snap w0 w0.heap.size] w) (fun s_j1 => M.spec_DiscardsOf_j1 s_l1 s_j1 = some t193) ?_ ?_
   · refine CW.blockJ (fun (s_j2 : (List Int)) (F : Fr) (w : World) => ∃ (v267 : Value) (S268 : Nat → Prop), F 9 = v18 ∧ F 10 = v267 ∧ F 11 = (.int .i64 s_l1.2) ∧ Hp w0 [Ent.own 2 S268 v267 s_j2, Ent.own 4 S17 v18 x15, Ent.blk b8 29 #[(.int .i64 a0.Boats), v1, v3], Ent.snap w0 w0.heap.size] w) (fun s_j2 => M.spec_DiscardsOf_j2 s_l1 s_j2 = some t193) ?_ ?_
     · refine CSR ?_
       refine OV v18 rfl (x_mv f204) ?_
       refine OV (.int .i64 s_l1.2) rfl (x_mv f206) ?_
       obtain ⟨x274, ha275, hm⟩ := bndE hm
       obtain ⟨hz276, ha280⟩ := idxE ha275
       obtain ⟨b277, q278, hix279⟩ := rdL_ix (hL.rdO 1 rfl) hz276 ha280
       refine OV (.pointer (some ⟨b277, q278, none⟩)) rfl (x_ix U71 Try_T4 rfl rfl hix279) ?_
       refine OV (.bool x274) rfl (x_load1 U4 rfl rfl (rdF_cells (hL.rdO 1 rfl) hix279 ha280 0 _ rfl)) ?_
       refine OW.nil ?_
       refine CW.condM (t := x274) rfl hm (fun hb281 hm => ?_) (fun hb281 hm => ?_)
       · refine CW.regionL ?_
         refine OV v191 rfl (x_mv f205) ?_
         refine OV (.int .i64 s_l1.2) rfl (x_mv f206) ?_
         refine OW.cons (S_lit ([s_l1.2] : List Int) hL U25 Try_T2 rfl (by decide) (by first | (simp [Instr.fill, madeCells, Value.cells, ev, upd, Flat.enc, Flat.sz]; done) | rfl | kernel_rfl) rfl rfl ?_)
         intro wd282 v283 S284 hL
         obtain ⟨hc288, hm⟩ := chkE hm
         refine OW.cons (S_append (ys := ([s_l1.2] : List Int)) hL 1 rfl U25 Try_T2 rfl rfl rfl (hL.rdO 0 rfl) hc288 (by decide) rfl ?_)
         intro wd285 v286 S287 hL
         refine OV v286 rfl (x_assign) ?_
         refine OW.nil ?_
         have hL := hL.sel [1, 2, 3, 4] (by decide) rfl
         exact ⟨s_l1.1 ++ ([s_l1.2] : List Int), hm, ⟨v286, S287, f204, rfl, f206, hL⟩⟩
       refine CW.skip ?_
       exact ⟨s_l1.1, hm, ⟨v191, S192, f204, f205, f206, hL⟩⟩
     intro s_j2 F269 wd270 hJ hm
     unfold M.spec_DiscardsOf_j2 at hm
     obtain ⟨v267, S268, f271, f272, f273, hL⟩ := hJ
     exact ⟨s_j2, hm, ⟨v267, S268, f271, f272, f273, hL⟩⟩
   intro s_j1 F247 wd248 hJ hm
   unfold M.spec_DiscardsOf_j1 at hm
   obtain ⟨v245, S246, f249, f250, f251, hL⟩ := hJ
   refine CW.regionL ?_
   refine OV (.int .i64 s_l1.2) rfl (x_mv f251) ?_
   refine OV (.int .i64 (w64 (s_l1.2 + 1))) rfl (x_add rfl rfl) ?_
   refine OV (.int .i64 (w64 (s_l1.2 + 1))) rfl (x_assign) ?_
   refine OW.nil ?_
   obtain rfl := Option.some.inj hm
   exact ⟨_, rfl, ⟨v245, S246, f249, f250, rfl, hL⟩⟩
 refine CW.exit ?_
 refine XJ.hit ?_
 obtain rfl := Option.some.inj hm
 exact ⟨_, rfl, ⟨v191, S192, f204, f205, f206, hL⟩⟩

theorem M.laws_likeInts_ok (w0 : World) (a0 : List Int) {v1 : Value} (h2 : rdL (· < w0.heap.size) w0 v1 a0) (a1 : List Int) {v3 : Value} (h4 : rdL (· < w0.heap.size) w0 v3 a1) {r : Bool} (hm : M.laws_likeInts a0 a1 = some r) :
    Calls Try.prog 40 #[v1, v3] w0 fun e w' => e = .returned (.bool r) ∧ Fresh w0 w' [] := by
 unfold M.laws_likeInts at hm
 refine calls_CW (args := [v1, v3]) Try.func40 rfl rfl rfl ?_
 have hL := Hp.start w0
 refine CSR ?_
 refine OV (.bool false) rfl (x_assign) ?_
 refine ONS ?_
 refine CSR ?_
 refine OV v1 rfl (x_move) ?_
 refine OV (.int .i64 (a0.length : Int)) rfl (x_lenR U25 rfl (hL.rdS 0 rfl h2)) ?_
 refine OV v3 rfl (x_move) ?_
 refine OV (.int .i64 (a1.length : Int)) rfl (x_lenR U25 rfl (hL.rdS 0 rfl h4)) ?_
 refine OV (.bool ((a0.length : Int) != (a1.length : Int))) rfl (x_neq rfl rfl) ?_
 refine OW.nil ?_
 refine CW.condM (t := (a0.length : Int) != (a1.length : Int)) rfl hm (fun hb5 hm => ?_) (fun hb5 hm => ?_)
 · refine CSR ?_
   refine OV (.bool false) rfl (x_assign) ?_
   refine OW.nil ?_
   refine CW.ret ?_
   obtain rfl := Option.some.inj hm
   exact RR1 rfl rfl ⟨rfl, hL.fresh 0 rfl [] (by decide) (by decide) rfl⟩
 refine CW.skip ?_
 refine CW.seq ?_
 refine CSR ?_
 refine OV (.int .i64 0) rfl (x_assign) ?_
 refine OW.nil ?_
 obtain ⟨o42, ho43, hm⟩ := bndE hm
 refine CW.loopB (fun (s_l1 : Int) (F : Fr) (w : World) => F 0 = v1 ∧ F 1 = v3 ∧ F 5 = (.int .i64 s_l1) ∧ Hp w0 [Ent.snap w0 w0.heap.size] w) (fun o => outc o (fun x => some x) (fun s => M.laws_likeInts_a1 s) = some r) ho43 hm ⟨rfl, rfl, rfl, hL⟩ ?_ ?_
 · intro s_l1 F44 wd45 hJ hm
   have hm := outcE hm
   have hm : M.laws_likeInts_a1 s_l1 = some r := hm
   unfold M.laws_likeInts_a1 at hm
   obtain ⟨f46, f47, f48, hL⟩ := hJ
   refine CSR ?_
   refine OV (.bool true) rfl (x_assign) ?_
   refine OW.nil ?_
   refine CW.ret ?_
   obtain rfl := Option.some.inj hm
   exact RR1 rfl rfl ⟨rfl, hL.fresh 0 rfl [] (by decide) (by decide) rfl⟩
 intro s_l1 F49 wd50 t40 hJ hm hr41
 unfold M.laws_likeInts_l1 at hm
 obtain ⟨f51, f52, f53, hL⟩ := hJ
 refine CW.seq ?_
 refine CSR ?_
 refine OV (.int .i64 s_l1) rfl (x_mv f53) ?_
 refine OV v1 rfl (x_mv f51) ?_
 refine OV (.int .i64 (a0.length : Int)) rfl (x_lenR U25 rfl (hL.rdS 0 rfl h2)) ?_
 refine OV (.bool (decide (s_l1 < (a0.length : Int)))) rfl (x_lss rfl rfl) ?_
 refine OW.nil ?_
 refine CW.condM (t := decide (s_l1 < (a0.length : Int))) rfl hm (fun hb54 hm => ?_) (fun hb54 hm => ?_)
 · refine CW.skip ?_
   refine CW.seq ?_
   refine CW.block ?_
   refine CW.seq ?_
   refine CW.draw Try_mixed ?_
   have hL := hL.call (Mod.drew _)
   refine DW.pre (fuel := 0) (fin := bma 9 511) (C := fun w' => Mod None_ _ w') [0, 1, 2, 3, 4, 5, 6, 7, 8] (Mod.refl _ _) (by kernel_rfl) (by kernel_rfl) ?_
   refine QW.cons rfl (QP.val (v := v1) rfl (fun w' hm' => x_mv f51) ?_)
   refine QW.cons rfl (QP.val (v := (.int .i64 s_l1)) rfl (fun w' hm' => x_mv f53) ?_)
   obtain ⟨x55, ha56, hm⟩ := bndE hm
   obtain ⟨hz57, ha61⟩ := idxE ha56
   obtain ⟨b58, q59, hix60⟩ := rdL_ix (hL.rdS 0 rfl h2) hz57 ha61
   refine QW.cons rfl (QP.val (v := (.pointer (some ⟨b58, q59, none⟩))) rfl (fun w' hm' => x_ix U25 Try_T2 rfl rfl hix60) ?_)
   refine QW.cons rfl (QP.val (v := (.int .i64 x55)) rfl (fun w' hm' => x_load1 U2 rfl rfl (rdF_cells ((hL.call hm').rdS 0 rfl h2) hix60 ha61 0 _ rfl)) ?_)
   refine QW.cons rfl (QP.val (v := v3) rfl (fun w' hm' => x_mv f52) ?_)
   refine QW.cons rfl (QP.val (v := (.int .i64 s_l1)) rfl (fun w' hm' => x_mv f53) ?_)
   obtain ⟨x62, ha63, hm⟩ := bndE hm
   obtain ⟨hz64, ha68⟩ := idxE ha63
   obtain ⟨b65, q66, hix67⟩ := rdL_ix (hL.rdS 0 rfl h4) hz64 ha68
   refine QW.cons rfl (QP.val (v := (.pointer (some ⟨b65, q66, none⟩))) rfl (fun w' hm' => x_ix U25 Try_T2 rfl rfl hix67) ?_)
   refine QW.cons rfl (QP.val (v := (.int .i64 x62)) rfl (fun w' hm' => x_load1 U2 rfl rfl (rdF_cells ((hL.call hm').rdS 0 rfl h4) hix67 ha68 0 _ rfl)) ?_)
   refine QW.cons rfl (QP.val (v := (.bool (x55 != x62))) rfl (fun w' hm' => x_neq rfl rfl) ?_)
   refine QW.nil ?_
   intro wd69 hmod
   have hL := hL.call hmod
   refine DW.done (by kernel_rfl) ?_
   refine CW.condM (t := x55 != x62) rfl hm (fun hb70 hm => ?_) (fun hb70 hm => ?_)
   · refine CSR ?_
     refine OV (.bool false) rfl (x_assign) ?_
     refine OW.nil ?_
     refine CW.ret ?_
     obtain rfl := Option.some.inj hm
     have hm := hr41 _ rfl
     obtain rfl := Option.some.inj hm
     exact RR1 rfl rfl ⟨rfl, hL.fresh 0 rfl [] (by decide) (by decide) rfl⟩
   refine CW.skip ?_
   refine CW.regionL ?_
   refine OV (.int .i64 s_l1) rfl (x_mv f53) ?_
   refine OV (.int .i64 (w64 (s_l1 + 1))) rfl (x_add rfl rfl) ?_
   refine OV (.int .i64 (w64 (s_l1 + 1))) rfl (x_assign) ?_
   refine OW.nil ?_
   obtain rfl := Option.some.inj hm
   exact ⟨_, rfl, ⟨f51, f52, rfl, hL⟩⟩
 refine CW.exit ?_
 refine XJ.hit ?_
 obtain rfl := Option.some.inj hm
 exact ⟨_, rfl, ⟨f51, f52, f53, hL⟩⟩

theorem M.impl_NetPoints_ok (w0 : World) (a0 : Table) {v1 : Value} {v3 : Value} (h2 : rdL (· < w0.heap.size) w0 v1 a0.Points) (h4 : rdL (· < w0.heap.size) w0 v3 a0.Codes) (a1 : List Int) {v5 : Value} (h6 : rdL (· < w0.heap.size) w0 v5 a1) (a2 : Int) {r : Int × Int} (hm : M.impl_NetPoints a0 a1 a2 = some r) :
    Calls Try.prog 41 #[(.agg #[(.int .i64 a0.Boats), v1, v3]), v5, (.int .i64 a2)] w0 fun e w' => e = .returned (.tuple #[(.int .i64 r.1), (.int .i64 r.2)]) ∧ Fresh w0 w' [] := by
 unfold M.impl_NetPoints at hm
 refine calls_CW (args := [(.agg #[(.int .i64 a0.Boats), v1, v3]), v5, (.int .i64 a2)]) Try.func41 rfl rfl rfl ?_
 have hL := Hp.start w0
 refine CSR ?_
 refine OW.cons (S_box (cs := #[(.int .i64 a0.Boats), v1, v3]) hL rfl rfl rfl ?_)
 intro wd7 b8 hL
 refine OV (.int .i64 0) rfl (x_assign) ?_
 refine OV (.int .i64 0) rfl (x_assign) ?_
 refine ONS ?_
 refine CSR ?_
 refine OV (.agg #[(.int .i64 a0.Boats), v1, v3]) rfl (x_loadN (cs := [(.int .i64 a0.Boats), v1, v3]) U29 Try_T29 rfl rfl (hL.cellsB 0 rfl (o := 0) (l := [(.int .i64 a0.Boats), v1, v3]) (by intro j u hj; exact (by simpa using hj)))) ?_
 refine OV v5 rfl (x_move) ?_
 refine OV (.int .i64 a2) rfl (x_move) ?_
 obtain ⟨x9, hx10, hm⟩ := bndE hm
 refine OW.cons (OP.call rfl (x_call (vs := [(.agg #[(.int .i64 a0.Boats), v1, v3]), v5, (.int .i64 a2)]) Try_C65 ⟨rfl, rfl, rfl, trivial⟩) (M.impl_tableCode_ok _ a0 (hL.rdS 1 rfl h2) (hL.rdS 1 rfl h4) a1 (hL.rdS 1 rfl h6) a2 hx10) ?_)
 rintro e11 wd12 ⟨rfl, hF13⟩
 refine ⟨_, rfl, ?_⟩
 have hL := hL.pushAll hF13
 simp only [lA, lB, lC, lD] at hL
 refine OV (.int .i64 x9) rfl (x_assign) ?_
 refine ONR ?_
 refine OV (.int .i64 x9) rfl (x_move) ?_
 refine OV (.bool (x9 != 0)) rfl (x_neq rfl rfl) ?_
 refine OW.nil ?_
 refine CW.condM (t := x9 != 0) rfl hm (fun hb14 hm => ?_) (fun hb14 hm => ?_)
 · refine CSR ?_
   refine OV (.int .i64 x9) rfl (x_move) ?_
   refine OV (.int .i64 0) rfl (x_assign) ?_
   refine OV (.int .i64 x9) rfl (x_assign) ?_
   refine OW.nil ?_
   refine CW.ret ?_
   obtain rfl := Option.some.inj hm
   exact RR2 rfl rfl rfl ⟨rfl, hL.fresh 1 rfl [] (by decide) (by decide) rfl⟩
 refine CW.skip ?_
 refine CSR ?_
 refine OV (.agg #[(.int .i64 a0.Boats), v1, v3]) rfl (x_loadN (cs := [(.int .i64 a0.Boats), v1, v3]) U29 Try_T29 rfl rfl (hL.cellsB 0 rfl (o := 0) (l := [(.int .i64 a0.Boats), v1, v3]) (by intro j u hj; exact (by simpa using hj)))) ?_
 refine OV v5 rfl (x_move) ?_
 refine OV (.int .i64 a2) rfl (x_move) ?_
 obtain ⟨x15, hx16, hm⟩ := bndE hm
 refine OW.cons (OP.call rfl (x_call (vs := [(.agg #[(.int .i64 a0.Boats), v1, v3]), v5, (.int .i64 a2)]) Try_C71 ⟨rfl, rfl, rfl, trivial⟩) (M.impl_netPoints_ok _ a0 (hL.rdS 1 rfl h2) (hL.rdS 1 rfl h4) a1 (hL.rdS 1 rfl h6) a2 hx16) ?_)
 rintro e17 wd18 ⟨rfl, hF19⟩
 refine ⟨_, rfl, ?_⟩
 have hL := hL.pushAll hF19
 simp only [lA, lB, lC, lD] at hL
 refine OV (.int .i64 x15) rfl (x_assign) ?_
 refine OV (.int .i64 0) rfl (x_assign) ?_
 refine OW.nil ?_
 refine CW.ret ?_
 obtain rfl := Option.some.inj hm
 exact RR2 rfl rfl rfl ⟨rfl, hL.fresh 1 rfl [] (by decide) (by decide) rfl⟩

theorem M.impl_TotalPoints_ok (w0 : World) (a0 : Table) {v1 : Value} {v3 : Value} (h2 : rdL (· < w0.heap.size) w0 v1 a0.Points) (h4 : rdL (· < w0.heap.size) w0 v3 a0.Codes) (a1 : Int) {r : Int × Int} (hm : M.impl_TotalPoints a0 a1 = some r) :
    Calls Try.prog 42 #[(.agg #[(.int .i64 a0.Boats), v1, v3]), (.int .i64 a1)] w0 fun e w' => e = .returned (.tuple #[(.int .i64 r.1), (.int .i64 r.2)]) ∧ Fresh w0 w' [] := by
 unfold M.impl_TotalPoints at hm
 refine calls_CW (args := [(.agg #[(.int .i64 a0.Boats), v1, v3]), (.int .i64 a1)]) Try.func42 rfl rfl rfl ?_
 have hL := Hp.start w0
 refine CSR ?_
 refine OW.cons (S_box (cs := #[(.int .i64 a0.Boats), v1, v3]) hL rfl rfl rfl ?_)
 intro wd5 b6 hL
 refine OV (.int .i64 0) rfl (x_assign) ?_
 refine OV (.int .i64 0) rfl (x_assign) ?_
 refine ONS ?_
 refine CSR ?_
 refine OV (.agg #[(.int .i64 a0.Boats), v1, v3]) rfl (x_loadN (cs := [(.int .i64 a0.Boats), v1, v3]) U29 Try_T29 rfl rfl (hL.cellsB 0 rfl (o := 0) (l := [(.int .i64 a0.Boats), v1, v3]) (by intro j u hj; exact (by simpa using hj)))) ?_
 refine OV (.int .i64 a1) rfl (x_move) ?_
 obtain ⟨x7, hx8, hm⟩ := bndE hm
 refine OW.cons (OP.call rfl (x_call (vs := [(.agg #[(.int .i64 a0.Boats), v1, v3]), (.slice none 0 0), (.int .i64 a1)]) Try_C65 ⟨rfl, rfl, rfl, trivial⟩) (M.impl_tableCode_ok _ a0 (hL.rdS 1 rfl h2) (hL.rdS 1 rfl h4) ([] : List Int) rdL_nil a1 hx8) ?_)
 rintro e9 wd10 ⟨rfl, hF11⟩
 refine ⟨_, rfl, ?_⟩
 have hL := hL.pushAll hF11
 simp only [lA, lB, lC, lD] at hL
 refine OV (.int .i64 x7) rfl (x_assign) ?_
 refine ONR ?_
 refine OV (.int .i64 x7) rfl (x_move) ?_
 refine OV (.bool (x7 != 0)) rfl (x_neq rfl rfl) ?_
 refine OW.nil ?_
 refine CW.condM (t := x7 != 0) rfl hm (fun hb12 hm => ?_) (fun hb12 hm => ?_)
 · refine CSR ?_
   refine OV (.int .i64 x7) rfl (x_move) ?_
   refine OV (.int .i64 0) rfl (x_assign) ?_
   refine OV (.int .i64 x7) rfl (x_assign) ?_
   refine OW.nil ?_
   refine CW.ret ?_
   obtain rfl := Option.some.inj hm
   exact RR2 rfl rfl rfl ⟨rfl, hL.fresh 1 rfl [] (by decide) (by decide) rfl⟩
 refine CW.skip ?_
 refine CSR ?_
 refine OV (.agg #[(.int .i64 a0.Boats), v1, v3]) rfl (x_loadN (cs := [(.int .i64 a0.Boats), v1, v3]) U29 Try_T29 rfl rfl (hL.cellsB 0 rfl (o := 0) (l := [(.int .i64 a0.Boats), v1, v3]) (by intro j u hj; exact (by simpa using hj)))) ?_
 refine OV (.int .i64 a1) rfl (x_move) ?_
 obtain ⟨x13, hx14, hm⟩ := bndE hm
 refine OW.cons (OP.call rfl (x_call (vs := [(.agg #[(.int .i64 a0.Boats), v1, v3]), (.slice none 0 0), (.int .i64 a1)]) Try_C71 ⟨rfl, rfl, rfl, trivial⟩) (M.impl_netPoints_ok _ a0 (hL.rdS 1 rfl h2) (hL.rdS 1 rfl h4) ([] : List Int) rdL_nil a1 hx14) ?_)
 rintro e15 wd16 ⟨rfl, hF17⟩
 refine ⟨_, rfl, ?_⟩
 have hL := hL.pushAll hF17
 simp only [lA, lB, lC, lD] at hL
 refine OV (.int .i64 x13) rfl (x_assign) ?_
 refine OV (.int .i64 0) rfl (x_assign) ?_
 refine OW.nil ?_
 refine CW.ret ?_
 obtain rfl := Option.some.inj hm
 exact RR2 rfl rfl rfl ⟨rfl, hL.fresh 1 rfl [] (by decide) (by decide) rfl⟩

theorem M.laws_hasInt_ok (w0 : World) (a0 : List Int) {v1 : Value} (h2 : rdL (· < w0.heap.size) w0 v1 a0) (a1 : Int) {r : Bool} (hm : M.laws_hasInt a0 a1 = some r) :
    Calls Try.prog 43 #[v1, (.int .i64 a1)] w0 fun e w' => e = .returned (.bool r) ∧ Fresh w0 w' [] := by
 unfold M.laws_hasInt at hm
 refine calls_CW (args := [v1, (.int .i64 a1)]) Try.func43 rfl rfl rfl ?_
 have hL := Hp.start w0
 refine CSR ?_
 refine OV (.bool false) rfl (x_assign) ?_
 refine ONS ?_
 refine CSR ?_
 refine OV (.int .i64 0) rfl (x_assign) ?_
 refine OW.nil ?_
 obtain ⟨o23, ho24, hm⟩ := bndE hm
 refine CW.loopB (fun (s_l1 : Int) (F : Fr) (w : World) => F 0 = v1 ∧ F 1 = (.int .i64 a1) ∧ F 5 = (.int .i64 s_l1) ∧ Hp w0 [Ent.snap w0 w0.heap.size] w) (fun o => outc o (fun x => some x) (fun s => M.laws_hasInt_a1 s) = some r) ho24 hm ⟨rfl, rfl, rfl, hL⟩ ?_ ?_
 · intro s_l1 F25 wd26 hJ hm
   have hm := outcE hm
   have hm : M.laws_hasInt_a1 s_l1 = some r := hm
   unfold M.laws_hasInt_a1 at hm
   obtain ⟨f27, f28, f29, hL⟩ := hJ
   refine CSR ?_
   refine OV (.bool false) rfl (x_assign) ?_
   refine OW.nil ?_
   refine CW.ret ?_
   obtain rfl := Option.some.inj hm
   exact RR1 rfl rfl ⟨rfl, hL.fresh 0 rfl [] (by decide) (by decide) rfl⟩
 intro s_l1 F30 wd31 t21 hJ hm hr22
 unfold M.laws_hasInt_l1 at hm
 obtain ⟨f32, f33, f34, hL⟩ := hJ
 refine CW.seq ?_
 refine CSR ?_
 refine OV (.int .i64 s_l1) rfl (x_mv f34) ?_
 refine OV v1 rfl (x_mv f32) ?_
 refine OV (.int .i64 (a0.length : Int)) rfl (x_lenR U25 rfl (hL.rdS 0 rfl h2)) ?_
 refine OV (.bool (decide (s_l1 < (a0.length : Int)))) rfl (x_lss rfl rfl) ?_
 refine OW.nil ?_
 refine CW.condM (t := decide (s_l1 < (a0.length : Int))) rfl hm (fun hb35 hm => ?_) (fun hb35 hm => ?_)
 · refine CW.skip ?_
   refine CW.seq ?_
   refine CW.block ?_
   refine CSR ?_
   refine OV v1 rfl (x_mv f32) ?_
   refine OV (.int .i64 s_l1) rfl (x_mv f34) ?_
   obtain ⟨x36, ha37, hm⟩ := bndE hm
   obtain ⟨hz38, ha42⟩ := idxE ha37
   obtain ⟨b39, q40, hix41⟩ := rdL_ix (hL.rdS 0 rfl h2) hz38 ha42
   refine OV (.pointer (some ⟨b39, q40, none⟩)) rfl (x_ix U25 Try_T2 rfl rfl hix41) ?_
   refine OV (.int .i64 x36) rfl (x_load1 U2 rfl rfl (rdF_cells (hL.rdS 0 rfl h2) hix41 ha42 0 _ rfl)) ?_
   refine OV (.int .i64 a1) rfl (x_mv f33) ?_
   refine OV (.bool (x36 == a1)) rfl (x_eql rfl rfl) ?_
   refine OW.nil ?_
   refine CW.condM (t := x36 == a1) rfl hm (fun hb43 hm => ?_) (fun hb43 hm => ?_)
   · refine CSR ?_
     refine OV (.bool true) rfl (x_assign) ?_
     refine OW.nil ?_
     refine CW.ret ?_
     obtain rfl := Option.some.inj hm
     have hm := hr22 _ rfl
     obtain rfl := Option.some.inj hm
     exact RR1 rfl rfl ⟨rfl, hL.fresh 0 rfl [] (by decide) (by decide) rfl⟩
   refine CW.skip ?_
   refine CW.regionL ?_
   refine OV (.int .i64 s_l1) rfl (x_mv f34) ?_
   refine OV (.int .i64 (w64 (s_l1 + 1))) rfl (x_add rfl rfl) ?_
   refine OV (.int .i64 (w64 (s_l1 + 1))) rfl (x_assign) ?_
   refine OW.nil ?_
   obtain rfl := Option.some.inj hm
   exact ⟨_, rfl, ⟨f32, f33, rfl, hL⟩⟩
 refine CW.exit ?_
 refine XJ.hit ?_
 obtain rfl := Option.some.inj hm
 exact ⟨_, rfl, ⟨f32, f33, f34, hL⟩⟩

theorem M.impl_DiscardCount_ok (w0 : World) (a0 : List Int) {v1 : Value} (h2 : rdL (· < w0.heap.size) w0 v1 a0) (a1 : Int) {r : Int} (hm : M.impl_DiscardCount a0 a1 = some r) :
    Calls Try.prog 44 #[v1, (.int .i64 a1)] w0 fun e w' => e = .returned (.int .i64 r) ∧ Fresh w0 w' [] := by
 unfold M.impl_DiscardCount at hm
 refine calls_CW (args := [v1, (.int .i64 a1)]) Try.func44 rfl rfl rfl ?_
 have hL := Hp.start w0
 refine CSR ?_
 refine OV (.int .i64 0) rfl (x_assign) ?_
 refine ONS ?_
 refine CW.seqJ (fun (s_j1 : Bool) (F : Fr) (w : World) => F 0 = v1 ∧ F 1 = (.int .i64 a1) ∧ F 12 = (.bool s_j1) ∧ Hp w0 [Ent.snap w0 w0.heap.size] w) (fun s_j1 => M.impl_DiscardCount_j1 a0 a1 s_j1 = some r) ?_ ?_
 · refine CW.regionL ?_
   refine OV v1 rfl (x_move) ?_
   obtain ⟨x25, hx26, hm⟩ := bndE hm
   refine OW.cons (OP.call rfl (x_call (vs := [v1]) Try_C80 ⟨rfl, trivial⟩) (M.impl_IsDiscardRule_ok _ a0 (hL.rdS 0 rfl h2) hx26) ?_)
   rintro e27 wd28 ⟨rfl, hF29⟩
   refine ⟨_, rfl, ?_⟩
   have hL := hL.pushAll hF29
   simp only [lA, lB, lC, lD] at hL
   refine OV (.bool (!x25)) rfl (x_not rfl) ?_
   refine OV (.bool (!x25)) rfl (x_move) ?_
   refine ifB_elim hm (fun hb30 hm => ?_) (fun hb30 hm => ?_)
   · refine OW.cons (OP.no' rfl rfl hb30 rfl ?_)
     refine OW.cons (OP.no' rfl rfl hb30 rfl ?_)
     refine OW.cons (OP.no' rfl rfl hb30 rfl ?_)
     refine OV (.bool true) rfl (x_pickT' rfl hb30 rfl) ?_
     refine OW.nil ?_
     exact ⟨true, hm, ⟨rfl, rfl, rfl, hL⟩⟩
   refine OW.cons (OP.yes' rfl rfl hb30 (OP.val (v := (.int .i64 a1)) rfl (x_move) ?_))
   obtain ⟨x31, hx32, hm⟩ := bndE hm
   refine OW.cons (OP.yes' rfl rfl hb30 (OP.call rfl (x_call (vs := [(.int .i64 a1), (.int .i64 0), (.int .i64 12)]) Try_C81 ⟨rfl, rfl, rfl, trivial⟩) (M.impl_within_ok _ a1 0 12 hx32) ?_))
   rintro e33 wd34 ⟨rfl, hF35⟩
   refine ⟨_, rfl, ?_⟩
   have hL := hL.pushAll hF35
   simp only [lA, lB, lC, lD] at hL
   refine OW.cons (OP.yes' rfl rfl hb30 (OP.val (v := (.bool (!x31))) rfl (x_not rfl) ?_))
   refine OV (.bool (!x31)) rfl (x_pickF' rfl hb30 rfl) ?_
   refine OW.nil ?_
   exact ⟨!x31, hm, ⟨rfl, rfl, rfl, hL⟩⟩
 intro s_j1 F14 wd15 hJ hm
 unfold M.impl_DiscardCount_j1 at hm
 obtain ⟨f16, f17, f18, hL⟩ := hJ
 refine CW.condM (t := s_j1) f18 hm (fun hb19 hm => ?_) (fun hb19 hm => ?_)
 · refine CSR ?_
   refine OV (.int .i64 (-1)) rfl (x_assign) ?_
   refine OW.nil ?_
   refine CW.ret ?_
   obtain rfl := Option.some.inj hm
   exact RR1 rfl rfl ⟨rfl, hL.fresh 0 rfl [] (by decide) (by decide) rfl⟩
 refine CW.skip ?_
 refine CSR ?_
 refine OV v1 rfl (x_mv f16) ?_
 refine OV (.int .i64 a1) rfl (x_mv f17) ?_
 obtain ⟨x20, hx21, hm⟩ := bndE hm
 refine OW.cons (OP.call rfl (x_call (vs := [v1, (.int .i64 a1)]) Try_C82 ⟨rfl, rfl, trivial⟩) (M.impl_discardCount_ok _ a0 (hL.rdS 0 rfl h2) a1 hx21) ?_)
 rintro e22 wd23 ⟨rfl, hF24⟩
 refine ⟨_, rfl, ?_⟩
 have hL := hL.pushAll hF24
 simp only [lA, lB, lC, lD] at hL
 refine OV (.int .i64 x20) rfl (x_assign) ?_
 refine OW.nil ?_
 refine CW.ret ?_
 obtain rfl := Option.some.inj hm
 exact RR1 rfl rfl ⟨rfl, hL.fresh 0 rfl [] (by decide) (by decide) rfl⟩

theorem M.laws_FnDiscards_ok (w0 : World) (a0 : List UInt8) {v1 : Value} (h2 : rdL (· < w0.heap.size) w0 v1 a0) {r : Bool} (hm : M.laws_FnDiscards a0 = some r) :
    Calls Try.prog 9 #[v1] w0 fun e w' => e = .returned (.bool r) ∧ Fresh w0 w' [] := by
 unfold M.laws_FnDiscards at hm
 refine calls_CW (args := [v1]) Try.func9 rfl rfl rfl ?_
 have hL := Hp.start w0
 refine CSR ?_
 refine OV (.bool false) rfl (x_assign) ?_
 refine ONS ?_
 refine CSR ?_
 refine OV v1 rfl (x_move) ?_
 obtain ⟨x3, hx4, hm⟩ := bndE hm
 refine OW.cons (OP.call rfl (x_call (vs := [v1]) Try_C36 ⟨rfl, trivial⟩) (M.laws_big_ok _ a0 (hL.rdS 0 rfl h2) hx4) ?_)
 rintro e5 wd6 ⟨rfl, hF7⟩
 refine ⟨_, rfl, ?_⟩
 have hL := hL.pushAll hF7
 simp only [lA, lB, lC, lD] at hL
 refine OW.nil ?_
 refine CW.condM (t := x3) rfl hm (fun hb8 hm => ?_) (fun hb8 hm => ?_)
 · refine CSR ?_
   refine OV (.bool true) rfl (x_assign) ?_
   refine OW.nil ?_
   refine CW.ret ?_
   obtain rfl := Option.some.inj hm
   exact RR1 rfl rfl ⟨rfl, hL.fresh 0 rfl [] (by decide) (by decide) rfl⟩
 refine CW.skip ?_
 refine CSR ?_
 refine OV v1 rfl (x_move) ?_
 obtain ⟨x9, hx10, hm⟩ := bndE hm
 refine OW.cons (OP.call rfl (x_call (vs := [v1]) Try_C37 ⟨rfl, trivial⟩) (M.spec_DrawDiscardsOf_ok _ a0 (hL.rdS 0 rfl h2) hx10) ?_)
 rintro e17 wd18 ⟨v12, S11, v14, S13, v16, S15, rfl, hF19⟩
 refine ⟨_, rfl, ?_⟩
 have hL := hL.pushAll hF19
 simp only [lA, lB, lC, lD] at hL
 obtain ⟨wz20, hL, ho21⟩ := hL.rdxFz 0 rfl
 simp only [lC, lD] at hL
 obtain ⟨wz22, hL, ho23⟩ := hL.rdxFz 1 rfl
 simp only [lC, lD] at hL
 obtain ⟨wz24, hL, ho25⟩ := hL.rdxFz 2 rfl
 simp only [lC, lD] at hL
 refine OV (.tuple #[(.agg #[(.int .i64 x9.1.Boats), v12, v14]), v16, (.int .i64 x9.2.2)]) rfl (x_move) ?_
 refine OV (.agg #[(.int .i64 x9.1.Boats), v12, v14]) rfl (x_extract rfl rfl) ?_
 refine OV v16 rfl (x_extract rfl rfl) ?_
 refine OV (.int .i64 x9.2.2) rfl (x_extract rfl rfl) ?_
 refine OW.cons (S_alloc (cs := #[(.int .i64 0), (.slice none 0 0), (.slice none 0 0)]) hL Try_T29 rfl rfl ?_)
 intro wd26 b27 hL
 refine OW.cons (S_storeN (l := [(.int .i64 x9.1.Boats), v12, v14]) (cs' := #[(.int .i64 x9.1.Boats), v12, v14]) hL 0 rfl Try_T29 rfl rfl (List.forall_mem_cons.2 ⟨rfl, (List.forall_mem_cons.2 ⟨rdL_one (hL.rdF 1 rfl ho21.1.rdL), (List.forall_mem_cons.2 ⟨rdL_one (hL.rdF 2 rfl ho23.1.rdL), (fun _ h => by cases h)⟩)⟩)⟩) rfl (Nat.le_of_ble_eq_true rfl) rfl ?_)
 intro wd28 hL
 refine OV v16 rfl (x_assign) ?_
 refine OV (.int .i64 x9.2.2) rfl (x_assign) ?_
 refine ONR ?_
 refine OV (.agg #[(.int .i64 x9.1.Boats), v12, v14]) rfl (x_loadN (cs := [(.int .i64 x9.1.Boats), v12, v14]) U29 Try_T29 rfl rfl (hL.cellsB 0 rfl (o := 0) (l := [(.int .i64 x9.1.Boats), v12, v14]) (by intro j u hj; exact (by simpa using hj)))) ?_
 refine OV v16 rfl (x_move) ?_
 refine OV (.int .i64 x9.2.2) rfl (x_move) ?_
 obtain ⟨x29, hx30, hm⟩ := bndE hm
 refine OW.cons (OP.call rfl (x_call (vs := [(.agg #[(.int .i64 x9.1.Boats), v12, v14]), v16, (.int .i64 x9.2.2)]) Try_C38 ⟨rfl, rfl, rfl, trivial⟩) (M.impl_DiscardsOf_ok _ x9.1 (hL.rdF 1 rfl ho21.1.rdL) (hL.rdF 2 rfl ho23.1.rdL) x9.2.1 (hL.rdF 3 rfl ho25.1.rdL) x9.2.2 hx30) ?_)
 rintro e33 wd34 ⟨v32, S31, rfl, hF35⟩
 refine ⟨_, rfl, ?_⟩
 have hL := hL.pushAll hF35
 simp only [lA, lB, lC, lD] at hL
 refine OV (.tuple #[v32, (.int .i64 x29.2)]) rfl (x_move) ?_
 refine OV v32 rfl (x_extract rfl rfl) ?_
 refine OV (.int .i64 x29.2) rfl (x_extract rfl rfl) ?_
 refine OV v32 rfl (x_assign) ?_
 refine OV (.int .i64 x29.2) rfl (x_assign) ?_
 refine ONR ?_
 refine OV v1 rfl (x_move) ?_
 obtain ⟨x36, hx37, hm⟩ := bndE hm
 refine OW.cons (OP.call rfl (x_call (vs := [v1]) Try_C37 ⟨rfl, trivial⟩) (M.spec_DrawDiscardsOf_ok _ a0 (hL.rdS 5 rfl h2) hx37) ?_)
 rintro e44 wd45 ⟨v39, S38, v41, S40, v43, S42, rfl, hF46⟩
 refine ⟨_, rfl, ?_⟩
 have hL := hL.pushAll hF46
 simp only [lA, lB, lC, lD] at hL
 obtain ⟨wz47, hL, ho48⟩ := hL.rdxFz 0 rfl
 simp only [lC, lD] at hL
 obtain ⟨wz49, hL, ho50⟩ := hL.rdxFz 1 rfl
 simp only [lC, lD] at hL
 obtain ⟨wz51, hL, ho52⟩ := hL.rdxFz 2 rfl
 simp only [lC, lD] at hL
 refine OV (.tuple #[(.agg #[(.int .i64 x36.1.Boats), v39, v41]), v43, (.int .i64 x36.2.2)]) rfl (x_move) ?_
 refine OV (.agg #[(.int .i64 x36.1.Boats), v39, v41]) rfl (x_extract rfl rfl) ?_
 refine OV v43 rfl (x_extract rfl rfl) ?_
 refine OV (.int .i64 x36.2.2) rfl (x_extract rfl rfl) ?_
 refine OW.cons (S_storeN (l := [(.int .i64 x36.1.Boats), v39, v41]) (cs' := #[(.int .i64 x36.1.Boats), v39, v41]) hL 4 rfl Try_T29 rfl rfl (List.forall_mem_cons.2 ⟨rfl, (List.forall_mem_cons.2 ⟨rdL_one (hL.rdF 0 rfl ho48.1.rdL), (List.forall_mem_cons.2 ⟨rdL_one (hL.rdF 1 rfl ho50.1.rdL), (fun _ h => by cases h)⟩)⟩)⟩) rfl (Nat.le_of_ble_eq_true rfl) rfl ?_)
 intro wd53 hL
 refine OV v43 rfl (x_assign) ?_
 refine OV (.int .i64 x36.2.2) rfl (x_assign) ?_
 refine ONR ?_
 refine OV (.agg #[(.int .i64 x36.1.Boats), v39, v41]) rfl (x_loadN (cs := [(.int .i64 x36.1.Boats), v39, v41]) U29 Try_T29 rfl rfl (hL.cellsB 4 rfl (o := 0) (l := [(.int .i64 x36.1.Boats), v39, v41]) (by intro j u hj; exact (by simpa using hj)))) ?_
 refine OV v43 rfl (x_move) ?_
 refine OV (.int .i64 x36.2.2) rfl (x_move) ?_
 obtain ⟨x54, hx55, hm⟩ := bndE hm
 refine OW.cons (OP.call rfl (x_call (vs := [(.agg #[(.int .i64 x36.1.Boats), v39, v41]), v43, (.int .i64 x36.2.2)]) Try_C39 ⟨rfl, rfl, rfl, trivial⟩) (M.spec_DiscardsOf_ok _ x36.1 (hL.rdF 0 rfl ho48.1.rdL) (hL.rdF 1 rfl ho50.1.rdL) x36.2.1 (hL.rdF 2 rfl ho52.1.rdL) x36.2.2 hx55) ?_)
 rintro e58 wd59 ⟨v57, S56, rfl, hF60⟩
 refine ⟨_, rfl, ?_⟩
 have hL := hL.pushAll hF60
 simp only [lA, lB, lC, lD] at hL
 refine OV (.tuple #[v57, (.int .i64 x54.2)]) rfl (x_move) ?_
 refine OV v57 rfl (x_extract rfl rfl) ?_
 refine OV (.int .i64 x54.2) rfl (x_extract rfl rfl) ?_
 refine OV v57 rfl (x_assign) ?_
 refine OV (.int .i64 x54.2) rfl (x_assign) ?_
 refine ONS ?_
 refine CW.seqJ (fun (s_j1 : Bool) (F : Fr) (w : World) => F 3 = (.pointer (some ⟨b27, 0, none⟩)) ∧ F 4 = v43 ∧ F 5 = (.int .i64 x36.2.2) ∧ F 6 = v32 ∧ F 7 = (.int .i64 x29.2) ∧ F 8 = v57 ∧ F 53 = (.bool s_j1) ∧ Hp w0 [Ent.own 2 S56 v57 x54.1, Ent.frzS wz47 S38, Ent.frzS wz49 S40, Ent.frzS wz51 S42, Ent.own 2 S31 v32 x29.1, Ent.blk b27 29 #[(.int .i64 x36.1.Boats), v39, v41], Ent.snap w0 w0.heap.size] w) (fun s_j1 => M.laws_FnDiscards_j1 x29 x36 x54 s_j1 = some r) ?_ ?_
 · refine CW.regionL ?_
   refine OV (.int .i64 x29.2) rfl (x_move) ?_
   refine OV (.int .i64 x54.2) rfl (x_move) ?_
   refine OV (.bool (x29.2 != x54.2)) rfl (x_neq rfl rfl) ?_
   refine OV (.bool (x29.2 != x54.2)) rfl (x_move) ?_
   refine ifB_elim hm (fun hb6078 hm => ?_) (fun hb6078 hm => ?_)
   · refine OW.cons (OP.no' rfl rfl hb6078 rfl ?_)
     refine OW.cons (OP.no' rfl rfl hb6078 rfl ?_)
     refine OW.cons (OP.no' rfl rfl hb6078 rfl ?_)
     refine OW.cons (OP.no' rfl rfl hb6078 rfl ?_)
     refine OV (.bool true) rfl (x_pickT' rfl hb6078 rfl) ?_
     refine OW.nil ?_
     have hL := hL.sel [0, 1, 2, 3, 4, 5, 9] (by decide) rfl
     exact ⟨true, hm, ⟨rfl, rfl, rfl, rfl, rfl, rfl, rfl, hL⟩⟩
   refine OW.cons (OP.yes' rfl rfl hb6078 (OP.val (v := v32) rfl (x_move) ?_))
   refine OW.cons (OP.yes' rfl rfl hb6078 (OP.val (v := v57) rfl (x_move) ?_))
   obtain ⟨x6079, hx6080, hm⟩ := bndE hm
   refine OW.cons (OP.yes' rfl rfl hb6078 (OP.call rfl (x_call (vs := [v32, v57]) Try_C40 ⟨rfl, rfl, trivial⟩) (M.laws_likeInts_ok _ x29.1 (hL.rdO 4 rfl) x54.1 (hL.rdO 0 rfl) hx6080) ?_))
   rintro e6081 wd6082 ⟨rfl, hF6083⟩
   refine ⟨_, rfl, ?_⟩
   have hL := hL.pushAll hF6083
   simp only [lA, lB, lC, lD] at hL
   refine OW.cons (OP.yes' rfl rfl hb6078 (OP.val (v := (.bool (!x6079))) rfl (x_not rfl) ?_))
   refine OV (.bool (!x6079)) rfl (x_pickF' rfl hb6078 rfl) ?_
   refine OW.nil ?_
   have hL := hL.sel [0, 1, 2, 3, 4, 5, 9] (by decide) rfl
   exact ⟨!x6079, hm, ⟨rfl, rfl, rfl, rfl, rfl, rfl, rfl, hL⟩⟩
 intro s_j1 F67 wd68 hJ hm
 unfold M.laws_FnDiscards_j1 at hm
 obtain ⟨f69, f70, f71, f72, f73, f74, f75, hL⟩ := hJ
 refine CW.condM (t := s_j1) f75 hm (fun hb76 hm => ?_) (fun hb76 hm => ?_)
 · refine CSR ?_
   refine OV (.bool false) rfl (x_assign) ?_
   refine OW.nil ?_
   refine CW.ret ?_
   obtain rfl := Option.some.inj hm
   exact RR1 rfl rfl ⟨rfl, hL.fresh 6 rfl [] (by decide) (by decide) rfl⟩
 refine CW.skip ?_
 refine CW.seq ?_
 refine CSR ?_
 refine OV (.int .i64 x29.2) rfl (x_mv f73) ?_
 refine OV (.bool (x29.2 != 0)) rfl (x_neq rfl rfl) ?_
 refine OW.nil ?_
 refine CW.condM (t := x29.2 != 0) rfl hm (fun hb77 hm => ?_) (fun hb77 hm => ?_)
 · refine CSR ?_
   refine OV (.bool true) rfl (x_assign) ?_
   refine OW.nil ?_
   refine CW.ret ?_
   obtain rfl := Option.some.inj hm
   exact RR1 rfl rfl ⟨rfl, hL.fresh 6 rfl [] (by decide) (by decide) rfl⟩
 refine CW.skip ?_
 refine CSR ?_
 refine OV (.agg #[(.int .i64 x36.1.Boats), v39, v41]) rfl (x_loadN (cs := [(.int .i64 x36.1.Boats), v39, v41]) U29 Try_T29 rfl f69 (hL.cellsB 5 rfl (o := 0) (l := [(.int .i64 x36.1.Boats), v39, v41]) (by intro j u hj; exact (by simpa using hj)))) ?_
 refine OV v43 rfl (x_mv f70) ?_
 refine OV (.int .i64 x36.2.2) rfl (x_mv f71) ?_
 obtain ⟨x78, hx79, hm⟩ := bndE hm
 refine OW.cons (OP.call rfl (x_call (vs := [(.agg #[(.int .i64 x36.1.Boats), v39, v41]), v43, (.int .i64 x36.2.2)]) Try_C41 ⟨rfl, rfl, rfl, trivial⟩) (M.impl_NetPoints_ok _ x36.1 (hL.rdF 1 rfl ho48.1.rdL) (hL.rdF 2 rfl ho50.1.rdL) x36.2.1 (hL.rdF 3 rfl ho52.1.rdL) x36.2.2 hx79) ?_)
 rintro e80 wd81 ⟨rfl, hF82⟩
 refine ⟨_, rfl, ?_⟩
 have hL := hL.pushAll hF82
 simp only [lA, lB, lC, lD] at hL
 refine OV (.tuple #[(.int .i64 x78.1), (.int .i64 x78.2)]) rfl (x_move) ?_
 refine OV (.int .i64 x78.1) rfl (x_extract rfl rfl) ?_
 refine OV (.int .i64 x78.2) rfl (x_extract rfl rfl) ?_
 refine OV (.int .i64 x78.1) rfl (x_assign) ?_
 refine OV (.int .i64 x78.2) rfl (x_assign) ?_
 refine ONR ?_
 refine OV (.agg #[(.int .i64 x36.1.Boats), v39, v41]) rfl (x_loadN (cs := [(.int .i64 x36.1.Boats), v39, v41]) U29 Try_T29 rfl f69 (hL.cellsB 5 rfl (o := 0) (l := [(.int .i64 x36.1.Boats), v39, v41]) (by intro j u hj; exact (by simpa using hj)))) ?_
 refine OV (.int .i64 x36.2.2) rfl (x_mv f71) ?_
 obtain ⟨x83, hx84, hm⟩ := bndE hm
 refine OW.cons (OP.call rfl (x_call (vs := [(.agg #[(.int .i64 x36.1.Boats), v39, v41]), (.int .i64 x36.2.2)]) Try_C42 ⟨rfl, rfl, trivial⟩) (M.impl_TotalPoints_ok _ x36.1 (hL.rdF 1 rfl ho48.1.rdL) (hL.rdF 2 rfl ho50.1.rdL) x36.2.2 hx84) ?_)
 rintro e85 wd86 ⟨rfl, hF87⟩
 refine ⟨_, rfl, ?_⟩
 have hL := hL.pushAll hF87
 simp only [lA, lB, lC, lD] at hL
 refine OV (.tuple #[(.int .i64 x83.1), (.int .i64 x83.2)]) rfl (x_move) ?_
 refine OV (.int .i64 x83.1) rfl (x_extract rfl rfl) ?_
 refine OV (.int .i64 x83.2) rfl (x_extract rfl rfl) ?_
 refine OV (.int .i64 x83.1) rfl (x_assign) ?_
 refine OV (.int .i64 x83.2) rfl (x_assign) ?_
 refine ONR ?_
 refine OV (.int .i64 x83.1) rfl (x_move) ?_
 refine OV (.int .i64 x83.1) rfl (x_assign) ?_
 refine ONS ?_
 refine CSR ?_
 refine OV (.int .i64 0) rfl (x_assign) ?_
 refine OW.nil ?_
 obtain ⟨o4052, ho4053, hm⟩ := bndE hm
 refine CW.loopB (fun (s_l1 : Int × Int) (F : Fr) (w : World) => F 3 = (.pointer (some ⟨b27, 0, none⟩)) ∧ F 4 = v43 ∧ F 5 = (.int .i64 x36.2.2) ∧ F 6 = v32 ∧ F 8 = v57 ∧ F 10 = (.int .i64 x78.1) ∧ F 11 = (.int .i64 x78.2) ∧ F 13 = (.int .i64 x83.2) ∧ F 14 = (.int .i64 s_l1.1) ∧ F 15 = (.int .i64 s_l1.2) ∧ Hp w0 [Ent.own 2 S56 v57 x54.1, Ent.frzS wz47 S38, Ent.frzS wz49 S40, Ent.frzS wz51 S42, Ent.own 2 S31 v32 x29.1, Ent.blk b27 29 #[(.int .i64 x36.1.Boats), v39, v41], Ent.snap w0 w0.heap.size] w) (fun o => outc o (fun x => some x) (fun s => M.laws_FnDiscards_a1 x29 x36 x78 x83 s) = some r) ho4053 hm ⟨f69, f70, f71, f72, f74, rfl, rfl, rfl, rfl, rfl, hL⟩ ?_ ?_
 · intro s_l1 F4054 wd4055 hJ hm
   have hm := outcE hm
   have hm : M.laws_FnDiscards_a1 x29 x36 x78 x83 s_l1 = some r := hm
   unfold M.laws_FnDiscards_a1 at hm
   obtain ⟨f4056, f4057, f4058, f4059, f4060, f4061, f4062, f4063, f4064, f4065, hL⟩ := hJ
   refine CW.seqJ (fun (s_j2 : Bool) (F : Fr) (w : World) => F 2 = (.bool s_j2) ∧ Hp w0 [Ent.frzS wz47 S38, Ent.frzS wz49 S40, Ent.blk b27 29 #[(.int .i64 x36.1.Boats), v39, v41], Ent.snap w0 w0.heap.size] w) (fun s_j2 => M.laws_FnDiscards_j2 s_j2 = some r) ?_ ?_
   · refine CW.regionL ?_
     refine OV (.int .i64 x78.2) rfl (x_mv f4062) ?_
     refine OV (.bool (x78.2 == 0)) rfl (x_eql rfl rfl) ?_
     refine OV (.bool (x78.2 == 0)) rfl (x_move) ?_
     refine ifB_elim hm (fun hb4077 hm => ?_) (fun hb4077 hm => ?_)
     · refine OW.cons (OP.yes' rfl rfl hb4077 (OP.val (v := (.int .i64 x83.2)) rfl (x_mv f4063) ?_))
       refine OW.cons (OP.yes' rfl rfl hb4077 (OP.val (v := (.bool (x83.2 == 0))) rfl (x_eql rfl rfl) ?_))
       refine OV (.bool (x83.2 == 0)) rfl (x_pickT' rfl hb4077 rfl) ?_
       refine OV (.bool (x83.2 == 0)) rfl (x_move) ?_
       refine ifB_elim hm (fun hb4078 hm => ?_) (fun hb4078 hm => ?_)
       · refine OW.cons (OP.yes' rfl rfl hb4078 (OP.val (v := (.int .i64 s_l1.1)) rfl (x_mv f4064) ?_))
         refine OW.cons (OP.yes' rfl rfl hb4078 (OP.val (v := (.int .i64 x78.1)) rfl (x_mv f4061) ?_))
         refine OW.cons (OP.yes' rfl rfl hb4078 (OP.val (v := (.bool (s_l1.1 == x78.1))) rfl (x_eql rfl rfl) ?_))
         refine OV (.bool (s_l1.1 == x78.1)) rfl (x_pickT' rfl hb4078 rfl) ?_
         refine OV (.bool (s_l1.1 == x78.1)) rfl (x_move) ?_
         refine ifB_elim hm (fun hb4079 hm => ?_) (fun hb4079 hm => ?_)
         · refine OW.cons (OP.yes' rfl rfl hb4079 (OP.val (v := v32) rfl (x_mv f4059) ?_))
           refine OW.cons (OP.yes' rfl rfl hb4079 (OP.val (v := (.int .i64 (x29.1.length : Int))) rfl (x_lenR U25 rfl (hL.rdO 4 rfl)) ?_))
           refine OW.cons (OP.yes' rfl rfl hb4079 (OP.val (v := v43) rfl (x_mv f4057) ?_))
           refine OW.cons (OP.yes' rfl rfl hb4079 (OP.val (v := (.pointer (some ⟨b27, 1, none⟩))) rfl (x_fieldAddr (fsz := 1) 0 1 1 U29 rfl Try_T22 rfl f4056 rfl) ?_))
           refine OW.cons (OP.yes' rfl rfl hb4079 (OP.val (v := v39) rfl (x_load1 U22 rfl rfl (hL.cellB 5 rfl rfl)) ?_))
           refine OW.cons (OP.yes' rfl rfl hb4079 (OP.val (v := (.int .i64 (x36.1.Points.length : Int))) rfl (x_lenR U22 rfl (hL.rdF 1 rfl ho48.1.rdL)) ?_))
           obtain ⟨x4080, hx4081, hm⟩ := bndE hm
           refine OW.cons (OP.yes' rfl rfl hb4079 (OP.call rfl (x_call (vs := [v43, (.int .i64 (x36.1.Points.length : Int))]) Try_C44 ⟨rfl, rfl, trivial⟩) (M.impl_DiscardCount_ok _ x36.2.1 (hL.rdF 3 rfl ho52.1.rdL) (x36.1.Points.length : Int) hx4081) ?_))
           rintro e4082 wd4083 ⟨rfl, hF4084⟩
           refine ⟨_, rfl, ?_⟩
           have hL := hL.pushAll hF4084
           simp only [lA, lB, lC, lD] at hL
           refine OW.cons (OP.yes' rfl rfl hb4079 (OP.val (v := (.bool (decide ((x29.1.length : Int) ≤ x4080)))) rfl (x_leq rfl rfl) ?_))
           refine OV (.bool (decide ((x29.1.length : Int) ≤ x4080))) rfl (x_pickT' rfl hb4079 rfl) ?_
           refine OV (.bool (decide ((x29.1.length : Int) ≤ x4080))) rfl (x_assign) ?_
           refine OW.nil ?_
           have hL := hL.sel [1, 2, 5, 6] (by decide) rfl
           exact ⟨decide ((x29.1.length : Int) ≤ x4080), hm, ⟨rfl, hL⟩⟩
         refine OW.cons (OP.no' rfl rfl hb4079 rfl ?_)
         refine OW.cons (OP.no' rfl rfl hb4079 rfl ?_)
         refine OW.cons (OP.no' rfl rfl hb4079 rfl ?_)
         refine OW.cons (OP.no' rfl rfl hb4079 rfl ?_)
         refine OW.cons (OP.no' rfl rfl hb4079 rfl ?_)
         refine OW.cons (OP.no' rfl rfl hb4079 rfl ?_)
         refine OW.cons (OP.no' rfl rfl hb4079 rfl ?_)
         refine OW.cons (OP.no' rfl rfl hb4079 rfl ?_)
         refine OV (.bool false) rfl (x_pickF' rfl hb4079 rfl) ?_
         refine OV (.bool false) rfl (x_assign) ?_
         refine OW.nil ?_
         have hL := hL.sel [1, 2, 5, 6] (by decide) rfl
         exact ⟨false, hm, ⟨rfl, hL⟩⟩
       refine OW.cons (OP.no' rfl rfl hb4078 rfl ?_)
       refine OW.cons (OP.no' rfl rfl hb4078 rfl ?_)
       refine OW.cons (OP.no' rfl rfl hb4078 rfl ?_)
       refine OV (.bool false) rfl (x_pickF' rfl hb4078 rfl) ?_
       refine OV (.bool false) rfl (x_move) ?_
       refine OW.cons (OP.no' rfl rfl rfl rfl ?_)
       refine OW.cons (OP.no' rfl rfl rfl rfl ?_)
       refine OW.cons (OP.no' rfl rfl rfl rfl ?_)
       refine OW.cons (OP.no' rfl rfl rfl rfl ?_)
       refine OW.cons (OP.no' rfl rfl rfl rfl ?_)
       refine OW.cons (OP.no' rfl rfl rfl rfl ?_)
       refine OW.cons (OP.no' rfl rfl rfl rfl ?_)
       refine OW.cons (OP.no' rfl rfl rfl rfl ?_)
       refine OV (.bool false) rfl (x_pickF' rfl rfl rfl) ?_
       refine OV (.bool false) rfl (x_assign) ?_
       refine OW.nil ?_
       have hL := hL.sel [1, 2, 5, 6] (by decide) rfl
       exact ⟨false, hm, ⟨rfl, hL⟩⟩
     refine OW.cons (OP.no' rfl rfl hb4077 rfl ?_)
     refine OW.cons (OP.no' rfl rfl hb4077 rfl ?_)
     refine OV (.bool false) rfl (x_pickF' rfl hb4077 rfl) ?_
     refine OV (.bool false) rfl (x_move) ?_
     refine OW.cons (OP.no' rfl rfl rfl rfl ?_)
     refine OW.cons (OP.no' rfl rfl rfl rfl ?_)
     refine OW.cons (OP.no' rfl rfl rfl rfl ?_)
     refine OV (.bool false) rfl (x_pickF' rfl rfl rfl) ?_
     refine OV (.bool false) rfl (x_move) ?_
     refine OW.cons (OP.no' rfl rfl rfl rfl ?_)
     refine OW.cons (OP.no' rfl rfl rfl rfl ?_)
     refine OW.cons (OP.no' rfl rfl rfl rfl ?_)
     refine OW.cons (OP.no' rfl rfl rfl rfl ?_)
     refine OW.cons (OP.no' rfl rfl rfl rfl ?_)
     refine OW.cons (OP.no' rfl rfl rfl rfl ?_)
     refine OW.cons (OP.no' rfl rfl rfl rfl ?_)
     refine OW.cons (OP.no' rfl rfl rfl rfl ?_)
     refine OV (.bool false) rfl (x_pickF' rfl rfl rfl) ?_
     refine OV (.bool false) rfl (x_assign) ?_
     refine OW.nil ?_
     have hL := hL.sel [1, 2, 5, 6] (by decide) rfl
     exact ⟨false, hm, ⟨rfl, hL⟩⟩
   intro s_j2 F4074 wd4075 hJ hm
   unfold M.laws_FnDiscards_j2 at hm
   obtain ⟨f4076, hL⟩ := hJ
   refine CW.ret ?_
   obtain rfl := Option.some.inj hm
   exact RR1 rfl f4076 ⟨rfl, hL.fresh 3 rfl [] (by decide) (by decide) rfl⟩
 intro s_l1 F4085 wd4086 t4050 hJ hm hr4051
 unfold M.laws_FnDiscards_l1 at hm
 obtain ⟨f4087, f4088, f4089, f4090, f4091, f4092, f4093, f4094, f4095, f4096, hL⟩ := hJ
 refine CW.seq ?_
 refine CSR ?_
 refine OV (.int .i64 s_l1.2) rfl (x_mv f4096) ?_
 refine OV (.pointer (some ⟨b27, 1, none⟩)) rfl (x_fieldAddr (fsz := 1) 0 1 1 U29 rfl Try_T22 rfl f4087 rfl) ?_
 refine OV v39 rfl (x_load1 U22 rfl rfl (hL.cellB 5 rfl rfl)) ?_
 refine OV (.int .i64 (x36.1.Points.length : Int)) rfl (x_lenR U22 rfl (hL.rdF 1 rfl ho48.1.rdL)) ?_
 refine OV (.bool (decide (s_l1.2 < (x36.1.Points.length : Int)))) rfl (x_lss rfl rfl) ?_
 refine OW.nil ?_
 refine CW.condM (t := decide (s_l1.2 < (x36.1.Points.length : Int))) rfl hm (fun hb4097 hm => ?_) (fun hb4097 hm => ?_)
 · refine CW.skip ?_
   refine CW.seqJ (fun (s_j3 : Int) (F : Fr) (w : World) => F 3 = (.pointer (some ⟨b27, 0, none⟩)) ∧ F 4 = v43 ∧ F 5 = (.int .i64 x36.2.2) ∧ F 6 = v32 ∧ F 8 = v57 ∧ F 10 = (.int .i64 x78.1) ∧ F 11 = (.int .i64 x78.2) ∧ F 13 = (.int .i64 x83.2) ∧ F 14 = (.int .i64 s_j3) ∧ F 15 = (.int .i64 s_l1.2) ∧ Hp w0 [Ent.own 2 S56 v57 x54.1, Ent.frzS wz47 S38, Ent.frzS wz49 S40, Ent.frzS wz51 S42, Ent.own 2 S31 v32 x29.1, Ent.blk b27 29 #[(.int .i64 x36.1.Boats), v39, v41], Ent.snap w0 w0.heap.size] w) (fun s_j3 => M.laws_FnDiscards_j3 s_l1 s_j3 = some t4050) ?_ ?_
   · refine CW.blockJ (fun (s_j4 : Int) (F : Fr) (w : World) => F 3 = (.pointer (some ⟨b27, 0, none⟩)) ∧ F 4 = v43 ∧ F 5 = (.int .i64 x36.2.2) ∧ F 6 = v32 ∧ F 8 = v57 ∧ F 10 = (.int .i64 x78.1) ∧ F 11 = (.int .i64 x78.2) ∧ F 13 = (.int .i64 x83.2) ∧ F 14 = (.int .i64 s_j4) ∧ F 15 = (.int .i64 s_l1.2) ∧ Hp w0 [Ent.own 2 S56 v57 x54.1, Ent.frzS wz47 S38, Ent.frzS wz49 S40, Ent.frzS wz51 S42, Ent.own 2 S31 v32 x29.1, Ent.blk b27 29 #[(.int .i64 x36.1.Boats), v39, v41], Ent.snap w0 w0.heap.size] w) (fun s_j4 => M.laws_FnDiscards_j4 s_l1 s_j4 = some t4050) ?_ ?_
     · refine CW.seq ?_
       refine CSR ?_
       refine OV v57 rfl (x_mv f4091) ?_
       refine OV (.int .i64 s_l1.2) rfl (x_mv f4096) ?_
       obtain ⟨x5592, hx5593, hm⟩ := bndE hm
       refine OW.cons (OP.call rfl (x_call (vs := [v57, (.int .i64 s_l1.2)]) Try_C43 ⟨rfl, rfl, trivial⟩) (M.laws_hasInt_ok _ x54.1 (hL.rdO 0 rfl) s_l1.2 hx5593) ?_)
       rintro e5594 wd5595 ⟨rfl, hF5596⟩
       refine ⟨_, rfl, ?_⟩
       have hL := hL.pushAll hF5596
       simp only [lA, lB, lC, lD] at hL
       refine OW.nil ?_
       refine CW.condM (t := x5592) rfl hm (fun hb5597 hm => ?_) (fun hb5597 hm => ?_)
       · refine CSR ?_
         refine OV (.int .i64 s_l1.1) rfl (x_mv f4095) ?_
         refine OV (.pointer (some ⟨b27, 1, none⟩)) rfl (x_fieldAddr (fsz := 1) 0 1 1 U29 rfl Try_T22 rfl f4087 rfl) ?_
         refine OV v39 rfl (x_load1 U22 rfl rfl (hL.cellB 5 rfl rfl)) ?_
         refine OV (.int .i64 s_l1.2) rfl (x_mv f4096) ?_
         obtain ⟨x5598, ha5599, hm⟩ := bndE hm
         obtain ⟨hz5600, ha5608⟩ := idxE ha5599
         obtain ⟨b5601, q5602, v5603, hix5604, hs5605, hc5606, hr5607⟩ := rdN_at ho48.1.rdL hz5600 ha5608
         refine OV (.pointer (some ⟨b5601, q5602, none⟩)) rfl (x_ix U22 Try_T25 rfl rfl hix5604) ?_
         refine OV v5603 rfl (x_load1 U25 rfl rfl (hL.cellF 1 rfl hs5605 hc5606)) ?_
         refine OV (.int .i64 x36.2.2) rfl (x_mv f4089) ?_
         obtain ⟨x5609, ha5610, hm⟩ := bndE hm
         obtain ⟨hz5611, ha5615⟩ := idxE ha5610
         obtain ⟨b5612, q5613, hix5614⟩ := rdL_ix (hL.rdF 1 rfl hr5607) hz5611 ha5615
         refine OV (.pointer (some ⟨b5612, q5613, none⟩)) rfl (x_ix U25 Try_T2 rfl rfl hix5614) ?_
         refine OV (.int .i64 x5609) rfl (x_load1 U2 rfl rfl (rdF_cells (hL.rdF 1 rfl hr5607) hix5614 ha5615 0 _ rfl)) ?_
         refine OV (.int .i64 (w64 (s_l1.1 - x5609))) rfl (x_sub rfl rfl) ?_
         refine OV (.int .i64 (w64 (s_l1.1 - x5609))) rfl (x_assign) ?_
         refine OW.nil ?_
         refine CW.exit ?_
         refine XJ.hit ?_
         exact ⟨w64 (s_l1.1 - x5609), hm, ⟨f4087, f4088, f4089, f4090, f4091, f4092, f4093, f4094, rfl, f4096, hL⟩⟩
       refine CW.skip ?_
       refine CSR ?_
       refine OV (.int .i64 0) rfl (x_assign) ?_
       refine OW.nil ?_
       obtain ⟨o5906, ho5907, hm⟩ := bndE hm
       refine CW.loopB (fun (s_l2 : Int) (F : Fr) (w : World) => F 3 = (.pointer (some ⟨b27, 0, none⟩)) ∧ F 4 = v43 ∧ F 5 = (.int .i64 x36.2.2) ∧ F 6 = v32 ∧ F 8 = v57 ∧ F 10 = (.int .i64 x78.1) ∧ F 11 = (.int .i64 x78.2) ∧ F 13 = (.int .i64 x83.2) ∧ F 14 = (.int .i64 s_l1.1) ∧ F 15 = (.int .i64 s_l1.2) ∧ F 16 = (.int .i64 s_l2) ∧ Hp w0 [Ent.own 2 S56 v57 x54.1, Ent.frzS wz47 S38, Ent.frzS wz49 S40, Ent.frzS wz51 S42, Ent.own 2 S31 v32 x29.1, Ent.blk b27 29 #[(.int .i64 x36.1.Boats), v39, v41], Ent.snap w0 w0.heap.size] w) (fun o => outc o (fun x => some (.ret x)) (fun s => M.laws_FnDiscards_a2 s_l1 s) = some t4050) ho5907 hm ⟨f4087, f4088, f4089, f4090, f4091, f4092, f4093, f4094, f4095, f4096, rfl, hL⟩ ?_ ?_
       · intro s_l2 F5908 wd5909 hJ hm
         have hm := outcE hm
         have hm : M.laws_FnDiscards_a2 s_l1 s_l2 = some t4050 := hm
         unfold M.laws_FnDiscards_a2 at hm
         obtain ⟨f5910, f5911, f5912, f5913, f5914, f5915, f5916, f5917, f5918, f5919, f5920, hL⟩ := hJ
         exact ⟨s_l1.1, hm, ⟨f5910, f5911, f5912, f5913, f5914, f5915, f5916, f5917, f5918, f5919, hL⟩⟩
       intro s_l2 F5921 wd5922 t5904 hJ hm hr5905
       unfold M.laws_FnDiscards_l2 at hm
       obtain ⟨f5923, f5924, f5925, f5926, f5927, f5928, f5929, f5930, f5931, f5932, f5933, hL⟩ := hJ
       refine CW.seq ?_
       refine CSR ?_
       refine OV (.int .i64 s_l2) rfl (x_mv f5933) ?_
       refine OV v57 rfl (x_mv f5927) ?_
       refine OV (.int .i64 (x54.1.length : Int)) rfl (x_lenR U25 rfl (hL.rdO 0 rfl)) ?_
       refine OV (.bool (decide (s_l2 < (x54.1.length : Int)))) rfl (x_lss rfl rfl) ?_
       refine OW.nil ?_
       refine CW.condM (t := decide (s_l2 < (x54.1.length : Int))) rfl hm (fun hb5934 hm => ?_) (fun hb5934 hm => ?_)
       · refine CW.skip ?_
         refine CW.seq ?_
         refine CW.block ?_
         refine CW.seqJ (fun (s_j5 : Bool) (F : Fr) (w : World) => F 3 = (.pointer (some ⟨b27, 0, none⟩)) ∧ F 4 = v43 ∧ F 5 = (.int .i64 x36.2.2) ∧ F 6 = v32 ∧ F 8 = v57 ∧ F 10 = (.int .i64 x78.1) ∧ F 11 = (.int .i64 x78.2) ∧ F 13 = (.int .i64 x83.2) ∧ F 14 = (.int .i64 s_l1.1) ∧ F 15 = (.int .i64 s_l1.2) ∧ F 16 = (.int .i64 s_l2) ∧ F 126 = (.bool s_j5) ∧ Hp w0 [Ent.own 2 S56 v57 x54.1, Ent.frzS wz47 S38, Ent.frzS wz49 S40, Ent.frzS wz51 S42, Ent.own 2 S31 v32 x29.1, Ent.blk b27 29 #[(.int .i64 x36.1.Boats), v39, v41], Ent.snap w0 w0.heap.size] w) (fun s_j5 => M.laws_FnDiscards_j5 s_l2 s_j5 = some t5904) ?_ ?_
         · refine CW.draw Try_mixed ?_
           have hL := hL.call (Mod.drew _)
           refine DW.pre (fuel := 0) (fin := bma 31 2147483647) (C := fun w' => Mod None_ _ w') [0, 1, 2, 3, 4, 5, 6, 7, 8, 9, 10, 11, 12, 13, 14, 15, 16, 17, 18, 19, 20, 21, 22, 23, 24, 25, 26, 27, 28, 29, 30] (Mod.refl _ _) (by kernel_rfl) (by kernel_rfl) ?_
           refine QW.cons rfl (QP.val (v := (.pointer (some ⟨b27, 2, none⟩))) rfl (fun w' hm' => x_fieldAddr (fsz := 1) 0 2 2 U29 rfl Try_T22 rfl f5923 rfl) ?_)
           refine QW.cons rfl (QP.val (v := v41) rfl (fun w' hm' => x_load1 U22 rfl rfl ((hL.call hm').cellB 5 rfl rfl)) ?_)
           refine QW.cons rfl (QP.val (v := (.int .i64 s_l1.2)) rfl (fun w' hm' => x_mv f5932) ?_)
           obtain ⟨x6014, ha6015, hm⟩ := bndE hm
           obtain ⟨hz6016, ha6024⟩ := idxE ha6015
           obtain ⟨b6017, q6018, v6019, hix6020, hs6021, hc6022, hr6023⟩ := rdN_at ho50.1.rdL hz6016 ha6024
           refine QW.cons rfl (QP.val (v := (.pointer (some ⟨b6017, q6018, none⟩))) rfl (fun w' hm' => x_ix U22 Try_T25 rfl rfl hix6020) ?_)
           refine QW.cons rfl (QP.val (v := v6019) rfl (fun w' hm' => x_load1 U25 rfl rfl ((hL.call hm').cellF 2 rfl hs6021 hc6022)) ?_)
           refine QW.cons rfl (QP.val (v := (.int .i64 x36.2.2)) rfl (fun w' hm' => x_mv f5925) ?_)
           obtain ⟨x6025, ha6026, hm⟩ := bndE hm
           obtain ⟨hz6027, ha6031⟩ := idxE ha6026
           obtain ⟨b6028, q6029, hix6030⟩ := rdL_ix (hL.rdF 2 rfl hr6023) hz6027 ha6031
           refine QW.cons rfl (QP.val (v := (.pointer (some ⟨b6028, q6029, none⟩))) rfl (fun w' hm' => x_ix U25 Try_T2 rfl rfl hix6030) ?_)
           refine QW.cons rfl (QP.val (v := (.int .i64 x6025)) rfl (fun w' hm' => x_load1 U2 rfl rfl (rdF_cells ((hL.call hm').rdF 2 rfl hr6023) hix6030 ha6031 0 _ rfl)) ?_)
           refine QW.cons rfl (QP.val (v := (.bool (x6025 != 7))) rfl (fun w' hm' => x_neq rfl rfl) ?_)
           refine QW.cons rfl (QP.val (v := (.bool (x6025 != 7))) rfl (fun w' hm' => x_move) ?_)
           refine ifB_elim hm (fun hb6032 hm => ?_) (fun hb6032 hm => ?_)
           · refine QW.cons rfl (QP.yes' rfl rfl hb6032 (QP.val (v := (.pointer (some ⟨b27, 1, none⟩))) rfl (fun w' hm' => x_fieldAddr (fsz := 1) 0 1 1 U29 rfl Try_T22 rfl f5923 rfl) ?_))
             refine QW.cons rfl (QP.yes' rfl rfl hb6032 (QP.val (v := v39) rfl (fun w' hm' => x_load1 U22 rfl rfl ((hL.call hm').cellB 5 rfl rfl)) ?_))
             refine QW.cons rfl (QP.yes' rfl rfl hb6032 (QP.val (v := (.int .i64 s_l1.2)) rfl (fun w' hm' => x_mv f5932) ?_))
             obtain ⟨x6033, ha6034, hm⟩ := bndE hm
             obtain ⟨hz6035, ha6043⟩ := idxE ha6034
             obtain ⟨b6036, q6037, v6038, hix6039, hs6040, hc6041, hr6042⟩ := rdN_at ho48.1.rdL hz6035 ha6043
             refine QW.cons rfl (QP.yes' rfl rfl hb6032 (QP.val (v := (.pointer (some ⟨b6036, q6037, none⟩))) rfl (fun w' hm' => x_ix U22 Try_T25 rfl rfl hix6039) ?_))
             refine QW.cons rfl (QP.yes' rfl rfl hb6032 (QP.val (v := v6038) rfl (fun w' hm' => x_load1 U25 rfl rfl ((hL.call hm').cellF 1 rfl hs6040 hc6041)) ?_))
             refine QW.cons rfl (QP.yes' rfl rfl hb6032 (QP.val (v := (.int .i64 x36.2.2)) rfl (fun w' hm' => x_mv f5925) ?_))
             obtain ⟨x6044, ha6045, hm⟩ := bndE hm
             obtain ⟨hz6046, ha6050⟩ := idxE ha6045
             obtain ⟨b6047, q6048, hix6049⟩ := rdL_ix (hL.rdF 1 rfl hr6042) hz6046 ha6050
             refine QW.cons rfl (QP.yes' rfl rfl hb6032 (QP.val (v := (.pointer (some ⟨b6047, q6048, none⟩))) rfl (fun w' hm' => x_ix U25 Try_T2 rfl rfl hix6049) ?_))
             refine QW.cons rfl (QP.yes' rfl rfl hb6032 (QP.val (v := (.int .i64 x6044)) rfl (fun w' hm' => x_load1 U2 rfl rfl (rdF_cells ((hL.call hm').rdF 1 rfl hr6042) hix6049 ha6050 0 _ rfl)) ?_))
             refine QW.cons rfl (QP.yes' rfl rfl hb6032 (QP.val (v := (.pointer (some ⟨b27, 1, none⟩))) rfl (fun w' hm' => x_fieldAddr (fsz := 1) 0 1 1 U29 rfl Try_T22 rfl f5923 rfl) ?_))
             refine QW.cons rfl (QP.yes' rfl rfl hb6032 (QP.val (v := v39) rfl (fun w' hm' => x_load1 U22 rfl rfl ((hL.call hm').cellB 5 rfl rfl)) ?_))
             refine QW.cons rfl (QP.yes' rfl rfl hb6032 (QP.val (v := v57) rfl (fun w' hm' => x_mv f5927) ?_))
             refine QW.cons rfl (QP.yes' rfl rfl hb6032 (QP.val (v := (.int .i64 s_l2)) rfl (fun w' hm' => x_mv f5933) ?_))
             obtain ⟨x6051, ha6052, hm⟩ := bndE hm
             obtain ⟨hz6053, ha6057⟩ := idxE ha6052
             obtain ⟨b6054, q6055, hix6056⟩ := rdL_ix (hL.rdO 0 rfl) hz6053 ha6057
             refine QW.cons rfl (QP.yes' rfl rfl hb6032 (QP.val (v := (.pointer (some ⟨b6054, q6055, none⟩))) rfl (fun w' hm' => x_ix U25 Try_T2 rfl rfl hix6056) ?_))
             refine QW.cons rfl (QP.yes' rfl rfl hb6032 (QP.val (v := (.int .i64 x6051)) rfl (fun w' hm' => x_load1 U2 rfl rfl (rdF_cells ((hL.call hm').rdO 0 rfl) hix6056 ha6057 0 _ rfl)) ?_))
             obtain ⟨x6058, ha6059, hm⟩ := bndE hm
             obtain ⟨hz6060, ha6068⟩ := idxE ha6059
             obtain ⟨b6061, q6062, v6063, hix6064, hs6065, hc6066, hr6067⟩ := rdN_at ho48.1.rdL hz6060 ha6068
             refine QW.cons rfl (QP.yes' rfl rfl hb6032 (QP.val (v := (.pointer (some ⟨b6061, q6062, none⟩))) rfl (fun w' hm' => x_ix U22 Try_T25 rfl rfl hix6064) ?_))
             refine QW.cons rfl (QP.yes' rfl rfl hb6032 (QP.val (v := v6063) rfl (fun w' hm' => x_load1 U25 rfl rfl ((hL.call hm').cellF 1 rfl hs6065 hc6066)) ?_))
             refine QW.cons rfl (QP.yes' rfl rfl hb6032 (QP.val (v := (.int .i64 x36.2.2)) rfl (fun w' hm' => x_mv f5925) ?_))
             obtain ⟨x6069, ha6070, hm⟩ := bndE hm
             obtain ⟨hz6071, ha6075⟩ := idxE ha6070
             obtain ⟨b6072, q6073, hix6074⟩ := rdL_ix (hL.rdF 1 rfl hr6067) hz6071 ha6075
             refine QW.cons rfl (QP.yes' rfl rfl hb6032 (QP.val (v := (.pointer (some ⟨b6072, q6073, none⟩))) rfl (fun w' hm' => x_ix U25 Try_T2 rfl rfl hix6074) ?_))
             refine QW.cons rfl (QP.yes' rfl rfl hb6032 (QP.val (v := (.int .i64 x6069)) rfl (fun w' hm' => x_load1 U2 rfl rfl (rdF_cells ((hL.call hm').rdF 1 rfl hr6067) hix6074 ha6075 0 _ rfl)) ?_))
             refine QW.cons rfl (QP.yes' rfl rfl hb6032 (QP.val (v := (.bool (decide (x6069 < x6044)))) rfl (fun w' hm' => x_gtr rfl rfl) ?_))
             refine QW.cons rfl (QP.val (v := (.bool (decide (x6069 < x6044)))) rfl (fun w' hm' => x_pickT' rfl hb6032 rfl) ?_)
             refine QW.nil ?_
             intro wd6076 hmod
             have hL := hL.call hmod
             refine DW.done (by kernel_rfl) ?_
             exact ⟨decide (x6069 < x6044), hm, ⟨f5923, f5924, f5925, f5926, f5927, f5928, f5929, f5930, f5931, f5932, f5933, rfl, hL⟩⟩
           refine QW.cons rfl (QP.no' rfl rfl hb6032 rfl ?_)
           refine QW.cons rfl (QP.no' rfl rfl hb6032 rfl ?_)
           refine QW.cons rfl (QP.no' rfl rfl hb6032 rfl ?_)
           refine QW.cons rfl (QP.no' rfl rfl hb6032 rfl ?_)
           refine QW.cons rfl (QP.no' rfl rfl hb6032 rfl ?_)
           refine QW.cons rfl (QP.no' rfl rfl hb6032 rfl ?_)
           refine QW.cons rfl (QP.no' rfl rfl hb6032 rfl ?_)
           refine QW.cons rfl (QP.no' rfl rfl hb6032 rfl ?_)
           refine QW.cons rfl (QP.no' rfl rfl hb6032 rfl ?_)
           refine QW.cons rfl (QP.no' rfl rfl hb6032 rfl ?_)
           refine QW.cons rfl (QP.no' rfl rfl hb6032 rfl ?_)
           refine QW.cons rfl (QP.no' rfl rfl hb6032 rfl ?_)
           refine QW.cons rfl (QP.no' rfl rfl hb6032 rfl ?_)
           refine QW.cons rfl (QP.no' rfl rfl hb6032 rfl ?_)
           refine QW.cons rfl (QP.no' rfl rfl hb6032 rfl ?_)
           refine QW.cons rfl (QP.no' rfl rfl hb6032 rfl ?_)
           refine QW.cons rfl (QP.no' rfl rfl hb6032 rfl ?_)
           refine QW.cons rfl (QP.no' rfl rfl hb6032 rfl ?_)
           refine QW.cons rfl (QP.no' rfl rfl hb6032 rfl ?_)
           refine QW.cons rfl (QP.no' rfl rfl hb6032 rfl ?_)
           refine QW.cons rfl (QP.val (v := (.bool false)) rfl (fun w' hm' => x_pickF' rfl hb6032 rfl) ?_)
           refine QW.nil ?_
           intro wd6077 hmod
           have hL := hL.call hmod
           refine DW.done (by kernel_rfl) ?_
           exact ⟨false, hm, ⟨f5923, f5924, f5925, f5926, f5927, f5928, f5929, f5930, f5931, f5932, f5933, rfl, hL⟩⟩
         intro s_j5 F5999 wd6000 hJ hm
         unfold M.laws_FnDiscards_j5 at hm
         obtain ⟨f6001, f6002, f6003, f6004, f6005, f6006, f6007, f6008, f6009, f6010, f6011, f6012, hL⟩ := hJ
         refine CW.condM (t := s_j5) f6012 hm (fun hb6013 hm => ?_) (fun hb6013 hm => ?_)
         · refine CSR ?_
           refine OV (.bool false) rfl (x_assign) ?_
           refine OW.nil ?_
           refine CW.ret ?_
           obtain rfl := Option.some.inj hm
           have hm := hr5905 _ rfl
           obtain rfl := Option.some.inj hm
           have hm := hr4051 _ rfl
           obtain rfl := Option.some.inj hm
           exact RR1 rfl rfl ⟨rfl, hL.fresh 6 rfl [] (by decide) (by decide) rfl⟩
         refine CW.skip ?_
         refine CW.regionL ?_
         refine OV (.int .i64 s_l2) rfl (x_mv f6011) ?_
         refine OV (.int .i64 (w64 (s_l2 + 1))) rfl (x_add rfl rfl) ?_
         refine OV (.int .i64 (w64 (s_l2 + 1))) rfl (x_assign) ?_
         refine OW.nil ?_
         obtain rfl := Option.some.inj hm
         exact ⟨_, rfl, ⟨f6001, f6002, f6003, f6004, f6005, f6006, f6007, f6008, f6009, f6010, rfl, hL⟩⟩
       refine CW.exit ?_
       refine XJ.hit ?_
       obtain rfl := Option.some.inj hm
       exact ⟨_, rfl, ⟨f5923, f5924, f5925, f5926, f5927, f5928, f5929, f5930, f5931, f5932, f5933, hL⟩⟩
     intro s_j4 F5580 wd5581 hJ hm
     unfold M.laws_FnDiscards_j4 at hm
     obtain ⟨f5582, f5583, f5584, f5585, f5586, f5587, f5588, f5589, f5590, f5591, hL⟩ := hJ
     exact ⟨s_j4, hm, ⟨f5582, f5583, f5584, f5585, f5586, f5587, f5588, f5589, f5590, f5591, hL⟩⟩
   intro s_j3 F5082 wd5083 hJ hm
   unfold M.laws_FnDiscards_j3 at hm
   obtain ⟨f5084, f5085, f5086, f5087, f5088, f5089, f5090, f5091, f5092, f5093, hL⟩ := hJ
   refine CW.regionL ?_
   refine OV (.int .i64 s_l1.2) rfl (x_mv f5093) ?_
   refine OV (.int .i64 (w64 (s_l1.2 + 1))) rfl (x_add rfl rfl) ?_
   refine OV (.int .i64 (w64 (s_l1.2 + 1))) rfl (x_assign) ?_
   refine OW.nil ?_
   obtain rfl := Option.some.inj hm
   exact ⟨_, rfl, ⟨f5084, f5085, f5086, f5087, f5088, f5089, f5090, f5091, f5092, rfl, hL⟩⟩
 refine CW.exit ?_
 refine XJ.hit ?_
 obtain rfl := Option.some.inj hm
 exact ⟨_, rfl, ⟨f4087, f4088, f4089, f4090, f4091, f4092, f4093, f4094, f4095, f4096, hL⟩⟩

end Go.Proofs.Ytpobaajdhfoomaa
