/- Links: each Go function returns what its model computes and leaves what was there. Printed by my generator. -/
import Derived.Test.YtpobaajdhfoomaaLnkFnChainC
namespace Go.Proofs.Ytpobaajdhfoomaa
set_option maxRecDepth 10000
open Go Go.RowKit Go.ChangeShapes Go.WideShapes
set_option linter.unusedVariables false
set_option linter.unusedSimpArgs false

theorem M.laws_FnChain_ok (w0 : World) (a0 : List UInt8) {v1 : Value} (h2 : rdL (· < w0.heap.size) w0 v1 a0) {r : Bool} (hm : M.laws_FnChain a0 = some r) :
    Calls Try.prog 11 #[v1] w0 fun e w' => e = .returned (.bool r) ∧ Fresh w0 w' [] := by
 unfold M.laws_FnChain at hm
 refine calls_CW (args := [v1]) Try.func11 rfl rfl rfl ?_
 have hL := Hp.start w0
 refine CSR ?_
 refine OV (.bool false) rfl (x_assign) ?_
 refine ONS ?_
 refine CSR ?_
 refine OV v1 rfl (x_move) ?_
 obtain ⟨x3, hx4, hm⟩ := bndE hm
 refine OW.cons (OP.call rfl (x_call (vs := [v1]) Try_C36 ⟨rfl, trivial⟩) (M.laws_big_ok _ a0 (hL.rdS 0 rfl h2) hx4) ?_)
 rintro e5 wd6 ⟨rfl, hF7⟩
 refine ⟨_, rfl, ?_⟩
 have hL := hL.pushAll hF7
 simp only [lA, lB, lC, lD] at hL
 refine OW.nil ?_
 refine CW.condM (t := x3) rfl hm (fun hb8 hm => ?_) (fun hb8 hm => ?_)
 · refine CSR ?_
   refine OV (.bool true) rfl (x_assign) ?_
   refine OW.nil ?_
   refine CW.ret ?_
   obtain rfl := Option.some.inj hm
   exact RR1 rfl rfl ⟨rfl, hL.fresh 0 rfl [] (by decide) (by decide) rfl⟩
 refine CW.skip ?_
 refine CSR ?_
 refine OV v1 rfl (x_move) ?_
 obtain ⟨x9, hx10, hm⟩ := bndE hm
 refine OW.cons (OP.call rfl (x_call (vs := [v1]) Try_C51 ⟨rfl, trivial⟩) (M.spec_DrawCompareBoats_ok _ a0 (hL.rdS 0 rfl h2) hx10) ?_)
 rintro e17 wd18 ⟨v12, S11, v14, S13, v16, S15, rfl, hF19⟩
 refine ⟨_, rfl, ?_⟩
 have hL := hL.pushAll hF19
 simp only [lA, lB, lC, lD] at hL
 obtain ⟨wz20, hL, ho21⟩ := hL.rdxFz 0 rfl
 simp only [lC, lD] at hL
 obtain ⟨wz22, hL, ho23⟩ := hL.rdxFz 1 rfl
 simp only [lC, lD] at hL
 obtain ⟨wz24, hL, ho25⟩ := hL.rdxFz 2 rfl
 simp only [lC, lD] at hL
 refine OV (.tuple #[(.agg #[(.int .i64 x9.1.Boats), v12, v14]), v16, (.int .i64 x9.2.2.1), (.int .i64 x9.2.2.2)]) rfl (x_move) ?_
 refine OV (.agg #[(.int .i64 x9.1.Boats), v12, v14]) rfl (x_extract rfl rfl) ?_
 refine OV v16 rfl (x_extract rfl rfl) ?_
 refine OV (.int .i64 x9.2.2.1) rfl (x_extract rfl rfl) ?_
 refine OV (.int .i64 x9.2.2.2) rfl (x_extract rfl rfl) ?_
 refine OW.cons (S_alloc (cs := #[(.int .i64 0), (.slice none 0 0), (.slice none 0 0)]) hL Try_T29 rfl rfl ?_)
 intro wd26 b27 hL
 refine OW.cons (S_storeN (l := [(.int .i64 x9.1.Boats), v12, v14]) (cs' := #[(.int .i64 x9.1.Boats), v12, v14]) hL 0 rfl Try_T29 rfl rfl (List.forall_mem_cons.2 ⟨rfl, (List.forall_mem_cons.2 ⟨rdL_one (hL.rdF 1 rfl ho21.1.rdL), (List.forall_mem_cons.2 ⟨rdL_one (hL.rdF 2 rfl ho23.1.rdL), (fun _ h => by cases h)⟩)⟩)⟩) rfl (Nat.le_of_ble_eq_true rfl) rfl ?_)
 intro wd28 hL
 refine OV v16 rfl (x_assign) ?_
 refine OV (.int .i64 x9.2.2.1) rfl (x_assign) ?_
 refine OV (.int .i64 x9.2.2.2) rfl (x_assign) ?_
 refine ONR ?_
 refine OV (.agg #[(.int .i64 x9.1.Boats), v12, v14]) rfl (x_loadN (cs := [(.int .i64 x9.1.Boats), v12, v14]) U29 Try_T29 rfl rfl (hL.cellsB 0 rfl (o := 0) (l := [(.int .i64 x9.1.Boats), v12, v14]) (by intro j u hj; exact (by simpa using hj)))) ?_
 refine OV v16 rfl (x_move) ?_
 refine OV (.int .i64 x9.2.2.1) rfl (x_move) ?_
 refine OV (.int .i64 x9.2.2.2) rfl (x_move) ?_
 obtain ⟨x29, hx30, hm⟩ := bndE hm
 refine OW.cons (OP.call rfl (x_call (vs := [(.agg #[(.int .i64 x9.1.Boats), v12, v14]), v16, (.int .i64 x9.2.2.1), (.int .i64 x9.2.2.2)]) Try_C17 ⟨rfl, rfl, rfl, rfl, trivial⟩) (M.impl_CompareBoats_ok _ x9.1 (hL.rdF 1 rfl ho21.1.rdL) (hL.rdF 2 rfl ho23.1.rdL) x9.2.1 (hL.rdF 3 rfl ho25.1.rdL) x9.2.2.1 x9.2.2.2 hx30) ?_)
 rintro e31 wd32 ⟨rfl, hF33⟩
 refine ⟨_, rfl, ?_⟩
 have hL := hL.pushAll hF33
 simp only [lA, lB, lC, lD] at hL
 refine OV (.tuple #[(.int .i64 x29.1), (.int .i64 x29.2.1), (.int .i64 x29.2.2)]) rfl (x_move) ?_
 refine OV (.int .i64 x29.1) rfl (x_extract rfl rfl) ?_
 refine OV (.int .i64 x29.2.1) rfl (x_extract rfl rfl) ?_
 refine OV (.int .i64 x29.2.2) rfl (x_extract rfl rfl) ?_
 refine OV (.int .i64 x29.1) rfl (x_assign) ?_
 refine OV (.int .i64 x29.2.1) rfl (x_assign) ?_
 refine OV (.int .i64 x29.2.2) rfl (x_assign) ?_
 refine ONR ?_
 refine OV v1 rfl (x_move) ?_
 obtain ⟨x34, hx35, hm⟩ := bndE hm
 refine OW.cons (OP.call rfl (x_call (vs := [v1]) Try_C51 ⟨rfl, trivial⟩) (M.spec_DrawCompareBoats_ok _ a0 (hL.rdS 4 rfl h2) hx35) ?_)
 rintro e42 wd43 ⟨v37, S36, v39, S38, v41, S40, rfl, hF44⟩
 refine ⟨_, rfl, ?_⟩
 have hL := hL.pushAll hF44
 simp only [lA, lB, lC, lD] at hL
 obtain ⟨wz45, hL, ho46⟩ := hL.rdxFz 0 rfl
 simp only [lC, lD] at hL
 obtain ⟨wz47, hL, ho48⟩ := hL.rdxFz 1 rfl
 simp only [lC, lD] at hL
 obtain ⟨wz49, hL, ho50⟩ := hL.rdxFz 2 rfl
 simp only [lC, lD] at hL
 refine OV (.tuple #[(.agg #[(.int .i64 x34.1.Boats), v37, v39]), v41, (.int .i64 x34.2.2.1), (.int .i64 x34.2.2.2)]) rfl (x_move) ?_
 refine OV (.agg #[(.int .i64 x34.1.Boats), v37, v39]) rfl (x_extract rfl rfl) ?_
 refine OV v41 rfl (x_extract rfl rfl) ?_
 refine OV (.int .i64 x34.2.2.1) rfl (x_extract rfl rfl) ?_
 refine OV (.int .i64 x34.2.2.2) rfl (x_extract rfl rfl) ?_
 refine OW.cons (S_storeN (l := [(.int .i64 x34.1.Boats), v37, v39]) (cs' := #[(.int .i64 x34.1.Boats), v37, v39]) hL 3 rfl Try_T29 rfl rfl (List.forall_mem_cons.2 ⟨rfl, (List.forall_mem_cons.2 ⟨rdL_one (hL.rdF 0 rfl ho46.1.rdL), (List.forall_mem_cons.2 ⟨rdL_one (hL.rdF 1 rfl ho48.1.rdL), (fun _ h => by cases h)⟩)⟩)⟩) rfl (Nat.le_of_ble_eq_true rfl) rfl ?_)
 intro wd51 hL
 refine OV v41 rfl (x_assign) ?_
 refine OV (.int .i64 x34.2.2.1) rfl (x_assign) ?_
 refine OV (.int .i64 x34.2.2.2) rfl (x_assign) ?_
 refine ONR ?_
 refine OV (.agg #[(.int .i64 x34.1.Boats), v37, v39]) rfl (x_loadN (cs := [(.int .i64 x34.1.Boats), v37, v39]) U29 Try_T29 rfl rfl (hL.cellsB 3 rfl (o := 0) (l := [(.int .i64 x34.1.Boats), v37, v39]) (by intro j u hj; exact (by simpa using hj)))) ?_
 refine OV v41 rfl (x_move) ?_
 refine OV (.int .i64 x34.2.2.1) rfl (x_move) ?_
 refine OV (.int .i64 x34.2.2.2) rfl (x_move) ?_
 obtain ⟨x52, hx53, hm⟩ := bndE hm
 refine OW.cons (OP.call rfl (x_call (vs := [(.agg #[(.int .i64 x34.1.Boats), v37, v39]), v41, (.int .i64 x34.2.2.1), (.int .i64 x34.2.2.2)]) Try_C14 ⟨rfl, rfl, rfl, rfl, trivial⟩) (M.spec_CompareBoats_ok _ x34.1 (hL.rdF 0 rfl ho46.1.rdL) (hL.rdF 1 rfl ho48.1.rdL) x34.2.1 (hL.rdF 2 rfl ho50.1.rdL) x34.2.2.1 x34.2.2.2 hx53) ?_)
 rintro e54 wd55 ⟨rfl, hF56⟩
 refine ⟨_, rfl, ?_⟩
 have hL := hL.pushAll hF56
 simp only [lA, lB, lC, lD] at hL
 refine OV (.tuple #[(.int .i64 x52.1), (.int .i64 x52.2.1), (.int .i64 x52.2.2)]) rfl (x_move) ?_
 refine OV (.int .i64 x52.1) rfl (x_extract rfl rfl) ?_
 refine OV (.int .i64 x52.2.1) rfl (x_extract rfl rfl) ?_
 refine OV (.int .i64 x52.2.2) rfl (x_extract rfl rfl) ?_
 refine OV (.int .i64 x52.1) rfl (x_assign) ?_
 refine OV (.int .i64 x52.2.1) rfl (x_assign) ?_
 refine OV (.int .i64 x52.2.2) rfl (x_assign) ?_
 refine ONS ?_
 refine CW.seqJ (fun (s_j1 : Bool) (F : Fr) (w : World) => F 3 = (.pointer (some ⟨b27, 0, none⟩)) ∧ F 4 = v41 ∧ F 5 = (.int .i64 x34.2.2.1) ∧ F 6 = (.int .i64 x34.2.2.2) ∧ F 7 = (.int .i64 x29.1) ∧ F 8 = (.int .i64 x29.2.1) ∧ F 9 = (.int .i64 x29.2.2) ∧ F 70 = (.bool s_j1) ∧ Hp w0 [Ent.frzS wz45 S36, Ent.frzS wz47 S38, Ent.frzS wz49 S40, Ent.blk b27 29 #[(.int .i64 x34.1.Boats), v37, v39], Ent.snap w0 w0.heap.size] w) (fun s_j1 => M.laws_FnChain_j1 x29 x34 s_j1 = some r) ?_ ?_
 · refine CW.regionL ?_
   refine OV (.int .i64 x29.2.2) rfl (x_move) ?_
   refine OV (.int .i64 x52.2.2) rfl (x_move) ?_
   refine OV (.bool (x29.2.2 != x52.2.2)) rfl (x_neq rfl rfl) ?_
   refine OV (.bool (x29.2.2 != x52.2.2)) rfl (x_move) ?_
   refine ifB_elim hm (fun hb137 hm => ?_) (fun hb137 hm => ?_)
   · refine OW.cons (OP.no' rfl rfl hb137 rfl ?_)
     refine OW.cons (OP.no' rfl rfl hb137 rfl ?_)
     refine OW.cons (OP.no' rfl rfl hb137 rfl ?_)
     refine OV (.bool true) rfl (x_pickT' rfl hb137 rfl) ?_
     refine OV (.bool true) rfl (x_move) ?_
     refine OW.cons (OP.no' rfl rfl rfl rfl ?_)
     refine OW.cons (OP.no' rfl rfl rfl rfl ?_)
     refine OW.cons (OP.no' rfl rfl rfl rfl ?_)
     refine OV (.bool true) rfl (x_pickT' rfl rfl rfl) ?_
     refine OW.nil ?_
     have hL := hL.sel [0, 1, 2, 3, 7] (by decide) rfl
     exact ⟨true, hm, ⟨rfl, rfl, rfl, rfl, rfl, rfl, rfl, rfl, hL⟩⟩
   refine OW.cons (OP.yes' rfl rfl hb137 (OP.val (v := (.int .i64 x29.1)) rfl (x_move) ?_))
   refine OW.cons (OP.yes' rfl rfl hb137 (OP.val (v := (.int .i64 x52.1)) rfl (x_move) ?_))
   refine OW.cons (OP.yes' rfl rfl hb137 (OP.val (v := (.bool (x29.1 != x52.1))) rfl (x_neq rfl rfl) ?_))
   refine OV (.bool (x29.1 != x52.1)) rfl (x_pickF' rfl hb137 rfl) ?_
   refine OV (.bool (x29.1 != x52.1)) rfl (x_move) ?_
   refine ifB_elim hm (fun hb138 hm => ?_) (fun hb138 hm => ?_)
   · refine OW.cons (OP.no' rfl rfl hb138 rfl ?_)
     refine OW.cons (OP.no' rfl rfl hb138 rfl ?_)
     refine OW.cons (OP.no' rfl rfl hb138 rfl ?_)
     refine OV (.bool true) rfl (x_pickT' rfl hb138 rfl) ?_
     refine OW.nil ?_
     have hL := hL.sel [0, 1, 2, 3, 7] (by decide) rfl
     exact ⟨true, hm, ⟨rfl, rfl, rfl, rfl, rfl, rfl, rfl, rfl, hL⟩⟩
   refine OW.cons (OP.yes' rfl rfl hb138 (OP.val (v := (.int .i64 x29.2.1)) rfl (x_move) ?_))
   refine OW.cons (OP.yes' rfl rfl hb138 (OP.val (v := (.int .i64 x52.2.1)) rfl (x_move) ?_))
   refine OW.cons (OP.yes' rfl rfl hb138 (OP.val (v := (.bool (x29.2.1 != x52.2.1))) rfl (x_neq rfl rfl) ?_))
   refine OV (.bool (x29.2.1 != x52.2.1)) rfl (x_pickF' rfl hb138 rfl) ?_
   refine OW.nil ?_
   have hL := hL.sel [0, 1, 2, 3, 7] (by decide) rfl
   exact ⟨x29.2.1 != x52.2.1, hm, ⟨rfl, rfl, rfl, rfl, rfl, rfl, rfl, rfl, hL⟩⟩
 intro s_j1 F59 wd60 hJ hm
 unfold M.laws_FnChain_j1 at hm
 obtain ⟨f61, f62, f63, f64, f65, f66, f67, f68, hL⟩ := hJ
 refine CW.condM (t := s_j1) f68 hm (fun hb69 hm => ?_) (fun hb69 hm => ?_)
 · refine CSR ?_
   refine OV (.bool false) rfl (x_assign) ?_
   refine OW.nil ?_
   refine CW.ret ?_
   obtain rfl := Option.some.inj hm
   exact RR1 rfl rfl ⟨rfl, hL.fresh 4 rfl [] (by decide) (by decide) rfl⟩
 refine CW.skip ?_
 refine CW.seq ?_
 refine CSR ?_
 refine OV (.int .i64 x29.2.2) rfl (x_mv f67) ?_
 refine OV (.bool (x29.2.2 != 0)) rfl (x_neq rfl rfl) ?_
 refine OW.nil ?_
 refine CW.condM (t := x29.2.2 != 0) rfl hm (fun hb70 hm => ?_) (fun hb70 hm => ?_)
 · refine CSR ?_
   refine OV (.bool true) rfl (x_assign) ?_
   refine OW.nil ?_
   refine CW.ret ?_
   obtain rfl := Option.some.inj hm
   exact RR1 rfl rfl ⟨rfl, hL.fresh 4 rfl [] (by decide) (by decide) rfl⟩
 refine CW.skip ?_
 refine CSR ?_
 refine OV (.agg #[(.int .i64 x34.1.Boats), v37, v39]) rfl (x_loadN (cs := [(.int .i64 x34.1.Boats), v37, v39]) U29 Try_T29 rfl f61 (hL.cellsB 3 rfl (o := 0) (l := [(.int .i64 x34.1.Boats), v37, v39]) (by intro j u hj; exact (by simpa using hj)))) ?_
 refine OV v41 rfl (x_mv f62) ?_
 refine OV (.int .i64 x34.2.2.2) rfl (x_mv f64) ?_
 refine OV (.int .i64 x34.2.2.1) rfl (x_mv f63) ?_
 obtain ⟨x71, hx72, hm⟩ := bndE hm
 refine OW.cons (OP.call rfl (x_call (vs := [(.agg #[(.int .i64 x34.1.Boats), v37, v39]), v41, (.int .i64 x34.2.2.2), (.int .i64 x34.2.2.1)]) Try_C17 ⟨rfl, rfl, rfl, rfl, trivial⟩) (M.impl_CompareBoats_ok _ x34.1 (hL.rdF 0 rfl ho46.1.rdL) (hL.rdF 1 rfl ho48.1.rdL) x34.2.1 (hL.rdF 2 rfl ho50.1.rdL) x34.2.2.2 x34.2.2.1 hx72) ?_)
 rintro e73 wd74 ⟨rfl, hF75⟩
 refine ⟨_, rfl, ?_⟩
 have hL := hL.pushAll hF75
 simp only [lA, lB, lC, lD] at hL
 refine OV (.tuple #[(.int .i64 x71.1), (.int .i64 x71.2.1), (.int .i64 x71.2.2)]) rfl (x_move) ?_
 refine OV (.int .i64 x71.1) rfl (x_extract rfl rfl) ?_
 refine OV (.int .i64 x71.2.1) rfl (x_extract rfl rfl) ?_
 refine OV (.int .i64 x71.2.2) rfl (x_extract rfl rfl) ?_
 refine OV (.int .i64 x71.1) rfl (x_assign) ?_
 refine OV (.int .i64 x71.2.1) rfl (x_assign) ?_
 refine OV (.int .i64 x71.2.2) rfl (x_assign) ?_
 refine ONR ?_
 refine OV (.agg #[(.int .i64 x34.1.Boats), v37, v39]) rfl (x_loadN (cs := [(.int .i64 x34.1.Boats), v37, v39]) U29 Try_T29 rfl f61 (hL.cellsB 3 rfl (o := 0) (l := [(.int .i64 x34.1.Boats), v37, v39]) (by intro j u hj; exact (by simpa using hj)))) ?_
 refine OV v41 rfl (x_mv f62) ?_
 refine OV (.int .i64 x34.2.2.1) rfl (x_mv f63) ?_
 obtain ⟨x76, hx77, hm⟩ := bndE hm
 refine OW.cons (OP.call rfl (x_call (vs := [(.agg #[(.int .i64 x34.1.Boats), v37, v39]), v41, (.int .i64 x34.2.2.1)]) Try_C41 ⟨rfl, rfl, rfl, trivial⟩) (M.impl_NetPoints_ok _ x34.1 (hL.rdF 0 rfl ho46.1.rdL) (hL.rdF 1 rfl ho48.1.rdL) x34.2.1 (hL.rdF 2 rfl ho50.1.rdL) x34.2.2.1 hx77) ?_)
 rintro e78 wd79 ⟨rfl, hF80⟩
 refine ⟨_, rfl, ?_⟩
 have hL := hL.pushAll hF80
 simp only [lA, lB, lC, lD] at hL
 refine OV (.tuple #[(.int .i64 x76.1), (.int .i64 x76.2)]) rfl (x_move) ?_
 refine OV (.int .i64 x76.1) rfl (x_extract rfl rfl) ?_
 refine OV (.int .i64 x76.2) rfl (x_extract rfl rfl) ?_
 refine OV (.int .i64 x76.1) rfl (x_assign) ?_
 refine OV (.int .i64 x76.2) rfl (x_assign) ?_
 refine ONR ?_
 refine OV (.agg #[(.int .i64 x34.1.Boats), v37, v39]) rfl (x_loadN (cs := [(.int .i64 x34.1.Boats), v37, v39]) U29 Try_T29 rfl f61 (hL.cellsB 3 rfl (o := 0) (l := [(.int .i64 x34.1.Boats), v37, v39]) (by intro j u hj; exact (by simpa using hj)))) ?_
 refine OV v41 rfl (x_mv f62) ?_
 refine OV (.int .i64 x34.2.2.2) rfl (x_mv f64) ?_
 obtain ⟨x81, hx82, hm⟩ := bndE hm
 refine OW.cons (OP.call rfl (x_call (vs := [(.agg #[(.int .i64 x34.1.Boats), v37, v39]), v41, (.int .i64 x34.2.2.2)]) Try_C41 ⟨rfl, rfl, rfl, trivial⟩) (M.impl_NetPoints_ok _ x34.1 (hL.rdF 0 rfl ho46.1.rdL) (hL.rdF 1 rfl ho48.1.rdL) x34.2.1 (hL.rdF 2 rfl ho50.1.rdL) x34.2.2.2 hx82) ?_)
 rintro e83 wd84 ⟨rfl, hF85⟩
 refine ⟨_, rfl, ?_⟩
 have hL := hL.pushAll hF85
 simp only [lA, lB, lC, lD] at hL
 refine OV (.tuple #[(.int .i64 x81.1), (.int .i64 x81.2)]) rfl (x_move) ?_
 refine OV (.int .i64 x81.1) rfl (x_extract rfl rfl) ?_
 refine OV (.int .i64 x81.2) rfl (x_extract rfl rfl) ?_
 refine OV (.int .i64 x81.1) rfl (x_assign) ?_
 refine OV (.int .i64 x81.2) rfl (x_assign) ?_
 refine ONR ?_
 refine OV (.agg #[(.int .i64 x34.1.Boats), v37, v39]) rfl (x_loadN (cs := [(.int .i64 x34.1.Boats), v37, v39]) U29 Try_T29 rfl f61 (hL.cellsB 3 rfl (o := 0) (l := [(.int .i64 x34.1.Boats), v37, v39]) (by intro j u hj; exact (by simpa using hj)))) ?_
 refine OV v41 rfl (x_mv f62) ?_
 refine OV (.int .i64 x34.2.2.1) rfl (x_mv f63) ?_
 obtain ⟨x86, hx87, hm⟩ := bndE hm
 refine OW.cons (OP.call rfl (x_call (vs := [(.agg #[(.int .i64 x34.1.Boats), v37, v39]), v41, (.int .i64 x34.2.2.1)]) Try_C52 ⟨rfl, rfl, rfl, trivial⟩) (M.impl_SortedPoints_ok _ x34.1 (hL.rdF 0 rfl ho46.1.rdL) (hL.rdF 1 rfl ho48.1.rdL) x34.2.1 (hL.rdF 2 rfl ho50.1.rdL) x34.2.2.1 hx87) ?_)
 rintro e90 wd91 ⟨v89, S88, rfl, hF92⟩
 refine ⟨_, rfl, ?_⟩
 have hL := hL.pushAll hF92
 simp only [lA, lB, lC, lD] at hL
 refine OV (.tuple #[v89, (.int .i64 x86.2)]) rfl (x_move) ?_
 refine OV v89 rfl (x_extract rfl rfl) ?_
 refine OV (.int .i64 x86.2) rfl (x_extract rfl rfl) ?_
 refine OV v89 rfl (x_assign) ?_
 refine OV (.int .i64 x86.2) rfl (x_assign) ?_
 refine ONR ?_
 refine OV (.agg #[(.int .i64 x34.1.Boats), v37, v39]) rfl (x_loadN (cs := [(.int .i64 x34.1.Boats), v37, v39]) U29 Try_T29 rfl f61 (hL.cellsB 4 rfl (o := 0) (l := [(.int .i64 x34.1.Boats), v37, v39]) (by intro j u hj; exact (by simpa using hj)))) ?_
 refine OV v41 rfl (x_mv f62) ?_
 refine OV (.int .i64 x34.2.2.1) rfl (x_mv f63) ?_
 obtain ⟨x93, hx94, hm⟩ := bndE hm
 refine OW.cons (OP.call rfl (x_call (vs := [(.agg #[(.int .i64 x34.1.Boats), v37, v39]), v41, (.int .i64 x34.2.2.1)]) Try_C53 ⟨rfl, rfl, rfl, trivial⟩) (M.spec_SortedPoints_ok _ x34.1 (hL.rdF 1 rfl ho46.1.rdL) (hL.rdF 2 rfl ho48.1.rdL) x34.2.1 (hL.rdF 3 rfl ho50.1.rdL) x34.2.2.1 hx94) ?_)
 rintro e97 wd98 ⟨v96, S95, rfl, hF99⟩
 refine ⟨_, rfl, ?_⟩
 have hL := hL.pushAll hF99
 simp only [lA, lB, lC, lD] at hL
 refine OV (.tuple #[v96, (.int .i64 x93.2)]) rfl (x_move) ?_
 refine OV v96 rfl (x_extract rfl rfl) ?_
 refine OV (.int .i64 x93.2) rfl (x_extract rfl rfl) ?_
 refine OV v96 rfl (x_assign) ?_
 refine OV (.int .i64 x93.2) rfl (x_assign) ?_
 refine ONS ?_
 refine CW.seqJ (fun (s_j2 : Bool) (F : Fr) (w : World) => F 7 = (.int .i64 x29.1) ∧ F 8 = (.int .i64 x29.2.1) ∧ F 13 = (.int .i64 x71.1) ∧ F 14 = (.int .i64 x71.2.1) ∧ F 16 = (.int .i64 x76.1) ∧ F 18 = (.int .i64 x81.1) ∧ F 130 = (.bool s_j2) ∧ Hp w0 [Ent.frzS wz45 S36, Ent.frzS wz47 S38, Ent.blk b27 29 #[(.int .i64 x34.1.Boats), v37, v39], Ent.snap w0 w0.heap.size] w) (fun s_j2 => M.laws_FnChain_j2 x29 x71 x76 x81 s_j2 = some r) ?_ ?_
 · refine CW.regionL ?_
   refine OV (.int .i64 x71.2.2) rfl (x_move) ?_
   refine OV (.bool (x71.2.2 != 0)) rfl (x_neq rfl rfl) ?_
   refine OV (.bool (x71.2.2 != 0)) rfl (x_move) ?_
   refine ifB_elim hm (fun hb128 hm => ?_) (fun hb128 hm => ?_)
   · refine OW.cons (OP.no' rfl rfl hb128 rfl ?_)
     refine OW.cons (OP.no' rfl rfl hb128 rfl ?_)
     refine OV (.bool true) rfl (x_pickT' rfl hb128 rfl) ?_
     refine OV (.bool true) rfl (x_move) ?_
     refine OW.cons (OP.no' rfl rfl rfl rfl ?_)
     refine OW.cons (OP.no' rfl rfl rfl rfl ?_)
     refine OV (.bool true) rfl (x_pickT' rfl rfl rfl) ?_
     refine OV (.bool true) rfl (x_move) ?_
     refine OW.cons (OP.no' rfl rfl rfl rfl ?_)
     refine OW.cons (OP.no' rfl rfl rfl rfl ?_)
     refine OW.cons (OP.no' rfl rfl rfl rfl ?_)
     refine OV (.bool true) rfl (x_pickT' rfl rfl rfl) ?_
     refine OV (.bool true) rfl (x_move) ?_
     refine OW.cons (OP.no' rfl rfl rfl rfl ?_)
     refine OW.cons (OP.no' rfl rfl rfl rfl ?_)
     refine OW.cons (OP.no' rfl rfl rfl rfl ?_)
     refine OW.cons (OP.no' rfl rfl rfl rfl ?_)
     refine OV (.bool true) rfl (x_pickT' rfl rfl rfl) ?_
     refine OW.nil ?_
     have hL := hL.sel [2, 3, 5, 6] (by decide) rfl
     exact ⟨true, hm, ⟨f65, f66, rfl, rfl, rfl, rfl, rfl, hL⟩⟩
   refine OW.cons (OP.yes' rfl rfl hb128 (OP.val (v := (.int .i64 x76.2)) rfl (x_move) ?_))
   refine OW.cons (OP.yes' rfl rfl hb128 (OP.val (v := (.bool (x76.2 != 0))) rfl (x_neq rfl rfl) ?_))
   refine OV (.bool (x76.2 != 0)) rfl (x_pickF' rfl hb128 rfl) ?_
   refine OV (.bool (x76.2 != 0)) rfl (x_move) ?_
   refine ifB_elim hm (fun hb129 hm => ?_) (fun hb129 hm => ?_)
   · refine OW.cons (OP.no' rfl rfl hb129 rfl ?_)
     refine OW.cons (OP.no' rfl rfl hb129 rfl ?_)
     refine OV (.bool true) rfl (x_pickT' rfl hb129 rfl) ?_
     refine OV (.bool true) rfl (x_move) ?_
     refine OW.cons (OP.no' rfl rfl rfl rfl ?_)
     refine OW.cons (OP.no' rfl rfl rfl rfl ?_)
     refine OW.cons (OP.no' rfl rfl rfl rfl ?_)
     refine OV (.bool true) rfl (x_pickT' rfl rfl rfl) ?_
     refine OV (.bool true) rfl (x_move) ?_
     refine OW.cons (OP.no' rfl rfl rfl rfl ?_)
     refine OW.cons (OP.no' rfl rfl rfl rfl ?_)
     refine OW.cons (OP.no' rfl rfl rfl rfl ?_)
     refine OW.cons (OP.no' rfl rfl rfl rfl ?_)
     refine OV (.bool true) rfl (x_pickT' rfl rfl rfl) ?_
     refine OW.nil ?_
     have hL := hL.sel [2, 3, 5, 6] (by decide) rfl
     exact ⟨true, hm, ⟨f65, f66, rfl, rfl, rfl, rfl, rfl, hL⟩⟩
   refine OW.cons (OP.yes' rfl rfl hb129 (OP.val (v := (.int .i64 x81.2)) rfl (x_move) ?_))
   refine OW.cons (OP.yes' rfl rfl hb129 (OP.val (v := (.bool (x81.2 != 0))) rfl (x_neq rfl rfl) ?_))
   refine OV (.bool (x81.2 != 0)) rfl (x_pickF' rfl hb129 rfl) ?_
   refine OV (.bool (x81.2 != 0)) rfl (x_move) ?_
   refine ifB_elim hm (fun hb130 hm => ?_) (fun hb130 hm => ?_)
   · refine OW.cons (OP.no' rfl rfl hb130 rfl ?_)
     refine OW.cons (OP.no' rfl rfl hb130 rfl ?_)
     refine OW.cons (OP.no' rfl rfl hb130 rfl ?_)
     refine OV (.bool true) rfl (x_pickT' rfl hb130 rfl) ?_
     refine OV (.bool true) rfl (x_move) ?_
     refine OW.cons (OP.no' rfl rfl rfl rfl ?_)
     refine OW.cons (OP.no' rfl rfl rfl rfl ?_)
     refine OW.cons (OP.no' rfl rfl rfl rfl ?_)
     refine OW.cons (OP.no' rfl rfl rfl rfl ?_)
     refine OV (.bool true) rfl (x_pickT' rfl rfl rfl) ?_
     refine OW.nil ?_
     have hL := hL.sel [2, 3, 5, 6] (by decide) rfl
     exact ⟨true, hm, ⟨f65, f66, rfl, rfl, rfl, rfl, rfl, hL⟩⟩
   refine OW.cons (OP.yes' rfl rfl hb130 (OP.val (v := (.int .i64 x86.2)) rfl (x_move) ?_))
   refine OW.cons (OP.yes' rfl rfl hb130 (OP.val (v := (.int .i64 x93.2)) rfl (x_move) ?_))
   refine OW.cons (OP.yes' rfl rfl hb130 (OP.val (v := (.bool (x86.2 != x93.2))) rfl (x_neq rfl rfl) ?_))
   refine OV (.bool (x86.2 != x93.2)) rfl (x_pickF' rfl hb130 rfl) ?_
   refine OV (.bool (x86.2 != x93.2)) rfl (x_move) ?_
   refine ifB_elim hm (fun hb131 hm => ?_) (fun hb131 hm => ?_)
   · refine OW.cons (OP.no' rfl rfl hb131 rfl ?_)
     refine OW.cons (OP.no' rfl rfl hb131 rfl ?_)
     refine OW.cons (OP.no' rfl rfl hb131 rfl ?_)
     refine OW.cons (OP.no' rfl rfl hb131 rfl ?_)
     refine OV (.bool true) rfl (x_pickT' rfl hb131 rfl) ?_
     refine OW.nil ?_
     have hL := hL.sel [2, 3, 5, 6] (by decide) rfl
     exact ⟨true, hm, ⟨f65, f66, rfl, rfl, rfl, rfl, rfl, hL⟩⟩
   refine OW.cons (OP.yes' rfl rfl hb131 (OP.val (v := v89) rfl (x_move) ?_))
   refine OW.cons (OP.yes' rfl rfl hb131 (OP.val (v := v96) rfl (x_move) ?_))
   obtain ⟨x132, hx133, hm⟩ := bndE hm
   refine OW.cons (OP.yes' rfl rfl hb131 (OP.call rfl (x_call (vs := [v89, v96]) Try_C40 ⟨rfl, rfl, trivial⟩) (M.laws_likeInts_ok _ x86.1 (hL.rdO 1 rfl) x93.1 (hL.rdO 0 rfl) hx133) ?_))
   rintro e134 wd135 ⟨rfl, hF136⟩
   refine ⟨_, rfl, ?_⟩
   have hL := hL.pushAll hF136
   simp only [lA, lB, lC, lD] at hL
   refine OW.cons (OP.yes' rfl rfl hb131 (OP.val (v := (.bool (!x132))) rfl (x_not rfl) ?_))
   refine OV (.bool (!x132)) rfl (x_pickF' rfl hb131 rfl) ?_
   refine OW.nil ?_
   have hL := hL.sel [2, 3, 5, 6] (by decide) rfl
   exact ⟨!x132, hm, ⟨f65, f66, rfl, rfl, rfl, rfl, rfl, hL⟩⟩
 intro s_j2 F109 wd110 hJ hm
 unfold M.laws_FnChain_j2 at hm
 obtain ⟨f111, f112, f113, f114, f115, f116, f117, hL⟩ := hJ
 refine CW.condM (t := s_j2) f117 hm (fun hb118 hm => ?_) (fun hb118 hm => ?_)
 · refine CSR ?_
   refine OV (.bool false) rfl (x_assign) ?_
   refine OW.nil ?_
   refine CW.ret ?_
   obtain rfl := Option.some.inj hm
   exact RR1 rfl rfl ⟨rfl, hL.fresh 3 rfl [] (by decide) (by decide) rfl⟩
 refine CW.skip ?_
 refine CW.seqJ (fun (s_j3 : Bool) (F : Fr) (w : World) => F 2 = (.bool s_j3) ∧ Hp w0 [Ent.frzS wz45 S36, Ent.frzS wz47 S38, Ent.blk b27 29 #[(.int .i64 x34.1.Boats), v37, v39], Ent.snap w0 w0.heap.size] w) (fun s_j3 => M.laws_FnChain_j3 s_j3 = some r) ?_ ?_
 · refine CW.regionL ?_
   refine OV (.int .i64 x71.1) rfl (x_mv f113) ?_
   refine OV (.int .i64 x29.1) rfl (x_mv f111) ?_
   refine OV (.int .i64 (w64 (0 - x29.1))) rfl (x_neg rfl) ?_
   refine OV (.bool (x71.1 == (w64 (0 - x29.1)))) rfl (x_eql rfl rfl) ?_
   refine OV (.bool (x71.1 == (w64 (0 - x29.1)))) rfl (x_move) ?_
   refine ifB_elim hm (fun hb125 hm => ?_) (fun hb125 hm => ?_)
   · refine OW.cons (OP.yes' rfl rfl hb125 (OP.val (v := (.int .i64 x71.2.1)) rfl (x_mv f114) ?_))
     refine OW.cons (OP.yes' rfl rfl hb125 (OP.val (v := (.int .i64 x29.2.1)) rfl (x_mv f112) ?_))
     refine OW.cons (OP.yes' rfl rfl hb125 (OP.val (v := (.bool (x71.2.1 == x29.2.1))) rfl (x_eql rfl rfl) ?_))
     refine OV (.bool (x71.2.1 == x29.2.1)) rfl (x_pickT' rfl hb125 rfl) ?_
     refine OV (.bool (x71.2.1 == x29.2.1)) rfl (x_move) ?_
     refine ifB_elim hm (fun hb126 hm => ?_) (fun hb126 hm => ?_)
     · refine OW.cons (OP.yes' rfl rfl hb126 (OP.val (v := (.int .i64 x76.1)) rfl (x_mv f115) ?_))
       refine OW.cons (OP.yes' rfl rfl hb126 (OP.val (v := (.int .i64 x81.1)) rfl (x_mv f116) ?_))
       refine OW.cons (OP.yes' rfl rfl hb126 (OP.val (v := (.bool (x76.1 != x81.1))) rfl (x_neq rfl rfl) ?_))
       refine OW.cons (OP.yes' rfl rfl hb126 (OP.val (v := (.int .i64 x29.2.1)) rfl (x_mv f112) ?_))
       refine OW.cons (OP.yes' rfl rfl hb126 (OP.val (v := (.bool (x29.2.1 == 1))) rfl (x_eql rfl rfl) ?_))
       refine OW.cons (OP.yes' rfl rfl hb126 (OP.val (v := (.bool ((x76.1 != x81.1) == (x29.2.1 == 1)))) rfl (x_eqlB U4 rfl rfl) ?_))
       refine OV (.bool ((x76.1 != x81.1) == (x29.2.1 == 1))) rfl (x_pickT' rfl hb126 rfl) ?_
       refine OV (.bool ((x76.1 != x81.1) == (x29.2.1 == 1))) rfl (x_move) ?_
       refine ifB_elim hm (fun hb127 hm => ?_) (fun hb127 hm => ?_)
       · refine OW.cons (OP.yes' rfl rfl hb127 (OP.val (v := (.int .i64 x29.1)) rfl (x_mv f111) ?_))
         refine OW.cons (OP.yes' rfl rfl hb127 (OP.val (v := (.bool (x29.1 == 0))) rfl (x_eql rfl rfl) ?_))
         refine OW.cons (OP.yes' rfl rfl hb127 (OP.val (v := (.int .i64 x29.2.1)) rfl (x_mv f112) ?_))
         refine OW.cons (OP.yes' rfl rfl hb127 (OP.val (v := (.bool (x29.2.1 == 0))) rfl (x_eql rfl rfl) ?_))
         refine OW.cons (OP.yes' rfl rfl hb127 (OP.val (v := (.bool ((x29.1 == 0) == (x29.2.1 == 0)))) rfl (x_eqlB U4 rfl rfl) ?_))
         refine OV (.bool ((x29.1 == 0) == (x29.2.1 == 0))) rfl (x_pickT' rfl hb127 rfl) ?_
         refine OV (.bool ((x29.1 == 0) == (x29.2.1 == 0))) rfl (x_assign) ?_
         refine OW.nil ?_
         exact ⟨(x29.1 == 0) == (x29.2.1 == 0), hm, ⟨rfl, hL⟩⟩
       refine OW.cons (OP.no' rfl rfl hb127 rfl ?_)
       refine OW.cons (OP.no' rfl rfl hb127 rfl ?_)
       refine OW.cons (OP.no' rfl rfl hb127 rfl ?_)
       refine OW.cons (OP.no' rfl rfl hb127 rfl ?_)
       refine OW.cons (OP.no' rfl rfl hb127 rfl ?_)
       refine OV (.bool false) rfl (x_pickF' rfl hb127 rfl) ?_
       refine OV (.bool false) rfl (x_assign) ?_
       refine OW.nil ?_
       exact ⟨false, hm, ⟨rfl, hL⟩⟩
     refine OW.cons (OP.no' rfl rfl hb126 rfl ?_)
     refine OW.cons (OP.no' rfl rfl hb126 rfl ?_)
     refine OW.cons (OP.no' rfl rfl hb126 rfl ?_)
     refine OW.cons (OP.no' rfl rfl hb126 rfl ?_)
     refine OW.cons (OP.no' rfl rfl hb126 rfl ?_)
     refine OW.cons (OP.no' rfl rfl hb126 rfl ?_)
     refine OV (.bool false) rfl (x_pickF' rfl hb126 rfl) ?_
     refine OV (.bool false) rfl (x_move) ?_
     refine OW.cons (OP.no' rfl rfl rfl rfl ?_)
     refine OW.cons (OP.no' rfl rfl rfl rfl ?_)
     refine OW.cons (OP.no' rfl rfl rfl rfl ?_)
     refine OW.cons (OP.no' rfl rfl rfl rfl ?_)
     refine OW.cons (OP.no' rfl rfl rfl rfl ?_)
     refine OV (.bool false) rfl (x_pickF' rfl rfl rfl) ?_
     refine OV (.bool false) rfl (x_assign) ?_
     refine OW.nil ?_
     exact ⟨false, hm, ⟨rfl, hL⟩⟩
   refine OW.cons (OP.no' rfl rfl hb125 rfl ?_)
   refine OW.cons (OP.no' rfl rfl hb125 rfl ?_)
   refine OW.cons (OP.no' rfl rfl hb125 rfl ?_)
   refine OV (.bool false) rfl (x_pickF' rfl hb125 rfl) ?_
   refine OV (.bool false) rfl (x_move) ?_
   refine OW.cons (OP.no' rfl rfl rfl rfl ?_)
   refine OW.cons (OP.no' rfl rfl rfl rfl ?_)
   refine OW.cons (OP.no' rfl rfl rfl rfl ?_)
   refine OW.cons (OP.no' rfl rfl rfl rfl ?_)
   refine OW.cons (OP.no' rfl rfl rfl rfl ?_)
   refine OW.cons (OP.no' rfl rfl rfl rfl ?_)
   refine OV (.bool false) rfl (x_pickF' rfl rfl rfl) ?_
   refine OV (.bool false) rfl (x_move) ?_
   refine OW.cons (OP.no' rfl rfl rfl rfl ?_)
   refine OW.cons (OP.no' rfl rfl rfl rfl ?_)
   refine OW.cons (OP.no' rfl rfl rfl rfl ?_)
   refine OW.cons (OP.no' rfl rfl rfl rfl ?_)
   refine OW.cons (OP.no' rfl rfl rfl rfl ?_)
   refine OV (.bool false) rfl (x_pickF' rfl rfl rfl) ?_
   refine OV (.bool false) rfl (x_assign) ?_
   refine OW.nil ?_
   exact ⟨false, hm, ⟨rfl, hL⟩⟩
 intro s_j3 F122 wd123 hJ hm
 unfold M.laws_FnChain_j3 at hm
 obtain ⟨f124, hL⟩ := hJ
 refine CW.ret ?_
 obtain rfl := Option.some.inj hm
 exact RR1 rfl f124 ⟨rfl, hL.fresh 3 rfl [] (by decide) (by decide) rfl⟩

end Go.Proofs.Ytpobaajdhfoomaa
