/- Links: each Go function returns what its model computes and leaves what was there. Printed by my generator. -/
import Derived.Test.YtgelmamcinlahaaGreatLnkFnExactPlacesLostD
namespace Go.Proofs.YtgelmamcinlahaaGreat
set_option maxRecDepth 10000
open Go Go.RowKit Go.ChangeShapes Go.WideShapes
set_option linter.unusedVariables false
set_option linter.unusedSimpArgs false

theorem M.laws_FnExactPlacesLost_ok (w0 : World) (a0 : Series) {v1 : Value} (h2 : rdL (· < w0.heap.size) w0 v1 a0.Races) (a1 : List Penalty) {v3 : Value} (h4 : rdL (· < w0.heap.size) w0 v3 a1) (a2 : List Int) {v5 : Value} (h6 : rdL (· < w0.heap.size) w0 v5 a2) (a3 : Int) {r : Bool} (hm : M.laws_FnExactPlacesLost a0 a1 a2 a3 = some r) :
    Calls Tryz.prog 3 #[(.agg #[(.int .i64 a0.Boats), (.int .i64 a0.Scheme), v1]), v3, v5, (.int .i64 a3)] w0 fun e w' => e = .returned (.bool r) ∧ Fresh w0 w' [] := by
 unfold M.laws_FnExactPlacesLost at hm
 refine calls_CW (args := [(.agg #[(.int .i64 a0.Boats), (.int .i64 a0.Scheme), v1]), v3, v5, (.int .i64 a3)]) Tryz.func3 rfl rfl rfl ?_
 have hL := Hp.start w0
 refine CSR ?_
 refine OW.cons (S_box (cs := #[(.int .i64 a0.Boats), (.int .i64 a0.Scheme), v1]) hL rfl rfl rfl ?_)
 intro wd7 b8 hL
 refine OV (.bool false) rfl (x_assign) ?_
 refine ONS ?_
 refine CSR ?_
 refine OV v5 rfl (x_move) ?_
 refine OV (.int .i64 (a2.length : Int)) rfl (x_lenR U26 rfl (hL.rdS 1 rfl h6)) ?_
 refine OV (.bool (decide (1048576 < (a2.length : Int)))) rfl (x_gtr rfl rfl) ?_
 refine OW.nil ?_
 refine CW.condM (t := decide (1048576 < (a2.length : Int))) rfl hm (fun hb9 hm => ?_) (fun hb9 hm => ?_)
 · refine CSR ?_
   refine OV (.bool true) rfl (x_assign) ?_
   refine OW.nil ?_
   refine CW.ret ?_
   obtain rfl := Option.some.inj hm
   exact RR1 rfl rfl ⟨rfl, hL.fresh 1 rfl [] (by decide) (by decide) rfl⟩
 refine CW.skip ?_
 refine CSR ?_
 refine OV (.int .i64 1048576) rfl (x_assign) ?_
 refine ONR ?_
 refine OV (.agg #[(.int .i64 a0.Boats), (.int .i64 a0.Scheme), v1]) rfl (x_loadN (cs := [(.int .i64 a0.Boats), (.int .i64 a0.Scheme), v1]) U24 Tryz_T24 rfl rfl (hL.cellsB 0 rfl (o := 0) (l := [(.int .i64 a0.Boats), (.int .i64 a0.Scheme), v1]) (by intro j u hj; exact (by simpa using hj)))) ?_
 refine OV (.int .i64 1048576) rfl (x_move) ?_
 obtain ⟨x10, hx11, hm⟩ := bndE hm
 refine OW.cons (OP.call rfl (x_call (vs := [(.agg #[(.int .i64 a0.Boats), (.int .i64 a0.Scheme), v1]), (.int .i64 1048576)]) Tryz_C4 ⟨rfl, rfl, trivial⟩) (M.laws_szSeries_ok _ a0 (hL.rdS 1 rfl h2) 1048576 hx11) ?_)
 rintro e12 wd13 ⟨rfl, hF14⟩
 refine ⟨_, rfl, ?_⟩
 have hL := hL.pushAll hF14
 simp only [lA, lB, lC, lD] at hL
 refine OV (.int .i64 x10) rfl (x_assign) ?_
 refine ONS ?_
 refine CSR ?_
 refine OV (.int .i64 x10) rfl (x_move) ?_
 refine OV (.bool (decide (x10 < 0))) rfl (x_lss rfl rfl) ?_
 refine OW.nil ?_
 refine CW.condM (t := decide (x10 < 0)) rfl hm (fun hb15 hm => ?_) (fun hb15 hm => ?_)
 · refine CSR ?_
   refine OV (.bool true) rfl (x_assign) ?_
   refine OW.nil ?_
   refine CW.ret ?_
   obtain rfl := Option.some.inj hm
   exact RR1 rfl rfl ⟨rfl, hL.fresh 1 rfl [] (by decide) (by decide) rfl⟩
 refine CW.skip ?_
 refine CSR ?_
 refine OV v3 rfl (x_move) ?_
 refine OV (.int .i64 x10) rfl (x_move) ?_
 obtain ⟨x16, hx17, hm⟩ := bndE hm
 refine OW.cons (OP.call rfl (x_call (vs := [v3, (.int .i64 x10)]) Tryz_C5 ⟨rfl, rfl, trivial⟩) (M.laws_szPenaltyS_ok _ a1 (hL.rdS 1 rfl h4) x10 hx17) ?_)
 rintro e18 wd19 ⟨rfl, hF20⟩
 refine ⟨_, rfl, ?_⟩
 have hL := hL.pushAll hF20
 simp only [lA, lB, lC, lD] at hL
 refine OV (.int .i64 x16) rfl (x_assign) ?_
 refine ONS ?_
 refine CSR ?_
 refine OV (.int .i64 x16) rfl (x_move) ?_
 refine OV (.bool (decide (x16 < 0))) rfl (x_lss rfl rfl) ?_
 refine OW.nil ?_
 refine CW.condM (t := decide (x16 < 0)) rfl hm (fun hb21 hm => ?_) (fun hb21 hm => ?_)
 · refine CSR ?_
   refine OV (.bool true) rfl (x_assign) ?_
   refine OW.nil ?_
   refine CW.ret ?_
   obtain rfl := Option.some.inj hm
   exact RR1 rfl rfl ⟨rfl, hL.fresh 1 rfl [] (by decide) (by decide) rfl⟩
 refine CW.skip ?_
 refine CSR ?_
 refine OV (.agg #[(.int .i64 a0.Boats), (.int .i64 a0.Scheme), v1]) rfl (x_loadN (cs := [(.int .i64 a0.Boats), (.int .i64 a0.Scheme), v1]) U24 Tryz_T24 rfl rfl (hL.cellsB 0 rfl (o := 0) (l := [(.int .i64 a0.Boats), (.int .i64 a0.Scheme), v1]) (by intro j u hj; exact (by simpa using hj)))) ?_
 obtain ⟨x22, hx23, hm⟩ := bndE hm
 refine OW.cons (OP.call rfl (x_call (vs := [(.agg #[(.int .i64 a0.Boats), (.int .i64 a0.Scheme), v1])]) Tryz_C7 ⟨rfl, trivial⟩) (M.laws_toSeries_ok _ a0 (hL.rdS 1 rfl h2) hx23) ?_)
 rintro e26 wd27 ⟨v25, S24, rfl, hF28⟩
 refine ⟨_, rfl, ?_⟩
 have hL := hL.pushAll hF28
 simp only [lA, lB, lC, lD] at hL
 refine OV v3 rfl (x_move) ?_
 obtain ⟨x29, hx30, hm⟩ := bndE hm
 refine OW.cons (OP.call rfl (x_call (vs := [v3]) Tryz_C8 ⟨rfl, trivial⟩) (M.laws_toPenaltyS_ok _ a1 (hL.rdS 2 rfl h4) hx30) ?_)
 rintro e33 wd34 ⟨v32, S31, rfl, hF35⟩
 refine ⟨_, rfl, ?_⟩
 have hL := hL.pushAll hF35
 simp only [lA, lB, lC, lD] at hL
 refine OV v5 rfl (x_move) ?_
 obtain ⟨x36, hx37, hm⟩ := bndE hm
 refine OW.cons (OP.call rfl (x_call (vs := [v5]) Tryz_C9 ⟨rfl, trivial⟩) (M.laws_toInt64S_ok _ a2 (hL.rdS 3 rfl h6) hx37) ?_)
 rintro e40 wd41 ⟨v39, S38, rfl, hF42⟩
 refine ⟨_, rfl, ?_⟩
 have hL := hL.pushAll hF42
 simp only [lA, lB, lC, lD] at hL
 refine OV (.int .i64 a3) rfl (x_move) ?_
 obtain ⟨x43, hx44, hm⟩ := bndE hm
 refine OW.cons (OP.call rfl (x_call (vs := [(.agg #[(.int .i64 x22.Boats), (.int .i64 x22.Scheme), v25]), v32, v39, (.int .i64 a3)]) Tryz_C6 ⟨rfl, rfl, rfl, rfl, trivial⟩) (M.spec_PlacesLost_ok _ x22 (hL.rdO 2 rfl) x29 (hL.rdO 1 rfl) x36 (hL.rdO 0 rfl) a3 hx44) ?_)
 rintro e45 wd46 ⟨rfl, hF47⟩
 refine ⟨_, rfl, ?_⟩
 have hL := hL.pushAll hF47
 simp only [lA, lB, lC, lD] at hL
 refine OV (.tuple #[(.int .i64 x43.1), (.int .i64 x43.2)]) rfl (x_move) ?_
 refine OV (.int .i64 x43.1) rfl (x_extract rfl rfl) ?_
 refine OV (.int .i64 x43.2) rfl (x_extract rfl rfl) ?_
 refine OV (.int .i64 x43.1) rfl (x_assign) ?_
 refine OV (.int .i64 x43.2) rfl (x_assign) ?_
 refine ONR ?_
 refine OV (.agg #[(.int .i64 a0.Boats), (.int .i64 a0.Scheme), v1]) rfl (x_loadN (cs := [(.int .i64 a0.Boats), (.int .i64 a0.Scheme), v1]) U24 Tryz_T24 rfl rfl (hL.cellsB 3 rfl (o := 0) (l := [(.int .i64 a0.Boats), (.int .i64 a0.Scheme), v1]) (by intro j u hj; exact (by simpa using hj)))) ?_
 obtain ⟨x48, hx49, hm⟩ := bndE hm
 refine OW.cons (OP.call rfl (x_call (vs := [(.agg #[(.int .i64 a0.Boats), (.int .i64 a0.Scheme), v1])]) Tryz_C7 ⟨rfl, trivial⟩) (M.laws_toSeries_ok _ a0 (hL.rdS 4 rfl h2) hx49) ?_)
 rintro e52 wd53 ⟨v51, S50, rfl, hF54⟩
 refine ⟨_, rfl, ?_⟩
 have hL := hL.pushAll hF54
 simp only [lA, lB, lC, lD] at hL
 refine OW.cons (S_alloc (cs := #[(.int .i64 0), (.int .i64 0), (.slice none 0 0)]) hL Tryz_T33 rfl rfl ?_)
 intro wd55 b56 hL
 refine OW.cons (S_storeN (l := [(.int .i64 x48.Boats), (.int .i64 x48.Scheme), v51]) (cs' := #[(.int .i64 x48.Boats), (.int .i64 x48.Scheme), v51]) hL 0 rfl Tryz_T33 rfl rfl (List.forall_mem_cons.2 ⟨rfl, (List.forall_mem_cons.2 ⟨rfl, (List.forall_mem_cons.2 ⟨rdL_one (hL.rdO 1 rfl), (fun _ h => by cases h)⟩)⟩)⟩) rfl (Nat.le_of_ble_eq_true rfl) rfl ?_)
 intro wd57 hL
 refine ONR ?_
 refine OV v3 rfl (x_move) ?_
 obtain ⟨x58, hx59, hm⟩ := bndE hm
 refine OW.cons (OP.call rfl (x_call (vs := [v3]) Tryz_C8 ⟨rfl, trivial⟩) (M.laws_toPenaltyS_ok _ a1 (hL.rdS 6 rfl h4) hx59) ?_)
 rintro e62 wd63 ⟨v61, S60, rfl, hF64⟩
 refine ⟨_, rfl, ?_⟩
 have hL := hL.pushAll hF64
 simp only [lA, lB, lC, lD] at hL
 refine OV v61 rfl (x_assign) ?_
 refine ONR ?_
 refine OV v5 rfl (x_move) ?_
 obtain ⟨x65, hx66, hm⟩ := bndE hm
 refine OW.cons (OP.call rfl (x_call (vs := [v5]) Tryz_C9 ⟨rfl, trivial⟩) (M.laws_toInt64S_ok _ a2 (hL.rdS 7 rfl h6) hx66) ?_)
 rintro e69 wd70 ⟨v68, S67, rfl, hF71⟩
 refine ⟨_, rfl, ?_⟩
 have hL := hL.pushAll hF71
 simp only [lA, lB, lC, lD] at hL
 refine OV v68 rfl (x_assign) ?_
 refine ONR ?_
 refine OV (.agg #[(.int .i64 x48.Boats), (.int .i64 x48.Scheme), v51]) rfl (x_loadN (cs := [(.int .i64 x48.Boats), (.int .i64 x48.Scheme), v51]) U33 Tryz_T33 rfl rfl (hL.cellsB 2 rfl (o := 0) (l := [(.int .i64 x48.Boats), (.int .i64 x48.Scheme), v51]) (by intro j u hj; exact (by simpa using hj)))) ?_
 refine OV v61 rfl (x_move) ?_
 refine OV v68 rfl (x_move) ?_
 refine OV (.int .i64 a3) rfl (x_move) ?_
 obtain ⟨x72, hx73, hm⟩ := bndE hm
 refine OW.cons (OP.call rfl (x_call (vs := [(.agg #[(.int .i64 x48.Boats), (.int .i64 x48.Scheme), v51]), v61, v68, (.int .i64 a3)]) Tryz_C10 ⟨rfl, rfl, rfl, rfl, trivial⟩) (M.impl_PlacesLost_ok _ x48 (hL.rdO 3 rfl) x58 (hL.rdO 1 rfl) x65 (hL.rdO 0 rfl) a3 hx73) ?_)
 rintro e74 wd75 ⟨rfl, hF76⟩
 refine ⟨_, rfl, ?_⟩
 have hL := hL.pushAll hF76
 simp only [lA, lB, lC, lD] at hL
 refine OV (.tuple #[(.int .i64 x72.1), (.int .i64 x72.2)]) rfl (x_move) ?_
 refine OV (.int .i64 x72.1) rfl (x_extract rfl rfl) ?_
 refine OV (.int .i64 x72.2) rfl (x_extract rfl rfl) ?_
 refine OV (.int .i64 x72.1) rfl (x_assign) ?_
 refine OV (.int .i64 x72.2) rfl (x_assign) ?_
 refine ONS ?_
 refine CW.seqJ (fun (s_j1 : Bool) (F : Fr) (w : World) => F 1 = v3 ∧ F 2 = v5 ∧ F 4 = (.pointer (some ⟨b8, 0, none⟩)) ∧ F 12 = (.pointer (some ⟨b56, 0, none⟩)) ∧ F 13 = v61 ∧ F 14 = v68 ∧ F 62 = (.bool s_j1) ∧ Hp w0 [Ent.own 2 S67 v68 x65, Ent.own 53 S60 v61 x58, Ent.blk b56 33 #[(.int .i64 x48.Boats), (.int .i64 x48.Scheme), v51], Ent.own 75 S50 v51 x48.Races, Ent.blk b8 24 #[(.int .i64 a0.Boats), (.int .i64 a0.Scheme), v1], Ent.snap w0 w0.heap.size] w) (fun s_j1 => M.laws_FnExactPlacesLost_j1 a0 a1 a2 x48 x58 x65 s_j1 = some r) ?_ ?_
 · refine CW.regionL ?_
   refine OV (.int .i64 x72.1) rfl (x_move) ?_
   refine OV (.int .i64 x43.1) rfl (x_move) ?_
   refine OV (.bool (x72.1 != x43.1)) rfl (x_neq rfl rfl) ?_
   refine OV (.bool (x72.1 != x43.1)) rfl (x_move) ?_
   refine ifB_elim hm (fun hb139 hm => ?_) (fun hb139 hm => ?_)
   · refine OW.cons (OP.no' rfl rfl hb139 rfl ?_)
     refine OW.cons (OP.no' rfl rfl hb139 rfl ?_)
     refine OW.cons (OP.no' rfl rfl hb139 rfl ?_)
     refine OV (.bool true) rfl (x_pickT' rfl hb139 rfl) ?_
     refine OW.nil ?_
     have hL := hL.sel [0, 1, 2, 3, 7, 8] (by decide) rfl
     exact ⟨true, hm, ⟨rfl, rfl, rfl, rfl, rfl, rfl, rfl, hL⟩⟩
   refine OW.cons (OP.yes' rfl rfl hb139 (OP.val (v := (.int .i64 x72.2)) rfl (x_move) ?_))
   refine OW.cons (OP.yes' rfl rfl hb139 (OP.val (v := (.int .i64 x43.2)) rfl (x_move) ?_))
   refine OW.cons (OP.yes' rfl rfl hb139 (OP.val (v := (.bool (x72.2 != x43.2))) rfl (x_neq rfl rfl) ?_))
   refine OV (.bool (x72.2 != x43.2)) rfl (x_pickF' rfl hb139 rfl) ?_
   refine OW.nil ?_
   have hL := hL.sel [0, 1, 2, 3, 7, 8] (by decide) rfl
   exact ⟨x72.2 != x43.2, hm, ⟨rfl, rfl, rfl, rfl, rfl, rfl, rfl, hL⟩⟩
 intro s_j1 F78 wd79 hJ hm
 unfold M.laws_FnExactPlacesLost_j1 at hm
 obtain ⟨f80, f81, f82, f83, f84, f85, f86, hL⟩ := hJ
 refine CW.condM (t := s_j1) f86 hm (fun hb87 hm => ?_) (fun hb87 hm => ?_)
 · refine CSR ?_
   refine OV (.bool false) rfl (x_assign) ?_
   refine OW.nil ?_
   refine CW.ret ?_
   obtain rfl := Option.some.inj hm
   exact RR1 rfl rfl ⟨rfl, hL.fresh 5 rfl [] (by decide) (by decide) rfl⟩
 refine CW.skip ?_
 refine CW.seq ?_
 refine CW.seq ?_
 refine CW.drawH (fun w' => Hp w0 [Ent.own 2 S67 v68 x65, Ent.own 53 S60 v61 x58, Ent.blk b56 33 #[(.int .i64 x48.Boats), (.int .i64 x48.Scheme), v51], Ent.own 75 S50 v51 x48.Races, Ent.blk b8 24 #[(.int .i64 a0.Boats), (.int .i64 a0.Scheme), v1], Ent.snap w0 w0.heap.size] w') Tryz_mixed ?_
 have hL := hL.call (Mod.drew _)
 have hS := (hL.sel [0, 1, 2, 3, 4, 5] (by decide) rfl)
 refine DH.take 0 rfl (by kernel_rfl) (by kernel_rfl) (by kernel_rfl) rfl rfl hS (YH.val (v := (.agg #[(.int .i64 x48.Boats), (.int .i64 x48.Scheme), v51])) (fun w' hS' => x_loadN (cs := [(.int .i64 x48.Boats), (.int .i64 x48.Scheme), v51]) U33 Tryz_T33 rfl f83 (hS'.cellsB 2 rfl (o := 0) (l := [(.int .i64 x48.Boats), (.int .i64 x48.Scheme), v51]) (by intro j u hj; exact (by simpa using hj))))) ?_
 have hS := (hL.sel [0, 1, 2, 3, 4, 5] (by decide) rfl)
 refine DH.take 1 rfl (by kernel_rfl) (by kernel_rfl) (by kernel_rfl) rfl rfl hS (YH.val (v := (.agg #[(.int .i64 a0.Boats), (.int .i64 a0.Scheme), v1])) (fun w' hS' => x_loadN (cs := [(.int .i64 a0.Boats), (.int .i64 a0.Scheme), v1]) U24 Tryz_T24 rfl f82 (hS'.cellsB 4 rfl (o := 0) (l := [(.int .i64 a0.Boats), (.int .i64 a0.Scheme), v1]) (by intro j u hj; exact (by simpa using hj))))) ?_
 obtain ⟨x100, hx101, hm⟩ := bndE hm
 refine DH.only 2 rfl (by kernel_rfl) (OP.call rfl (x_call (vs := [(.agg #[(.int .i64 a0.Boats), (.int .i64 a0.Scheme), v1])]) Tryz_C7 ⟨rfl, trivial⟩) (M.laws_toSeries_ok _ a0 (hL.rdS 5 rfl h2) hx101) ?_)
 rintro e104 wd105 ⟨v103, S102, rfl, hF106⟩
 refine ⟨_, rfl, ?_⟩
 have hL := hL.pushAll hF106
 simp only [lA, lB, lC, lD] at hL
 refine ⟨(hL.sel [1, 2, 3, 4, 5, 6] (by decide) rfl), ?_⟩
 obtain ⟨x107, hx108, hm⟩ := bndE hm
 refine DH.only 3 rfl (by kernel_rfl) (OP.call rfl (x_call (vs := [(.agg #[(.int .i64 x48.Boats), (.int .i64 x48.Scheme), v51]), (.agg #[(.int .i64 x100.Boats), (.int .i64 x100.Scheme), v103])]) Tryz_C11 ⟨rfl, rfl, trivial⟩) (M.laws_eqSeries_ok _ x48 (hL.rdO 4 rfl) x100 (hL.rdO 0 rfl) hx108) ?_)
 rintro e109 wd110 ⟨rfl, hF111⟩
 refine ⟨_, rfl, ?_⟩
 have hL := hL.pushAll hF111
 simp only [lA, lB, lC, lD] at hL
 refine ⟨(hL.sel [1, 2, 3, 4, 5, 6] (by decide) rfl), ?_⟩
 have hS := (hL.sel [1, 2, 3, 4, 5, 6] (by decide) rfl)
 refine DH.take 4 rfl (by kernel_rfl) (by kernel_rfl) (by kernel_rfl) rfl rfl hS (YH.val (v := (.bool (!x107))) (fun w' hS' => x_not rfl)) ?_
 refine DH.done (by kernel_rfl) ?_
 refine CW.condM (t := !x107) rfl hm (fun hb112 hm => ?_) (fun hb112 hm => ?_)
 · refine CSR ?_
   refine OV (.bool false) rfl (x_assign) ?_
   refine OW.nil ?_
   refine CW.ret ?_
   obtain rfl := Option.some.inj hm
   exact RR1 rfl rfl ⟨rfl, hL.fresh 6 rfl [] (by decide) (by decide) rfl⟩
 refine CW.skip ?_
 refine CW.seq ?_
 refine CSR ?_
 refine OV v61 rfl (x_mv f84) ?_
 refine OV v3 rfl (x_mv f80) ?_
 obtain ⟨x113, hx114, hm⟩ := bndE hm
 refine OW.cons (OP.call rfl (x_call (vs := [v3]) Tryz_C8 ⟨rfl, trivial⟩) (M.laws_toPenaltyS_ok _ a1 (hL.rdS 6 rfl h4) hx114) ?_)
 rintro e117 wd118 ⟨v116, S115, rfl, hF119⟩
 refine ⟨_, rfl, ?_⟩
 have hL := hL.pushAll hF119
 simp only [lA, lB, lC, lD] at hL
 obtain ⟨x120, hx121, hm⟩ := bndE hm
 refine OW.cons (OP.call rfl (x_call (vs := [v61, v116]) Tryz_C12 ⟨rfl, rfl, trivial⟩) (M.laws_eqPenaltyS_ok _ x58 (hL.rdO 3 rfl) x113 (hL.rdO 0 rfl) hx121) ?_)
 rintro e122 wd123 ⟨rfl, hF124⟩
 refine ⟨_, rfl, ?_⟩
 have hL := hL.pushAll hF124
 simp only [lA, lB, lC, lD] at hL
 refine OV (.bool (!x120)) rfl (x_not rfl) ?_
 refine OW.nil ?_
 refine CW.condM (t := !x120) rfl hm (fun hb125 hm => ?_) (fun hb125 hm => ?_)
 · refine CSR ?_
   refine OV (.bool false) rfl (x_assign) ?_
   refine OW.nil ?_
   refine CW.ret ?_
   obtain rfl := Option.some.inj hm
   exact RR1 rfl rfl ⟨rfl, hL.fresh 7 rfl [] (by decide) (by decide) rfl⟩
 refine CW.skip ?_
 refine CW.seq ?_
 refine CSR ?_
 refine OV v68 rfl (x_mv f85) ?_
 refine OV v5 rfl (x_mv f81) ?_
 obtain ⟨x126, hx127, hm⟩ := bndE hm
 refine OW.cons (OP.call rfl (x_call (vs := [v5]) Tryz_C9 ⟨rfl, trivial⟩) (M.laws_toInt64S_ok _ a2 (hL.rdS 7 rfl h6) hx127) ?_)
 rintro e130 wd131 ⟨v129, S128, rfl, hF132⟩
 refine ⟨_, rfl, ?_⟩
 have hL := hL.pushAll hF132
 simp only [lA, lB, lC, lD] at hL
 obtain ⟨x133, hx134, hm⟩ := bndE hm
 refine OW.cons (OP.call rfl (x_call (vs := [v68, v129]) Tryz_C13 ⟨rfl, rfl, trivial⟩) (M.laws_eqInt64S_ok _ x65 (hL.rdO 3 rfl) x126 (hL.rdO 0 rfl) hx134) ?_)
 rintro e135 wd136 ⟨rfl, hF137⟩
 refine ⟨_, rfl, ?_⟩
 have hL := hL.pushAll hF137
 simp only [lA, lB, lC, lD] at hL
 refine OV (.bool (!x133)) rfl (x_not rfl) ?_
 refine OW.nil ?_
 refine CW.condM (t := !x133) rfl hm (fun hb138 hm => ?_) (fun hb138 hm => ?_)
 · refine CSR ?_
   refine OV (.bool false) rfl (x_assign) ?_
   refine OW.nil ?_
   refine CW.ret ?_
   obtain rfl := Option.some.inj hm
   exact RR1 rfl rfl ⟨rfl, hL.fresh 8 rfl [] (by decide) (by decide) rfl⟩
 refine CW.skip ?_
 refine CSR ?_
 refine OV (.bool true) rfl (x_assign) ?_
 refine OW.nil ?_
 refine CW.ret ?_
 obtain rfl := Option.some.inj hm
 exact RR1 rfl rfl ⟨rfl, hL.fresh 8 rfl [] (by decide) (by decide) rfl⟩

end Go.Proofs.YtgelmamcinlahaaGreat
