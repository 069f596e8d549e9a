/- Links: each Go function returns what its model computes and leaves what was there. Printed by my generator. -/
import Derived.Test.YtblljgcbffkahaaLnkFnExactTableOfB
namespace Go.Proofs.Ytblljgcbffkahaa
set_option maxRecDepth 10000
open Go Go.RowKit Go.ChangeShapes Go.WideShapes
set_option linter.unusedVariables false
set_option linter.unusedSimpArgs false

theorem M.laws_FnExactTableOf_ok (w0 : World) (a0 : Series) {v1 : Value} (h2 : rdL (· < w0.heap.size) w0 v1 a0.Races) {r : Bool} (hm : M.laws_FnExactTableOf a0 = some r) :
    Calls Try.prog 12 #[(.agg #[(.int .i64 a0.Boats), (.int .i64 a0.Scheme), v1])] w0 fun e w' => e = .returned (.bool r) ∧ Fresh w0 w' [] := by
  unfold M.laws_FnExactTableOf at hm
  refine calls_CW (args := [(.agg #[(.int .i64 a0.Boats), (.int .i64 a0.Scheme), v1])]) Try.func12 rfl rfl rfl ?_
  have hL := Hp.start w0
  refine CW.seq ?_
  refine CW.regionL ?_
  refine OW.cons (S_box (cs := #[(.int .i64 a0.Boats), (.int .i64 a0.Scheme), v1]) hL rfl rfl rfl ?_)
  intro wd3 b4 hL
  refine OW.cons (OP.val (v := (.bool false)) rfl (x_assign) ?_)
  refine OW.nil ?_
  refine CW.seq ?_
  refine CW.regionL ?_
  refine OW.cons (OP.val (v := (.int .i64 1048576)) rfl (x_assign) ?_)
  refine OW.nil ?_
  refine CW.seq ?_
  refine CW.regionL ?_
  refine OW.cons (OP.val (v := (.agg #[(.int .i64 a0.Boats), (.int .i64 a0.Scheme), v1])) rfl (x_loadN (cs := [(.int .i64 a0.Boats), (.int .i64 a0.Scheme), v1]) Try.underlying44 Try_T44 rfl rfl (hL.cellsB 0 rfl (o := 0) (l := [(.int .i64 a0.Boats), (.int .i64 a0.Scheme), v1]) (by intro j u hj; exact (by simpa using hj)))) ?_)
  refine OW.cons (OP.val (v := (.int .i64 1048576)) rfl (x_move) ?_)
  obtain ⟨x5, hx6, hm⟩ := bndE hm
  refine OW.cons (OP.call rfl (x_call (vs := [(.agg #[(.int .i64 a0.Boats), (.int .i64 a0.Scheme), v1]), (.int .i64 1048576)]) Try_C23 ⟨rfl, rfl, trivial⟩) (M.laws_szSeries_ok _ a0 (hL.rdS 1 rfl h2) 1048576 hx6) ?_)
  rintro e7 wd8 ⟨rfl, hF9⟩
  refine ⟨_, rfl, ?_⟩
  have hL := hL.pushAll hF9
  simp only [List.cons_append, List.nil_append, List.set_cons_zero, List.set_cons_succ] at hL
  refine OW.cons (OP.val (v := (.int .i64 x5)) rfl (x_assign) ?_)
  refine OW.nil ?_
  refine CW.seq ?_
  refine CW.seq ?_
  refine CW.regionL ?_
  refine OW.cons (OP.val (v := (.int .i64 x5)) rfl (x_move) ?_)
  refine OW.cons (OP.val (v := (.bool (decide (x5 < 0)))) rfl (x_lss rfl rfl) ?_)
  refine OW.nil ?_
  refine CW.condM (t := decide (x5 < 0)) rfl hm (fun hb10 hm => ?_) (fun hb10 hm => ?_)
  · refine CW.seq ?_
    refine CW.regionL ?_
    refine OW.cons (OP.val (v := (.bool true)) rfl (x_assign) ?_)
    refine OW.nil ?_
    refine CW.ret ?_
    obtain rfl := Option.some.inj hm
    exact RR1 rfl rfl ⟨rfl, hL.fresh 1 rfl [] (by decide) (by decide) rfl⟩
  · refine CW.skip ?_
    refine CW.seq ?_
    refine CW.regionL ?_
    refine OW.cons (OP.val (v := (.agg #[(.int .i64 a0.Boats), (.int .i64 a0.Scheme), v1])) rfl (x_loadN (cs := [(.int .i64 a0.Boats), (.int .i64 a0.Scheme), v1]) Try.underlying44 Try_T44 rfl rfl (hL.cellsB 0 rfl (o := 0) (l := [(.int .i64 a0.Boats), (.int .i64 a0.Scheme), v1]) (by intro j u hj; exact (by simpa using hj)))) ?_)
    obtain ⟨x11, hx12, hm⟩ := bndE hm
    refine OW.cons (OP.call rfl (x_call (vs := [(.agg #[(.int .i64 a0.Boats), (.int .i64 a0.Scheme), v1])]) Try_C25 ⟨rfl, trivial⟩) (M.laws_toSeries_ok _ a0 (hL.rdS 1 rfl h2) hx12) ?_)
    rintro e15 wd16 ⟨v14, S13, rfl, hF17⟩
    refine ⟨_, rfl, ?_⟩
    have hL := hL.pushAll hF17
    simp only [List.cons_append, List.nil_append, List.set_cons_zero, List.set_cons_succ] at hL
    obtain ⟨x18, hx19, hm⟩ := bndE hm
    refine OW.cons (OP.call rfl (x_call (vs := [(.agg #[(.int .i64 x11.Boats), (.int .i64 x11.Scheme), v14])]) Try_C41 ⟨rfl, trivial⟩) (M.spec_TableOf_ok _ x11 (hL.rdO 0 rfl) hx19) ?_)
    rintro e24 wd25 ⟨v21, S20, v23, S22, rfl, hF26⟩
    refine ⟨_, rfl, ?_⟩
    have hL := hL.pushAll hF26
    simp only [List.cons_append, List.nil_append, List.set_cons_zero, List.set_cons_succ] at hL
    refine OW.cons (OP.val (v := (.tuple #[(.agg #[(.int .i64 x18.1.Boats), v21, v23]), (.int .i64 x18.2)])) rfl (x_move) ?_)
    refine OW.cons (OP.val (v := (.agg #[(.int .i64 x18.1.Boats), v21, v23])) rfl (x_extract rfl rfl) ?_)
    refine OW.cons (OP.val (v := (.int .i64 x18.2)) rfl (x_extract rfl rfl) ?_)
    refine OW.cons (S_alloc (cs := #[(.int .i64 0), (.slice none 0 0), (.slice none 0 0)]) hL Try_T38 rfl rfl ?_)
    intro wd27 b28 hL
    refine OW.cons (S_storeN (l := [(.int .i64 x18.1.Boats), v21, v23]) (cs' := #[(.int .i64 x18.1.Boats), v21, v23]) hL 0 rfl Try_T38 rfl rfl (List.forall_mem_cons.2 ⟨rfl, (List.forall_mem_cons.2 ⟨rdL_one (hL.rdO 1 rfl), (List.forall_mem_cons.2 ⟨rdL_one (hL.rdO 2 rfl), (fun _ h => by cases h)⟩)⟩)⟩) rfl (Nat.le_of_ble_eq_true rfl) rfl ?_)
    intro wd29 hL
    refine OW.cons (OP.val (v := (.int .i64 x18.2)) rfl (x_assign) ?_)
    refine OW.nil ?_
    refine CW.seq ?_
    refine CW.regionL ?_
    refine OW.cons (OP.val (v := (.agg #[(.int .i64 a0.Boats), (.int .i64 a0.Scheme), v1])) rfl (x_loadN (cs := [(.int .i64 a0.Boats), (.int .i64 a0.Scheme), v1]) Try.underlying44 Try_T44 rfl rfl (hL.cellsB 4 rfl (o := 0) (l := [(.int .i64 a0.Boats), (.int .i64 a0.Scheme), v1]) (by intro j u hj; exact (by simpa using hj)))) ?_)
    obtain ⟨x30, hx31, hm⟩ := bndE hm
    refine OW.cons (OP.call rfl (x_call (vs := [(.agg #[(.int .i64 a0.Boats), (.int .i64 a0.Scheme), v1])]) Try_C25 ⟨rfl, trivial⟩) (M.laws_toSeries_ok _ a0 (hL.rdS 5 rfl h2) hx31) ?_)
    rintro e34 wd35 ⟨v33, S32, rfl, hF36⟩
    refine ⟨_, rfl, ?_⟩
    have hL := hL.pushAll hF36
    simp only [List.cons_append, List.nil_append, List.set_cons_zero, List.set_cons_succ] at hL
    refine OW.cons (S_alloc (cs := #[(.int .i64 0), (.int .i64 0), (.slice none 0 0)]) hL Try_T49 rfl rfl ?_)
    intro wd37 b38 hL
    refine OW.cons (S_storeN (l := [(.int .i64 x30.Boats), (.int .i64 x30.Scheme), v33]) (cs' := #[(.int .i64 x30.Boats), (.int .i64 x30.Scheme), v33]) hL 0 rfl Try_T49 rfl rfl (List.forall_mem_cons.2 ⟨rfl, (List.forall_mem_cons.2 ⟨rfl, (List.forall_mem_cons.2 ⟨rdL_one (hL.rdO 1 rfl), (fun _ h => by cases h)⟩)⟩)⟩) rfl (Nat.le_of_ble_eq_true rfl) rfl ?_)
    intro wd39 hL
    refine OW.nil ?_
    refine CW.seq ?_
    refine CW.regionL ?_
    refine OW.cons (OP.val (v := (.agg #[(.int .i64 x30.Boats), (.int .i64 x30.Scheme), v33])) rfl (x_loadN (cs := [(.int .i64 x30.Boats), (.int .i64 x30.Scheme), v33]) Try.underlying49 Try_T49 rfl rfl (hL.cellsB 0 rfl (o := 0) (l := [(.int .i64 x30.Boats), (.int .i64 x30.Scheme), v33]) (by intro j u hj; exact (by simpa using hj)))) ?_)
    obtain ⟨x40, hx41, hm⟩ := bndE hm
    refine OW.cons (OP.call rfl (x_call (vs := [(.agg #[(.int .i64 x30.Boats), (.int .i64 x30.Scheme), v33])]) Try_C40 ⟨rfl, trivial⟩) (M.impl_TableOf_ok _ x30 (hL.rdO 1 rfl) hx41) ?_)
    rintro e46 wd47 ⟨v43, S42, v45, S44, rfl, hF48⟩
    refine ⟨_, rfl, ?_⟩
    have hL := hL.pushAll hF48
    simp only [List.cons_append, List.nil_append, List.set_cons_zero, List.set_cons_succ] at hL
    refine OW.cons (OP.val (v := (.tuple #[(.agg #[(.int .i64 x40.1.Boats), v43, v45]), (.int .i64 x40.2)])) rfl (x_move) ?_)
    refine OW.cons (OP.val (v := (.agg #[(.int .i64 x40.1.Boats), v43, v45])) rfl (x_extract rfl rfl) ?_)
    refine OW.cons (OP.val (v := (.int .i64 x40.2)) rfl (x_extract rfl rfl) ?_)
    refine OW.cons (S_alloc (cs := #[(.int .i64 0), (.slice none 0 0), (.slice none 0 0)]) hL Try_T38 rfl rfl ?_)
    intro wd49 b50 hL
    refine OW.cons (S_storeN (l := [(.int .i64 x40.1.Boats), v43, v45]) (cs' := #[(.int .i64 x40.1.Boats), v43, v45]) hL 0 rfl Try_T38 rfl rfl (List.forall_mem_cons.2 ⟨rfl, (List.forall_mem_cons.2 ⟨rdL_one (hL.rdO 1 rfl), (List.forall_mem_cons.2 ⟨rdL_one (hL.rdO 2 rfl), (fun _ h => by cases h)⟩)⟩)⟩) rfl (Nat.le_of_ble_eq_true rfl) rfl ?_)
    intro wd51 hL
    refine OW.cons (OP.val (v := (.int .i64 x40.2)) rfl (x_assign) ?_)
    refine OW.nil ?_
    refine CW.seq ?_
    refine CW.seqJ (fun (s_j1 : Bool) (F : Fr) (w : World) => F 1 = (.pointer (some ⟨b4, 0, none⟩)) ∧ F 4 = (.pointer (some ⟨b28, 0, none⟩)) ∧ F 5 = (.int .i64 x18.2) ∧ F 6 = (.pointer (some ⟨b38, 0, none⟩)) ∧ F 7 = (.pointer (some ⟨b50, 0, none⟩)) ∧ F 8 = (.int .i64 x40.2) ∧ F 40 = (.bool s_j1) ∧ Hp w0 [Ent.blk b50 38 #[(.int .i64 x40.1.Boats), v43, v45], Ent.own 53 S42 v43 x40.1.Points, Ent.own 53 S44 v45 x40.1.Codes, Ent.blk b38 49 #[(.int .i64 x30.Boats), (.int .i64 x30.Scheme), v33], Ent.own 29 S32 v33 x30.Races, Ent.blk b28 38 #[(.int .i64 x18.1.Boats), v21, v23], Ent.own 53 S20 v21 x18.1.Points, Ent.own 53 S22 v23 x18.1.Codes, Ent.blk b4 44 #[(.int .i64 a0.Boats), (.int .i64 a0.Scheme), v1], Ent.snap w0 w0.heap.size] w) (fun s_j1 => M.laws_FnExactTableOf_j1 a0 x18 x30 x40 s_j1 = some r) ?_ ?_
    · refine CW.regionL ?_
      refine OW.cons (OP.val (v := (.agg #[(.int .i64 x40.1.Boats), v43, v45])) rfl (x_loadN (cs := [(.int .i64 x40.1.Boats), v43, v45]) Try.underlying38 Try_T38 rfl rfl (hL.cellsB 0 rfl (o := 0) (l := [(.int .i64 x40.1.Boats), v43, v45]) (by intro j u hj; exact (by simpa using hj)))) ?_)
      refine OW.cons (OP.val (v := (.agg #[(.int .i64 x18.1.Boats), v21, v23])) rfl (x_loadN (cs := [(.int .i64 x18.1.Boats), v21, v23]) Try.underlying38 Try_T38 rfl rfl (hL.cellsB 5 rfl (o := 0) (l := [(.int .i64 x18.1.Boats), v21, v23]) (by intro j u hj; exact (by simpa using hj)))) ?_)
      obtain ⟨x179, hx180, hm⟩ := bndE hm
      refine OW.cons (OP.call rfl (x_call (vs := [(.agg #[(.int .i64 x40.1.Boats), v43, v45]), (.agg #[(.int .i64 x18.1.Boats), v21, v23])]) Try_C22 ⟨rfl, rfl, trivial⟩) (M.laws_eqTable_ok _ x40.1 (hL.rdO 1 rfl) (hL.rdO 2 rfl) x18.1 (hL.rdO 6 rfl) (hL.rdO 7 rfl) hx180) ?_)
      rintro e181 wd182 ⟨rfl, hF183⟩
      refine ⟨_, rfl, ?_⟩
      have hL := hL.pushAll hF183
      simp only [List.cons_append, List.nil_append, List.set_cons_zero, List.set_cons_succ] at hL
      refine OW.cons (OP.val (v := (.bool (!x179))) rfl (x_not rfl) ?_)
      refine OW.cons (OP.val (v := (.bool (!x179))) rfl (x_move) ?_)
      refine ifB_elim hm (fun hb184 hm => ?_) (fun hb184 hm => ?_)
      · refine OW.cons (OP.no' rfl rfl hb184 rfl ?_)
        refine OW.cons (OP.no' rfl rfl hb184 rfl ?_)
        refine OW.cons (OP.no' rfl rfl hb184 rfl ?_)
        refine OW.cons (OP.val (v := (.bool true)) rfl (x_pickT' rfl hb184 rfl) ?_)
        refine OW.nil ?_
        have hL := hL.sel [0, 1, 2, 3, 4, 5, 6, 7, 9, 10] (by decide) rfl
        exact ⟨true, hm, ⟨rfl, rfl, rfl, rfl, rfl, rfl, rfl, hL⟩⟩
      · refine OW.cons (OP.yes' rfl rfl hb184 (OP.val (v := (.int .i64 x40.2)) rfl (x_move) ?_))
        refine OW.cons (OP.yes' rfl rfl hb184 (OP.val (v := (.int .i64 x18.2)) rfl (x_move) ?_))
        refine OW.cons (OP.yes' rfl rfl hb184 (OP.val (v := (.bool (x40.2 != x18.2))) rfl (x_neq rfl rfl) ?_))
        refine OW.cons (OP.val (v := (.bool (x40.2 != x18.2))) rfl (x_pickF' rfl hb184 rfl) ?_)
        refine OW.nil ?_
        have hL := hL.sel [0, 1, 2, 3, 4, 5, 6, 7, 9, 10] (by decide) rfl
        exact ⟨x40.2 != x18.2, hm, ⟨rfl, rfl, rfl, rfl, rfl, rfl, rfl, hL⟩⟩
    · intro s_j1 F58 wd59 hJ hm
      unfold M.laws_FnExactTableOf_j1 at hm
      obtain ⟨f60, f61, f62, f63, f64, f65, f66, hL⟩ := hJ
      refine CW.condM (t := s_j1) f66 hm (fun hb67 hm => ?_) (fun hb67 hm => ?_)
      · refine CW.seq ?_
        refine CW.regionL ?_
        refine OW.cons (OP.val (v := (.bool false)) rfl (x_assign) ?_)
        refine OW.nil ?_
        refine CW.ret ?_
        obtain rfl := Option.some.inj hm
        exact RR1 rfl rfl ⟨rfl, hL.fresh 9 rfl [] (by decide) (by decide) rfl⟩
      · refine CW.skip ?_
        refine CW.seq ?_
        refine CW.seq ?_
        refine CW.drawH (fun w' => Hp w0 [Ent.blk b50 38 #[(.int .i64 x40.1.Boats), v43, v45], Ent.own 53 S42 v43 x40.1.Points, Ent.own 53 S44 v45 x40.1.Codes, Ent.blk b38 49 #[(.int .i64 x30.Boats), (.int .i64 x30.Scheme), v33], Ent.own 29 S32 v33 x30.Races, Ent.blk b28 38 #[(.int .i64 x18.1.Boats), v21, v23], Ent.own 53 S20 v21 x18.1.Points, Ent.own 53 S22 v23 x18.1.Codes, Ent.blk b4 44 #[(.int .i64 a0.Boats), (.int .i64 a0.Scheme), v1], Ent.snap w0 w0.heap.size] w') Try_mixed ?_
        have hL := hL.call (Mod.drew _)
        have hS := (hL.sel [0, 1, 2, 3, 4, 5, 6, 7, 8, 9] (by decide) rfl)
        refine DH.take 0 rfl (by kernel_rfl) (by kernel_rfl) (by kernel_rfl) rfl rfl hS (YH.val (v := (.agg #[(.int .i64 x30.Boats), (.int .i64 x30.Scheme), v33])) (fun w' hS' => x_loadN (cs := [(.int .i64 x30.Boats), (.int .i64 x30.Scheme), v33]) Try.underlying49 Try_T49 rfl f63 (hS'.cellsB 3 rfl (o := 0) (l := [(.int .i64 x30.Boats), (.int .i64 x30.Scheme), v33]) (by intro j u hj; exact (by simpa using hj))))) ?_
        have hS := (hL.sel [0, 1, 2, 3, 4, 5, 6, 7, 8, 9] (by decide) rfl)
        refine DH.take 1 rfl (by kernel_rfl) (by kernel_rfl) (by kernel_rfl) rfl rfl hS (YH.val (v := (.agg #[(.int .i64 a0.Boats), (.int .i64 a0.Scheme), v1])) (fun w' hS' => x_loadN (cs := [(.int .i64 a0.Boats), (.int .i64 a0.Scheme), v1]) Try.underlying44 Try_T44 rfl f60 (hS'.cellsB 8 rfl (o := 0) (l := [(.int .i64 a0.Boats), (.int .i64 a0.Scheme), v1]) (by intro j u hj; exact (by simpa using hj))))) ?_
        obtain ⟨x80, hx81, hm⟩ := bndE hm
        refine DH.only 2 rfl (by kernel_rfl) (OP.call rfl (x_call (vs := [(.agg #[(.int .i64 a0.Boats), (.int .i64 a0.Scheme), v1])]) Try_C25 ⟨rfl, trivial⟩) (M.laws_toSeries_ok _ a0 (hL.rdS 9 rfl h2) hx81) ?_)
        rintro e84 wd85 ⟨v83, S82, rfl, hF86⟩
        refine ⟨_, rfl, ?_⟩
        have hL := hL.pushAll hF86
        simp only [List.cons_append, List.nil_append, List.set_cons_zero, List.set_cons_succ] at hL
        refine ⟨(hL.sel [1, 2, 3, 4, 5, 6, 7, 8, 9, 10] (by decide) rfl), ?_⟩
        obtain ⟨x87, hx88, hm⟩ := bndE hm
        refine DH.only 3 rfl (by kernel_rfl) (OP.call rfl (x_call (vs := [(.agg #[(.int .i64 x30.Boats), (.int .i64 x30.Scheme), v33]), (.agg #[(.int .i64 x80.Boats), (.int .i64 x80.Scheme), v83])]) Try_C27 ⟨rfl, rfl, trivial⟩) (M.laws_eqSeries_ok _ x30 (hL.rdO 5 rfl) x80 (hL.rdO 0 rfl) hx88) ?_)
        rintro e89 wd90 ⟨rfl, hF91⟩
        refine ⟨_, rfl, ?_⟩
        have hL := hL.pushAll hF91
        simp only [List.cons_append, List.nil_append, List.set_cons_zero, List.set_cons_succ] at hL
        refine ⟨(hL.sel [1, 2, 3, 4, 5, 6, 7, 8, 9, 10] (by decide) rfl), ?_⟩
        have hS := (hL.sel [1, 2, 3, 4, 5, 6, 7, 8, 9, 10] (by decide) rfl)
        refine DH.take 4 rfl (by kernel_rfl) (by kernel_rfl) (by kernel_rfl) rfl rfl hS (YH.val (v := (.bool (!x87))) (fun w' hS' => x_not rfl)) ?_
        refine DH.done (by kernel_rfl) ?_
        refine CW.condM (t := !x87) rfl hm (fun hb92 hm => ?_) (fun hb92 hm => ?_)
        · refine CW.seq ?_
          refine CW.regionL ?_
          refine OW.cons (OP.val (v := (.bool false)) rfl (x_assign) ?_)
          refine OW.nil ?_
          refine CW.ret ?_
          obtain rfl := Option.some.inj hm
          exact RR1 rfl rfl ⟨rfl, hL.fresh 10 rfl [] (by decide) (by decide) rfl⟩
        · refine CW.skip ?_
          refine CW.seq ?_
          refine CW.regionL ?_
          refine OW.cons (OP.val (v := (.int .i64 1)) rfl (x_assign) ?_)
          refine OW.nil ?_
          refine CW.seq ?_
          refine CW.regionL ?_
          refine OW.cons (OP.val (v := (.agg #[(.int .i64 x30.Boats), (.int .i64 x30.Scheme), v33])) rfl (x_loadN (cs := [(.int .i64 x30.Boats), (.int .i64 x30.Scheme), v33]) Try.underlying49 Try_T49 rfl f63 (hL.cellsB 4 rfl (o := 0) (l := [(.int .i64 x30.Boats), (.int .i64 x30.Scheme), v33]) (by intro j u hj; exact (by simpa using hj)))) ?_)
          refine OW.cons (OP.val (v := (.int .i64 1)) rfl (x_move) ?_)
          obtain ⟨x93, hx94, hm⟩ := bndE hm
          refine OW.cons (OP.call rfl (x_call (vs := [(.agg #[(.int .i64 x30.Boats), (.int .i64 x30.Scheme), v33]), (.int .i64 1)]) Try_C47 ⟨rfl, rfl, trivial⟩) (M.laws_markSeries_ok _ (Series.mk x30.Boats x30.Scheme x30.Races) (hL.get 5 rfl) 1 hx94) ?_)
          rintro e95 wd96 ⟨S98, rfl, hF97⟩
          refine ⟨_, rfl, ?_⟩
          have hL := hL.mut 5 rfl hF97
          simp only [List.cons_append, List.nil_append, List.set_cons_zero, List.set_cons_succ] at hL
          refine OW.cons (OP.val (v := (.int .i64 x93.1)) rfl (x_assign) ?_)
          refine OW.nil ?_
          refine CW.seq ?_
          refine CW.seqJ (fun (s_j2 : Bool) (F : Fr) (w : World) => F 1 = (.pointer (some ⟨b4, 0, none⟩)) ∧ F 4 = (.pointer (some ⟨b28, 0, none⟩)) ∧ F 5 = (.int .i64 x18.2) ∧ F 7 = (.pointer (some ⟨b50, 0, none⟩)) ∧ F 61 = (.bool s_j2) ∧ Hp w0 [Ent.blk b50 38 #[(.int .i64 x40.1.Boats), v43, v45], Ent.own 53 S42 v43 x40.1.Points, Ent.own 53 S44 v45 x40.1.Codes, Ent.blk b38 49 #[(.int .i64 x30.Boats), (.int .i64 x30.Scheme), v33], Ent.own 29 S98 v33 x93.2.Races, Ent.blk b28 38 #[(.int .i64 x18.1.Boats), v21, v23], Ent.own 53 S20 v21 x18.1.Points, Ent.own 53 S22 v23 x18.1.Codes, Ent.blk b4 44 #[(.int .i64 a0.Boats), (.int .i64 a0.Scheme), v1], Ent.snap w0 w0.heap.size] w) (fun s_j2 => M.laws_FnExactTableOf_j2 a0 x18 x40 s_j2 = some r) ?_ ?_
          · refine CW.regionL ?_
            refine OW.cons (OP.val (v := (.int .i64 x93.1)) rfl (x_move) ?_)
            refine OW.cons (OP.val (v := (.bool (decide (x93.1 < 0)))) rfl (x_lss rfl rfl) ?_)
            refine OW.cons (OP.val (v := (.bool (decide (x93.1 < 0)))) rfl (x_move) ?_)
            refine ifB_elim hm (fun hb172 hm => ?_) (fun hb172 hm => ?_)
            · refine OW.cons (OP.no' rfl rfl hb172 rfl ?_)
              refine OW.cons (OP.no' rfl rfl hb172 rfl ?_)
              refine OW.cons (OP.no' rfl rfl hb172 rfl ?_)
              refine OW.cons (OP.no' rfl rfl hb172 rfl ?_)
              refine OW.cons (OP.val (v := (.bool true)) rfl (x_pickT' rfl hb172 rfl) ?_)
              refine OW.cons (OP.val (v := (.bool true)) rfl (x_move) ?_)
              refine OW.cons (OP.no' rfl rfl rfl rfl ?_)
              refine OW.cons (OP.no' rfl rfl rfl rfl ?_)
              refine OW.cons (OP.no' rfl rfl rfl rfl ?_)
              refine OW.cons (OP.val (v := (.bool true)) rfl (x_pickT' rfl rfl rfl) ?_)
              refine OW.nil ?_
              have hL := hL.sel [1, 2, 3, 4, 5, 6, 7, 8, 9, 10] (by decide) rfl
              exact ⟨true, hm, ⟨f60, f61, f62, f64, rfl, hL⟩⟩
            · refine OW.cons (OP.yes' rfl rfl hb172 (OP.val (v := (.agg #[(.int .i64 x40.1.Boats), v43, v45])) rfl (x_loadN (cs := [(.int .i64 x40.1.Boats), v43, v45]) Try.underlying38 Try_T38 rfl f64 (hL.cellsB 1 rfl (o := 0) (l := [(.int .i64 x40.1.Boats), v43, v45]) (by intro j u hj; exact (by simpa using hj)))) ?_))
              refine OW.cons (OP.yes' rfl rfl hb172 (OP.val (v := (.agg #[(.int .i64 x18.1.Boats), v21, v23])) rfl (x_loadN (cs := [(.int .i64 x18.1.Boats), v21, v23]) Try.underlying38 Try_T38 rfl f61 (hL.cellsB 6 rfl (o := 0) (l := [(.int .i64 x18.1.Boats), v21, v23]) (by intro j u hj; exact (by simpa using hj)))) ?_))
              obtain ⟨x173, hx174, hm⟩ := bndE hm
              refine OW.cons (OP.yes' rfl rfl hb172 (OP.call rfl (x_call (vs := [(.agg #[(.int .i64 x40.1.Boats), v43, v45]), (.agg #[(.int .i64 x18.1.Boats), v21, v23])]) Try_C22 ⟨rfl, rfl, trivial⟩) (M.laws_eqTable_ok _ x40.1 (hL.rdO 2 rfl) (hL.rdO 3 rfl) x18.1 (hL.rdO 7 rfl) (hL.rdO 8 rfl) hx174) ?_))
              rintro e175 wd176 ⟨rfl, hF177⟩
              refine ⟨_, rfl, ?_⟩
              have hL := hL.pushAll hF177
              simp only [List.cons_append, List.nil_append, List.set_cons_zero, List.set_cons_succ] at hL
              refine OW.cons (OP.yes' rfl rfl hb172 (OP.val (v := (.bool (!x173))) rfl (x_not rfl) ?_))
              refine OW.cons (OP.val (v := (.bool (!x173))) rfl (x_pickF' rfl hb172 rfl) ?_)
              refine OW.cons (OP.val (v := (.bool (!x173))) rfl (x_move) ?_)
              refine ifB_elim hm (fun hb178 hm => ?_) (fun hb178 hm => ?_)
              · refine OW.cons (OP.no' rfl rfl hb178 rfl ?_)
                refine OW.cons (OP.no' rfl rfl hb178 rfl ?_)
                refine OW.cons (OP.no' rfl rfl hb178 rfl ?_)
                refine OW.cons (OP.val (v := (.bool true)) rfl (x_pickT' rfl hb178 rfl) ?_)
                refine OW.nil ?_
                have hL := hL.sel [1, 2, 3, 4, 5, 6, 7, 8, 9, 10] (by decide) rfl
                exact ⟨true, hm, ⟨f60, f61, f62, f64, rfl, hL⟩⟩
              · refine OW.cons (OP.yes' rfl rfl hb178 (OP.val (v := (.int .i64 x40.2)) rfl (x_mv f65) ?_))
                refine OW.cons (OP.yes' rfl rfl hb178 (OP.val (v := (.int .i64 x18.2)) rfl (x_mv f62) ?_))
                refine OW.cons (OP.yes' rfl rfl hb178 (OP.val (v := (.bool (x40.2 != x18.2))) rfl (x_neq rfl rfl) ?_))
                refine OW.cons (OP.val (v := (.bool (x40.2 != x18.2))) rfl (x_pickF' rfl hb178 rfl) ?_)
                refine OW.nil ?_
                have hL := hL.sel [1, 2, 3, 4, 5, 6, 7, 8, 9, 10] (by decide) rfl
                exact ⟨x40.2 != x18.2, hm, ⟨f60, f61, f62, f64, rfl, hL⟩⟩
          · intro s_j2 F106 wd107 hJ hm
            unfold M.laws_FnExactTableOf_j2 at hm
            obtain ⟨f108, f109, f110, f111, f112, hL⟩ := hJ
            refine CW.condM (t := s_j2) f112 hm (fun hb113 hm => ?_) (fun hb113 hm => ?_)
            · refine CW.seq ?_
              refine CW.regionL ?_
              refine OW.cons (OP.val (v := (.bool false)) rfl (x_assign) ?_)
              refine OW.nil ?_
              refine CW.ret ?_
              obtain rfl := Option.some.inj hm
              exact RR1 rfl rfl ⟨rfl, hL.fresh 9 rfl [] (by decide) (by decide) rfl⟩
            · refine CW.skip ?_
              refine CW.seq ?_
              refine CW.regionL ?_
              refine OW.cons (OP.val (v := (.int .i64 1)) rfl (x_assign) ?_)
              refine OW.nil ?_
              refine CW.seq ?_
              refine CW.regionL ?_
              refine OW.cons (OP.val (v := (.agg #[(.int .i64 x40.1.Boats), v43, v45])) rfl (x_loadN (cs := [(.int .i64 x40.1.Boats), v43, v45]) Try.underlying38 Try_T38 rfl f111 (hL.cellsB 0 rfl (o := 0) (l := [(.int .i64 x40.1.Boats), v43, v45]) (by intro j u hj; exact (by simpa using hj)))) ?_)
              refine OW.cons (OP.val (v := (.int .i64 1)) rfl (x_move) ?_)
              have hL := hL.sel [1, 2, 0, 3, 4, 5, 6, 7, 8, 9] (by decide) rfl
              have hL := hL.join2
              obtain ⟨x114, hx115, hm⟩ := bndE hm
              refine OW.cons (OP.call rfl (x_call (vs := [(.agg #[(.int .i64 x40.1.Boats), v43, v45]), (.int .i64 1)]) Try_C48 ⟨rfl, rfl, trivial⟩) (M.laws_markTable_ok _ (Table.mk x40.1.Boats x40.1.Points x40.1.Codes) (hL.get 0 rfl) 1 hx115) ?_)
              rintro e116 wd117 ⟨S119, S120, rfl, hF118⟩
              refine ⟨_, rfl, ?_⟩
              have hL := hL.mut 0 rfl hF118
              simp only [List.cons_append, List.nil_append, List.set_cons_zero, List.set_cons_succ] at hL
              have hL := hL.split2
              refine OW.cons (OP.val (v := (.int .i64 x114.1)) rfl (x_assign) ?_)
              refine OW.nil ?_
              refine CW.seq ?_
              refine CW.regionL ?_
              refine OW.cons (OP.val (v := (.int .i64 1)) rfl (x_assign) ?_)
              refine OW.nil ?_
              refine CW.seq ?_
              refine CW.regionL ?_
              refine OW.cons (OP.val (v := (.agg #[(.int .i64 x40.1.Boats), v43, v45])) rfl (x_loadN (cs := [(.int .i64 x40.1.Boats), v43, v45]) Try.underlying38 Try_T38 rfl f111 (hL.cellsB 2 rfl (o := 0) (l := [(.int .i64 x40.1.Boats), v43, v45]) (by intro j u hj; exact (by simpa using hj)))) ?_)
              refine OW.cons (OP.val (v := (.int .i64 1)) rfl (x_move) ?_)
              obtain ⟨x121, hx122, hm⟩ := bndE hm
              refine OW.cons (OP.call rfl (x_call (vs := [(.agg #[(.int .i64 x40.1.Boats), v43, v45]), (.int .i64 1)]) Try_C49 ⟨rfl, rfl, trivial⟩) (M.laws_heldTable_ok _ (Table.mk x40.1.Boats x114.2.Points x114.2.Codes) (hL.rdO 0 rfl) (hL.rdO 1 rfl) 1 hx122) ?_)
              rintro e123 wd124 ⟨rfl, hF125⟩
              refine ⟨_, rfl, ?_⟩
              have hL := hL.pushAll hF125
              simp only [List.cons_append, List.nil_append, List.set_cons_zero, List.set_cons_succ] at hL
              refine OW.cons (OP.val (v := (.int .i64 x121)) rfl (x_assign) ?_)
              refine OW.nil ?_
              refine CW.seq ?_
              refine CW.seq ?_
              refine CW.regionL ?_
              refine OW.cons (OP.val (v := (.int .i64 x121)) rfl (x_move) ?_)
              refine OW.cons (OP.val (v := (.bool (decide (x121 < 0)))) rfl (x_lss rfl rfl) ?_)
              refine OW.nil ?_
              refine CW.condM (t := decide (x121 < 0)) rfl hm (fun hb126 hm => ?_) (fun hb126 hm => ?_)
              · refine CW.seq ?_
                refine CW.regionL ?_
                refine OW.cons (OP.val (v := (.bool false)) rfl (x_assign) ?_)
                refine OW.nil ?_
                refine CW.ret ?_
                obtain rfl := Option.some.inj hm
                exact RR1 rfl rfl ⟨rfl, hL.fresh 9 rfl [] (by decide) (by decide) rfl⟩
              · refine CW.skip ?_
                refine CW.seq ?_
                refine CW.seq ?_
                refine CW.regionL ?_
                refine OW.cons (OP.val (v := (.int .i64 x121)) rfl (x_move) ?_)
                refine OW.cons (OP.val (v := (.int .i64 x114.1)) rfl (x_move) ?_)
                refine OW.cons (OP.val (v := (.bool (x121 != x114.1))) rfl (x_neq rfl rfl) ?_)
                refine OW.nil ?_
                refine CW.condM (t := x121 != x114.1) rfl hm (fun hb127 hm => ?_) (fun hb127 hm => ?_)
                · refine CW.seq ?_
                  refine CW.regionL ?_
                  refine OW.cons (OP.val (v := (.bool false)) rfl (x_assign) ?_)
                  refine OW.nil ?_
                  refine CW.ret ?_
                  obtain rfl := Option.some.inj hm
                  exact RR1 rfl rfl ⟨rfl, hL.fresh 9 rfl [] (by decide) (by decide) rfl⟩
                · refine CW.skip ?_
                  refine CW.seq ?_
                  refine CW.regionL ?_
                  refine OW.cons (OP.val (v := (.agg #[(.int .i64 a0.Boats), (.int .i64 a0.Scheme), v1])) rfl (x_loadN (cs := [(.int .i64 a0.Boats), (.int .i64 a0.Scheme), v1]) Try.underlying44 Try_T44 rfl f108 (hL.cellsB 8 rfl (o := 0) (l := [(.int .i64 a0.Boats), (.int .i64 a0.Scheme), v1]) (by intro j u hj; exact (by simpa using hj)))) ?_)
                  obtain ⟨x128, hx129, hm⟩ := bndE hm
                  refine OW.cons (OP.call rfl (x_call (vs := [(.agg #[(.int .i64 a0.Boats), (.int .i64 a0.Scheme), v1])]) Try_C25 ⟨rfl, trivial⟩) (M.laws_toSeries_ok _ a0 (hL.rdS 9 rfl h2) hx129) ?_)
                  rintro e132 wd133 ⟨v131, S130, rfl, hF134⟩
                  refine ⟨_, rfl, ?_⟩
                  have hL := hL.pushAll hF134
                  simp only [List.cons_append, List.nil_append, List.set_cons_zero, List.set_cons_succ] at hL
                  obtain ⟨x135, hx136, hm⟩ := bndE hm
                  refine OW.cons (OP.call rfl (x_call (vs := [(.agg #[(.int .i64 x128.Boats), (.int .i64 x128.Scheme), v131])]) Try_C40 ⟨rfl, trivial⟩) (M.impl_TableOf_ok _ x128 (hL.rdO 0 rfl) hx136) ?_)
                  rintro e141 wd142 ⟨v138, S137, v140, S139, rfl, hF143⟩
                  refine ⟨_, rfl, ?_⟩
                  have hL := hL.pushAll hF143
                  simp only [List.cons_append, List.nil_append, List.set_cons_zero, List.set_cons_succ] at hL
                  refine OW.cons (OP.val (v := (.tuple #[(.agg #[(.int .i64 x135.1.Boats), v138, v140]), (.int .i64 x135.2)])) rfl (x_move) ?_)
                  refine OW.cons (OP.val (v := (.agg #[(.int .i64 x135.1.Boats), v138, v140])) rfl (x_extract rfl rfl) ?_)
                  refine OW.cons (OP.val (v := (.int .i64 x135.2)) rfl (x_extract rfl rfl) ?_)
                  refine OW.cons (S_alloc (cs := #[(.int .i64 0), (.slice none 0 0), (.slice none 0 0)]) hL Try_T38 rfl rfl ?_)
                  intro wd144 b145 hL
                  refine OW.cons (S_storeN (l := [(.int .i64 x135.1.Boats), v138, v140]) (cs' := #[(.int .i64 x135.1.Boats), v138, v140]) hL 0 rfl Try_T38 rfl rfl (List.forall_mem_cons.2 ⟨rfl, (List.forall_mem_cons.2 ⟨rdL_one (hL.rdO 1 rfl), (List.forall_mem_cons.2 ⟨rdL_one (hL.rdO 2 rfl), (fun _ h => by cases h)⟩)⟩)⟩) rfl (Nat.le_of_ble_eq_true rfl) rfl ?_)
                  intro wd146 hL
                  refine OW.cons (OP.val (v := (.int .i64 x135.2)) rfl (x_assign) ?_)
                  refine OW.nil ?_
                  refine CW.seq ?_
                  refine CW.seqJ (fun (s_j3 : Bool) (F : Fr) (w : World) => F 7 = (.pointer (some ⟨b50, 0, none⟩)) ∧ F 10 = (.int .i64 x114.1) ∧ F 87 = (.bool s_j3) ∧ Hp w0 [Ent.blk b145 38 #[(.int .i64 x135.1.Boats), v138, v140], Ent.own 53 S137 v138 x135.1.Points, Ent.own 53 S139 v140 x135.1.Codes, Ent.own 53 S119 v43 x114.2.Points, Ent.own 53 S120 v45 x114.2.Codes, Ent.blk b50 38 #[(.int .i64 x40.1.Boats), v43, v45], Ent.blk b38 49 #[(.int .i64 x30.Boats), (.int .i64 x30.Scheme), v33], Ent.own 29 S98 v33 x93.2.Races, Ent.blk b28 38 #[(.int .i64 x18.1.Boats), v21, v23], Ent.own 53 S20 v21 x18.1.Points, Ent.own 53 S22 v23 x18.1.Codes, Ent.blk b4 44 #[(.int .i64 a0.Boats), (.int .i64 a0.Scheme), v1], Ent.snap w0 w0.heap.size] w) (fun s_j3 => M.laws_FnExactTableOf_j3 x40 x114 s_j3 = some r) ?_ ?_
                  · refine CW.regionL ?_
                    refine OW.cons (OP.val (v := (.agg #[(.int .i64 x135.1.Boats), v138, v140])) rfl (x_loadN (cs := [(.int .i64 x135.1.Boats), v138, v140]) Try.underlying38 Try_T38 rfl rfl (hL.cellsB 0 rfl (o := 0) (l := [(.int .i64 x135.1.Boats), v138, v140]) (by intro j u hj; exact (by simpa using hj)))) ?_)
                    refine OW.cons (OP.val (v := (.agg #[(.int .i64 x18.1.Boats), v21, v23])) rfl (x_loadN (cs := [(.int .i64 x18.1.Boats), v21, v23]) Try.underlying38 Try_T38 rfl f109 (hL.cellsB 9 rfl (o := 0) (l := [(.int .i64 x18.1.Boats), v21, v23]) (by intro j u hj; exact (by simpa using hj)))) ?_)
                    obtain ⟨x166, hx167, hm⟩ := bndE hm
                    refine OW.cons (OP.call rfl (x_call (vs := [(.agg #[(.int .i64 x135.1.Boats), v138, v140]), (.agg #[(.int .i64 x18.1.Boats), v21, v23])]) Try_C22 ⟨rfl, rfl, trivial⟩) (M.laws_eqTable_ok _ x135.1 (hL.rdO 1 rfl) (hL.rdO 2 rfl) x18.1 (hL.rdO 10 rfl) (hL.rdO 11 rfl) hx167) ?_)
                    rintro e168 wd169 ⟨rfl, hF170⟩
                    refine ⟨_, rfl, ?_⟩
                    have hL := hL.pushAll hF170
                    simp only [List.cons_append, List.nil_append, List.set_cons_zero, List.set_cons_succ] at hL
                    refine OW.cons (OP.val (v := (.bool (!x166))) rfl (x_not rfl) ?_)
                    refine OW.cons (OP.val (v := (.bool (!x166))) rfl (x_move) ?_)
                    refine ifB_elim hm (fun hb171 hm => ?_) (fun hb171 hm => ?_)
                    · refine OW.cons (OP.no' rfl rfl hb171 rfl ?_)
                      refine OW.cons (OP.no' rfl rfl hb171 rfl ?_)
                      refine OW.cons (OP.no' rfl rfl hb171 rfl ?_)
                      refine OW.cons (OP.val (v := (.bool true)) rfl (x_pickT' rfl hb171 rfl) ?_)
                      refine OW.nil ?_
                      have hL := hL.sel [0, 1, 2, 4, 5, 6, 7, 8, 9, 10, 11, 12, 13] (by decide) rfl
                      exact ⟨true, hm, ⟨f111, rfl, rfl, hL⟩⟩
                    · refine OW.cons (OP.yes' rfl rfl hb171 (OP.val (v := (.int .i64 x135.2)) rfl (x_move) ?_))
                      refine OW.cons (OP.yes' rfl rfl hb171 (OP.val (v := (.int .i64 x18.2)) rfl (x_mv f110) ?_))
                      refine OW.cons (OP.yes' rfl rfl hb171 (OP.val (v := (.bool (x135.2 != x18.2))) rfl (x_neq rfl rfl) ?_))
                      refine OW.cons (OP.val (v := (.bool (x135.2 != x18.2))) rfl (x_pickF' rfl hb171 rfl) ?_)
                      refine OW.nil ?_
                      have hL := hL.sel [0, 1, 2, 4, 5, 6, 7, 8, 9, 10, 11, 12, 13] (by decide) rfl
                      exact ⟨x135.2 != x18.2, hm, ⟨f111, rfl, rfl, hL⟩⟩
                  · intro s_j3 F153 wd154 hJ hm
                    unfold M.laws_FnExactTableOf_j3 at hm
                    obtain ⟨f155, f156, f157, hL⟩ := hJ
                    refine CW.condM (t := s_j3) f157 hm (fun hb158 hm => ?_) (fun hb158 hm => ?_)
                    · refine CW.seq ?_
                      refine CW.regionL ?_
                      refine OW.cons (OP.val (v := (.bool false)) rfl (x_assign) ?_)
                      refine OW.nil ?_
                      refine CW.ret ?_
                      obtain rfl := Option.some.inj hm
                      exact RR1 rfl rfl ⟨rfl, hL.fresh 12 rfl [] (by decide) (by decide) rfl⟩
                    · refine CW.skip ?_
                      refine CW.seq ?_
                      refine CW.regionL ?_
                      refine OW.cons (OP.val (v := (.int .i64 1)) rfl (x_assign) ?_)
                      refine OW.nil ?_
                      refine CW.seq ?_
                      refine CW.regionL ?_
                      refine OW.cons (OP.val (v := (.agg #[(.int .i64 x40.1.Boats), v43, v45])) rfl (x_loadN (cs := [(.int .i64 x40.1.Boats), v43, v45]) Try.underlying38 Try_T38 rfl f155 (hL.cellsB 5 rfl (o := 0) (l := [(.int .i64 x40.1.Boats), v43, v45]) (by intro j u hj; exact (by simpa using hj)))) ?_)
                      refine OW.cons (OP.val (v := (.int .i64 1)) rfl (x_move) ?_)
                      obtain ⟨x159, hx160, hm⟩ := bndE hm
                      refine OW.cons (OP.call rfl (x_call (vs := [(.agg #[(.int .i64 x40.1.Boats), v43, v45]), (.int .i64 1)]) Try_C49 ⟨rfl, rfl, trivial⟩) (M.laws_heldTable_ok _ (Table.mk x40.1.Boats x114.2.Points x114.2.Codes) (hL.rdO 3 rfl) (hL.rdO 4 rfl) 1 hx160) ?_)
                      rintro e161 wd162 ⟨rfl, hF163⟩
                      refine ⟨_, rfl, ?_⟩
                      have hL := hL.pushAll hF163
                      simp only [List.cons_append, List.nil_append, List.set_cons_zero, List.set_cons_succ] at hL
                      refine OW.cons (OP.val (v := (.int .i64 x159)) rfl (x_assign) ?_)
                      refine OW.nil ?_
                      refine CW.seq ?_
                      refine CW.seq ?_
                      refine CW.regionL ?_
                      refine OW.cons (OP.val (v := (.int .i64 x159)) rfl (x_move) ?_)
                      refine OW.cons (OP.val (v := (.bool (decide (x159 < 0)))) rfl (x_lss rfl rfl) ?_)
                      refine OW.nil ?_
                      refine CW.condM (t := decide (x159 < 0)) rfl hm (fun hb164 hm => ?_) (fun hb164 hm => ?_)
                      · refine CW.seq ?_
                        refine CW.regionL ?_
                        refine OW.cons (OP.val (v := (.bool false)) rfl (x_assign) ?_)
                        refine OW.nil ?_
                        refine CW.ret ?_
                        obtain rfl := Option.some.inj hm
                        exact RR1 rfl rfl ⟨rfl, hL.fresh 12 rfl [] (by decide) (by decide) rfl⟩
                      · refine CW.skip ?_
                        refine CW.seq ?_
                        refine CW.seq ?_
                        refine CW.regionL ?_
                        refine OW.cons (OP.val (v := (.int .i64 x159)) rfl (x_move) ?_)
                        refine OW.cons (OP.val (v := (.int .i64 x114.1)) rfl (x_mv f156) ?_)
                        refine OW.cons (OP.val (v := (.bool (x159 != x114.1))) rfl (x_neq rfl rfl) ?_)
                        refine OW.nil ?_
                        refine CW.condM (t := x159 != x114.1) rfl hm (fun hb165 hm => ?_) (fun hb165 hm => ?_)
                        · refine CW.seq ?_
                          refine CW.regionL ?_
                          refine OW.cons (OP.val (v := (.bool false)) rfl (x_assign) ?_)
                          refine OW.nil ?_
                          refine CW.ret ?_
                          obtain rfl := Option.some.inj hm
                          exact RR1 rfl rfl ⟨rfl, hL.fresh 12 rfl [] (by decide) (by decide) rfl⟩
                        · refine CW.skip ?_
                          refine CW.seq ?_
                          refine CW.regionL ?_
                          refine OW.cons (OP.val (v := (.bool true)) rfl (x_assign) ?_)
                          refine OW.nil ?_
                          refine CW.ret ?_
                          obtain rfl := Option.some.inj hm
                          exact RR1 rfl rfl ⟨rfl, hL.fresh 12 rfl [] (by decide) (by decide) rfl⟩

end Go.Proofs.Ytblljgcbffkahaa
