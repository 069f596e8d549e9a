/- Links: each Go function returns what its model computes and leaves what was there. Printed by my generator. -/
import Derived.Test.YtblljgcbffkahaaLnkFnTablesB
namespace Go.Proofs.Ytblljgcbffkahaa
set_option maxRecDepth 10000
open Go Go.RowKit Go.ChangeShapes Go.WideShapes
set_option linter.unusedVariables false
set_option linter.unusedSimpArgs false

theorem M.laws_FnTables_ok (w0 : World) (a0 : List UInt8) {v1 : Value} (h2 : rdL (· < w0.heap.size) w0 v1 a0) {r : Bool} (hm : M.laws_FnTables a0 = some r) :
    Calls Try.prog 9 #[v1] w0 fun e w' => e = .returned (.bool r) ∧ Fresh w0 w' [] := by
  unfold M.laws_FnTables at hm
  refine calls_CW (args := [v1]) Try.func9 rfl rfl rfl ?_
  have hL := Hp.start w0
  refine CW.seq ?_
  refine CW.regionL ?_
  refine OW.cons (OP.val (v := (.bool false)) rfl (x_assign) ?_)
  refine OW.nil ?_
  refine CW.seq ?_
  refine CW.seq ?_
  refine CW.regionL ?_
  refine OW.cons (OP.val (v := v1) rfl (x_move) ?_)
  obtain ⟨x3, hx4, hm⟩ := bndE hm
  refine OW.cons (OP.call rfl (x_call (vs := [v1]) Try_C34 ⟨rfl, trivial⟩) (M.laws_big_ok _ a0 (hL.rdS 0 rfl h2) hx4) ?_)
  rintro e5 wd6 ⟨rfl, hF7⟩
  refine ⟨_, rfl, ?_⟩
  have hL := hL.pushAll hF7
  simp only [List.cons_append, List.nil_append, List.set_cons_zero, List.set_cons_succ] at hL
  refine OW.nil ?_
  refine CW.condM (t := x3) rfl hm (fun hb8 hm => ?_) (fun hb8 hm => ?_)
  · refine CW.seq ?_
    refine CW.regionL ?_
    refine OW.cons (OP.val (v := (.bool true)) rfl (x_assign) ?_)
    refine OW.nil ?_
    refine CW.ret ?_
    obtain rfl := Option.some.inj hm
    exact RR1 rfl rfl ⟨rfl, hL.fresh 0 rfl [] (by decide) (by decide) rfl⟩
  · refine CW.skip ?_
    refine CW.seq ?_
    refine CW.regionL ?_
    refine OW.cons (OP.val (v := v1) rfl (x_move) ?_)
    obtain ⟨x9, hx10, hm⟩ := bndE hm
    refine OW.cons (OP.call rfl (x_call (vs := [v1]) Try_C39 ⟨rfl, trivial⟩) (M.spec_DrawTableOf_ok _ a0 (hL.rdS 0 rfl h2) hx10) ?_)
    rintro e13 wd14 ⟨v12, S11, rfl, hF15⟩
    refine ⟨_, rfl, ?_⟩
    have hL := hL.pushAll hF15
    simp only [List.cons_append, List.nil_append, List.set_cons_zero, List.set_cons_succ] at hL
    refine OW.cons (S_alloc (cs := #[(.int .i64 0), (.int .i64 0), (.slice none 0 0)]) hL Try_T49 rfl rfl ?_)
    intro wd16 b17 hL
    refine OW.cons (S_storeN (l := [(.int .i64 x9.Boats), (.int .i64 x9.Scheme), v12]) (cs' := #[(.int .i64 x9.Boats), (.int .i64 x9.Scheme), v12]) hL 0 rfl Try_T49 rfl rfl (List.forall_mem_cons.2 ⟨rfl, (List.forall_mem_cons.2 ⟨rfl, (List.forall_mem_cons.2 ⟨rdL_one (hL.rdO 1 rfl), (fun _ h => by cases h)⟩)⟩)⟩) rfl (Nat.le_of_ble_eq_true rfl) rfl ?_)
    intro wd18 hL
    refine OW.nil ?_
    refine CW.seq ?_
    refine CW.regionL ?_
    refine OW.cons (OP.val (v := (.agg #[(.int .i64 x9.Boats), (.int .i64 x9.Scheme), v12])) rfl (x_loadN (cs := [(.int .i64 x9.Boats), (.int .i64 x9.Scheme), v12]) Try.underlying49 Try_T49 rfl rfl (hL.cellsB 0 rfl (o := 0) (l := [(.int .i64 x9.Boats), (.int .i64 x9.Scheme), v12]) (by intro j u hj; exact (by simpa using hj)))) ?_)
    obtain ⟨x19, hx20, hm⟩ := bndE hm
    refine OW.cons (OP.call rfl (x_call (vs := [(.agg #[(.int .i64 x9.Boats), (.int .i64 x9.Scheme), v12])]) Try_C40 ⟨rfl, trivial⟩) (M.impl_TableOf_ok _ x9 (hL.rdO 1 rfl) hx20) ?_)
    rintro e25 wd26 ⟨v22, S21, v24, S23, rfl, hF27⟩
    refine ⟨_, rfl, ?_⟩
    have hL := hL.pushAll hF27
    simp only [List.cons_append, List.nil_append, List.set_cons_zero, List.set_cons_succ] at hL
    refine OW.cons (OP.val (v := (.tuple #[(.agg #[(.int .i64 x19.1.Boats), v22, v24]), (.int .i64 x19.2)])) rfl (x_move) ?_)
    refine OW.cons (OP.val (v := (.agg #[(.int .i64 x19.1.Boats), v22, v24])) rfl (x_extract rfl rfl) ?_)
    refine OW.cons (OP.val (v := (.int .i64 x19.2)) rfl (x_extract rfl rfl) ?_)
    refine OW.cons (S_alloc (cs := #[(.int .i64 0), (.slice none 0 0), (.slice none 0 0)]) hL Try_T38 rfl rfl ?_)
    intro wd28 b29 hL
    refine OW.cons (S_storeN (l := [(.int .i64 x19.1.Boats), v22, v24]) (cs' := #[(.int .i64 x19.1.Boats), v22, v24]) hL 0 rfl Try_T38 rfl rfl (List.forall_mem_cons.2 ⟨rfl, (List.forall_mem_cons.2 ⟨rdL_one (hL.rdO 1 rfl), (List.forall_mem_cons.2 ⟨rdL_one (hL.rdO 2 rfl), (fun _ h => by cases h)⟩)⟩)⟩) rfl (Nat.le_of_ble_eq_true rfl) rfl ?_)
    intro wd30 hL
    refine OW.cons (OP.val (v := (.int .i64 x19.2)) rfl (x_assign) ?_)
    refine OW.nil ?_
    refine CW.seq ?_
    refine CW.regionL ?_
    refine OW.cons (OP.val (v := v1) rfl (x_move) ?_)
    obtain ⟨x31, hx32, hm⟩ := bndE hm
    refine OW.cons (OP.call rfl (x_call (vs := [v1]) Try_C39 ⟨rfl, trivial⟩) (M.spec_DrawTableOf_ok _ a0 (hL.rdS 5 rfl h2) hx32) ?_)
    rintro e35 wd36 ⟨v34, S33, rfl, hF37⟩
    refine ⟨_, rfl, ?_⟩
    have hL := hL.pushAll hF37
    simp only [List.cons_append, List.nil_append, List.set_cons_zero, List.set_cons_succ] at hL
    refine OW.cons (S_storeN (l := [(.int .i64 x31.Boats), (.int .i64 x31.Scheme), v34]) (cs' := #[(.int .i64 x31.Boats), (.int .i64 x31.Scheme), v34]) hL 4 rfl Try_T49 rfl rfl (List.forall_mem_cons.2 ⟨rfl, (List.forall_mem_cons.2 ⟨rfl, (List.forall_mem_cons.2 ⟨rdL_one (hL.rdO 0 rfl), (fun _ h => by cases h)⟩)⟩)⟩) rfl (Nat.le_of_ble_eq_true rfl) rfl ?_)
    intro wd38 hL
    refine OW.nil ?_
    refine CW.seq ?_
    refine CW.regionL ?_
    refine OW.cons (OP.val (v := (.agg #[(.int .i64 x31.Boats), (.int .i64 x31.Scheme), v34])) rfl (x_loadN (cs := [(.int .i64 x31.Boats), (.int .i64 x31.Scheme), v34]) Try.underlying49 Try_T49 rfl rfl (hL.cellsB 4 rfl (o := 0) (l := [(.int .i64 x31.Boats), (.int .i64 x31.Scheme), v34]) (by intro j u hj; exact (by simpa using hj)))) ?_)
    obtain ⟨x39, hx40, hm⟩ := bndE hm
    refine OW.cons (OP.call rfl (x_call (vs := [(.agg #[(.int .i64 x31.Boats), (.int .i64 x31.Scheme), v34])]) Try_C41 ⟨rfl, trivial⟩) (M.spec_TableOf_ok _ x31 (hL.rdO 0 rfl) hx40) ?_)
    rintro e45 wd46 ⟨v42, S41, v44, S43, rfl, hF47⟩
    refine ⟨_, rfl, ?_⟩
    have hL := hL.pushAll hF47
    simp only [List.cons_append, List.nil_append, List.set_cons_zero, List.set_cons_succ] at hL
    refine OW.cons (OP.val (v := (.tuple #[(.agg #[(.int .i64 x39.1.Boats), v42, v44]), (.int .i64 x39.2)])) rfl (x_move) ?_)
    refine OW.cons (OP.val (v := (.agg #[(.int .i64 x39.1.Boats), v42, v44])) rfl (x_extract rfl rfl) ?_)
    refine OW.cons (OP.val (v := (.int .i64 x39.2)) rfl (x_extract rfl rfl) ?_)
    refine OW.cons (S_alloc (cs := #[(.int .i64 0), (.slice none 0 0), (.slice none 0 0)]) hL Try_T38 rfl rfl ?_)
    intro wd48 b49 hL
    refine OW.cons (S_storeN (l := [(.int .i64 x39.1.Boats), v42, v44]) (cs' := #[(.int .i64 x39.1.Boats), v42, v44]) hL 0 rfl Try_T38 rfl rfl (List.forall_mem_cons.2 ⟨rfl, (List.forall_mem_cons.2 ⟨rdL_one (hL.rdO 1 rfl), (List.forall_mem_cons.2 ⟨rdL_one (hL.rdO 2 rfl), (fun _ h => by cases h)⟩)⟩)⟩) rfl (Nat.le_of_ble_eq_true rfl) rfl ?_)
    intro wd50 hL
    refine OW.cons (OP.val (v := (.int .i64 x39.2)) rfl (x_assign) ?_)
    refine OW.nil ?_
    refine CW.seq ?_
    refine CW.seqJ (fun (s_j1 : Bool) (F : Fr) (w : World) => F 3 = (.pointer (some ⟨b17, 0, none⟩)) ∧ F 4 = (.pointer (some ⟨b29, 0, none⟩)) ∧ F 5 = (.int .i64 x19.2) ∧ F 6 = (.pointer (some ⟨b49, 0, none⟩)) ∧ F 42 = (.bool s_j1) ∧ Hp w0 [Ent.blk b49 38 #[(.int .i64 x39.1.Boats), v42, v44], Ent.own 53 S41 v42 x39.1.Points, Ent.own 53 S43 v44 x39.1.Codes, Ent.own 29 S33 v34 x31.Races, Ent.blk b29 38 #[(.int .i64 x19.1.Boats), v22, v24], Ent.own 53 S21 v22 x19.1.Points, Ent.own 53 S23 v24 x19.1.Codes, Ent.blk b17 49 #[(.int .i64 x31.Boats), (.int .i64 x31.Scheme), v34], Ent.snap w0 w0.heap.size] w) (fun s_j1 => M.laws_FnTables_j1 x19 x31 x39 s_j1 = some r) ?_ ?_
    · refine CW.regionL ?_
      refine OW.cons (OP.val (v := (.int .i64 x19.2)) rfl (x_move) ?_)
      refine OW.cons (OP.val (v := (.int .i64 x39.2)) rfl (x_move) ?_)
      refine OW.cons (OP.val (v := (.bool (x19.2 != x39.2))) rfl (x_neq rfl rfl) ?_)
      refine OW.cons (OP.val (v := (.bool (x19.2 != x39.2))) rfl (x_move) ?_)
      refine ifB_elim hm (fun hb382 hm => ?_) (fun hb382 hm => ?_)
      · refine OW.cons (OP.no' rfl rfl hb382 rfl ?_)
        refine OW.cons (OP.no' rfl rfl hb382 rfl ?_)
        refine OW.cons (OP.no' rfl rfl hb382 rfl ?_)
        refine OW.cons (OP.no' rfl rfl hb382 rfl ?_)
        refine OW.cons (OP.val (v := (.bool true)) rfl (x_pickT' rfl hb382 rfl) ?_)
        refine OW.cons (OP.val (v := (.bool true)) rfl (x_move) ?_)
        refine OW.cons (OP.no' rfl rfl rfl rfl ?_)
        refine OW.cons (OP.no' rfl rfl rfl rfl ?_)
        refine OW.cons (OP.no' rfl rfl rfl rfl ?_)
        refine OW.cons (OP.no' rfl rfl rfl rfl ?_)
        refine OW.cons (OP.no' rfl rfl rfl rfl ?_)
        refine OW.cons (OP.val (v := (.bool true)) rfl (x_pickT' rfl rfl rfl) ?_)
        refine OW.nil ?_
        have hL := hL.sel [0, 1, 2, 3, 4, 5, 6, 7, 9] (by decide) rfl
        exact ⟨true, hm, ⟨rfl, rfl, rfl, rfl, rfl, hL⟩⟩
      · refine OW.cons (OP.yes' rfl rfl hb382 (OP.val (v := (.agg #[(.int .i64 x19.1.Boats), v22, v24])) rfl (x_loadN (cs := [(.int .i64 x19.1.Boats), v22, v24]) Try.underlying38 Try_T38 rfl rfl (hL.cellsB 4 rfl (o := 0) (l := [(.int .i64 x19.1.Boats), v22, v24]) (by intro j u hj; exact (by simpa using hj)))) ?_))
        refine OW.cons (OP.yes' rfl rfl hb382 (OP.val (v := (.agg #[(.int .i64 x39.1.Boats), v42, v44])) rfl (x_loadN (cs := [(.int .i64 x39.1.Boats), v42, v44]) Try.underlying38 Try_T38 rfl rfl (hL.cellsB 0 rfl (o := 0) (l := [(.int .i64 x39.1.Boats), v42, v44]) (by intro j u hj; exact (by simpa using hj)))) ?_))
        obtain ⟨x383, hx384, hm⟩ := bndE hm
        refine OW.cons (OP.yes' rfl rfl hb382 (OP.call rfl (x_call (vs := [(.agg #[(.int .i64 x19.1.Boats), v22, v24]), (.agg #[(.int .i64 x39.1.Boats), v42, v44])]) Try_C42 ⟨rfl, rfl, trivial⟩) (M.laws_w6Tables_ok _ x19.1 (hL.rdO 5 rfl) (hL.rdO 6 rfl) x39.1 (hL.rdO 1 rfl) (hL.rdO 2 rfl) hx384) ?_))
        rintro e385 wd386 ⟨rfl, hF387⟩
        refine ⟨_, rfl, ?_⟩
        have hL := hL.pushAll hF387
        simp only [List.cons_append, List.nil_append, List.set_cons_zero, List.set_cons_succ] at hL
        refine OW.cons (OP.yes' rfl rfl hb382 (OP.val (v := (.bool (!x383))) rfl (x_not rfl) ?_))
        refine OW.cons (OP.val (v := (.bool (!x383))) rfl (x_pickF' rfl hb382 rfl) ?_)
        refine OW.cons (OP.val (v := (.bool (!x383))) rfl (x_move) ?_)
        refine ifB_elim hm (fun hb388 hm => ?_) (fun hb388 hm => ?_)
        · refine OW.cons (OP.no' rfl rfl hb388 rfl ?_)
          refine OW.cons (OP.no' rfl rfl hb388 rfl ?_)
          refine OW.cons (OP.no' rfl rfl hb388 rfl ?_)
          refine OW.cons (OP.no' rfl rfl hb388 rfl ?_)
          refine OW.cons (OP.no' rfl rfl hb388 rfl ?_)
          refine OW.cons (OP.val (v := (.bool true)) rfl (x_pickT' rfl hb388 rfl) ?_)
          refine OW.nil ?_
          have hL := hL.sel [0, 1, 2, 3, 4, 5, 6, 7, 9] (by decide) rfl
          exact ⟨true, hm, ⟨rfl, rfl, rfl, rfl, rfl, hL⟩⟩
        · refine OW.cons (OP.yes' rfl rfl hb388 (OP.val (v := (.agg #[(.int .i64 x31.Boats), (.int .i64 x31.Scheme), v34])) rfl (x_loadN (cs := [(.int .i64 x31.Boats), (.int .i64 x31.Scheme), v34]) Try.underlying49 Try_T49 rfl rfl (hL.cellsB 7 rfl (o := 0) (l := [(.int .i64 x31.Boats), (.int .i64 x31.Scheme), v34]) (by intro j u hj; exact (by simpa using hj)))) ?_))
          obtain ⟨x389, hx390, hm⟩ := bndE hm
          refine OW.cons (OP.yes' rfl rfl hb388 (OP.call rfl (x_call (vs := [(.agg #[(.int .i64 x31.Boats), (.int .i64 x31.Scheme), v34])]) Try_C26 ⟨rfl, trivial⟩) (M.impl_IsSeries_ok _ x31 (hL.rdO 3 rfl) hx390) ?_))
          rintro e391 wd392 ⟨rfl, hF393⟩
          refine ⟨_, rfl, ?_⟩
          have hL := hL.pushAll hF393
          simp only [List.cons_append, List.nil_append, List.set_cons_zero, List.set_cons_succ] at hL
          refine OW.cons (OP.yes' rfl rfl hb388 (OP.val (v := (.int .i64 x19.2)) rfl (x_move) ?_))
          refine OW.cons (OP.yes' rfl rfl hb388 (OP.val (v := (.bool (x19.2 == 0))) rfl (x_eql rfl rfl) ?_))
          refine OW.cons (OP.yes' rfl rfl hb388 (OP.val (v := (.bool (x389 != (x19.2 == 0)))) rfl (x_neqB Try.underlying4 rfl rfl) ?_))
          refine OW.cons (OP.val (v := (.bool (x389 != (x19.2 == 0)))) rfl (x_pickF' rfl hb388 rfl) ?_)
          refine OW.nil ?_
          have hL := hL.sel [0, 1, 2, 3, 4, 5, 6, 7, 9] (by decide) rfl
          exact ⟨x389 != (x19.2 == 0), hm, ⟨rfl, rfl, rfl, rfl, rfl, hL⟩⟩
    · intro s_j1 F63 wd64 hJ hm
      unfold M.laws_FnTables_j1 at hm
      obtain ⟨f65, f66, f67, f68, f69, hL⟩ := hJ
      refine CW.condM (t := s_j1) f69 hm (fun hb70 hm => ?_) (fun hb70 hm => ?_)
      · refine CW.seq ?_
        refine CW.regionL ?_
        refine OW.cons (OP.val (v := (.bool false)) rfl (x_assign) ?_)
        refine OW.nil ?_
        refine CW.ret ?_
        obtain rfl := Option.some.inj hm
        exact RR1 rfl rfl ⟨rfl, hL.fresh 8 rfl [] (by decide) (by decide) rfl⟩
      · refine CW.skip ?_
        refine CW.seq ?_
        refine CW.seq ?_
        refine CW.regionL ?_
        refine OW.cons (OP.val (v := (.int .i64 x19.2)) rfl (x_mv f67) ?_)
        refine OW.cons (OP.val (v := (.bool (x19.2 != 0))) rfl (x_neq rfl rfl) ?_)
        refine OW.nil ?_
        refine CW.condM (t := x19.2 != 0) rfl hm (fun hb71 hm => ?_) (fun hb71 hm => ?_)
        · refine CW.seq ?_
          refine CW.regionL ?_
          refine OW.cons (OP.val (v := (.bool true)) rfl (x_assign) ?_)
          refine OW.nil ?_
          refine CW.ret ?_
          obtain rfl := Option.some.inj hm
          exact RR1 rfl rfl ⟨rfl, hL.fresh 8 rfl [] (by decide) (by decide) rfl⟩
        · refine CW.skip ?_
          refine CW.seq ?_
          refine CW.seq ?_
          refine CW.regionL ?_
          refine OW.cons (OP.val (v := (.int .i64 0)) rfl (x_assign) ?_)
          refine OW.nil ?_
          obtain ⟨o260, ho261, hm⟩ := bndE hm
          refine CW.loopB (fun (s_l1 : Int) (F : Fr) (w : World) => F 3 = (.pointer (some ⟨b17, 0, none⟩)) ∧ F 4 = (.pointer (some ⟨b29, 0, none⟩)) ∧ F 6 = (.pointer (some ⟨b49, 0, none⟩)) ∧ F 8 = (.int .i64 s_l1) ∧ Hp w0 [Ent.blk b49 38 #[(.int .i64 x39.1.Boats), v42, v44], Ent.own 53 S41 v42 x39.1.Points, Ent.own 53 S43 v44 x39.1.Codes, Ent.own 29 S33 v34 x31.Races, Ent.blk b29 38 #[(.int .i64 x19.1.Boats), v22, v24], Ent.own 53 S21 v22 x19.1.Points, Ent.own 53 S23 v24 x19.1.Codes, Ent.blk b17 49 #[(.int .i64 x31.Boats), (.int .i64 x31.Scheme), v34], Ent.snap w0 w0.heap.size] w) (fun o => outc o (fun x => some x) (fun s => M.laws_FnTables_a1 x19 x31 x39 s) = some r) ho261 hm ⟨f65, f66, f68, rfl, hL⟩ ?_ ?_
          · intro s_l1 F262 wd263 hJ hm
            have hm := outcE hm
            have hm : M.laws_FnTables_a1 x19 x31 x39 s_l1 = some r := hm
            unfold M.laws_FnTables_a1 at hm
            obtain ⟨f264, f265, f266, f267, hL⟩ := hJ
            refine CW.seqJ (fun (s_j2 : Bool) (F : Fr) (w : World) => F 2 = (.bool s_j2) ∧ Hp w0 [Ent.blk b49 38 #[(.int .i64 x39.1.Boats), v42, v44], Ent.own 53 S41 v42 x39.1.Points, Ent.own 53 S43 v44 x39.1.Codes, Ent.own 29 S33 v34 x31.Races, Ent.blk b29 38 #[(.int .i64 x19.1.Boats), v22, v24], Ent.own 53 S21 v22 x19.1.Points, Ent.own 53 S23 v24 x19.1.Codes, Ent.blk b17 49 #[(.int .i64 x31.Boats), (.int .i64 x31.Scheme), v34], Ent.snap w0 w0.heap.size] w) (fun s_j2 => M.laws_FnTables_j2 s_j2 = some r) ?_ ?_
            · refine CW.regionL ?_
              refine OW.cons (OP.val (v := (.pointer (some ⟨b29, 1, none⟩))) rfl (x_fieldAddr (fsz := 1) 0 1 1 Try.underlying38 rfl Try_T33 rfl f265 rfl) ?_)
              refine OW.cons (OP.val (v := v22) rfl (x_load1 Try.underlying33 rfl rfl (hL.cellB 4 rfl rfl)) ?_)
              refine OW.cons (OP.val (v := (.int .i64 (x19.1.Points.length : Int))) rfl (x_lenR Try.underlying33 rfl (hL.rdO 5 rfl)) ?_)
              refine OW.cons (OP.val (v := (.pointer (some ⟨b17, 2, none⟩))) rfl (x_fieldAddr (fsz := 1) 0 2 2 Try.underlying49 rfl Try_T47 rfl f264 rfl) ?_)
              refine OW.cons (OP.val (v := v34) rfl (x_load1 Try.underlying47 rfl rfl (hL.cellB 7 rfl rfl)) ?_)
              refine OW.cons (OP.val (v := (.int .i64 (x31.Races.length : Int))) rfl (x_lenR Try.underlying47 rfl (hL.rdO 3 rfl)) ?_)
              refine OW.cons (OP.val (v := (.bool ((x19.1.Points.length : Int) == (x31.Races.length : Int)))) rfl (x_eql rfl rfl) ?_)
              refine OW.cons (OP.val (v := (.bool ((x19.1.Points.length : Int) == (x31.Races.length : Int)))) rfl (x_move) ?_)
              refine ifB_elim hm (fun hb277 hm => ?_) (fun hb277 hm => ?_)
              · refine OW.cons (OP.yes' rfl rfl hb277 (OP.val (v := (.agg #[(.int .i64 x39.1.Boats), v42, v44])) rfl (x_loadN (cs := [(.int .i64 x39.1.Boats), v42, v44]) Try.underlying38 Try_T38 rfl f266 (hL.cellsB 0 rfl (o := 0) (l := [(.int .i64 x39.1.Boats), v42, v44]) (by intro j u hj; exact (by simpa using hj)))) ?_))
                obtain ⟨x278, hx279, hm⟩ := bndE hm
                refine OW.cons (OP.yes' rfl rfl hb277 (OP.call rfl (x_call (vs := [(.agg #[(.int .i64 x39.1.Boats), v42, v44])]) Try_C21 ⟨rfl, trivial⟩) (M.impl_IsTable_ok _ x39.1 (hL.rdO 1 rfl) (hL.rdO 2 rfl) hx279) ?_))
                rintro e280 wd281 ⟨rfl, hF282⟩
                refine ⟨_, rfl, ?_⟩
                have hL := hL.pushAll hF282
                simp only [List.cons_append, List.nil_append, List.set_cons_zero, List.set_cons_succ] at hL
                refine OW.cons (OP.val (v := (.bool x278)) rfl (x_pickT' rfl hb277 rfl) ?_)
                refine OW.cons (OP.val (v := (.bool x278)) rfl (x_assign) ?_)
                refine OW.nil ?_
                exact ⟨x278, hm, ⟨rfl, hL⟩⟩
              · refine OW.cons (OP.no' rfl rfl hb277 rfl ?_)
                refine OW.cons (OP.no' rfl rfl hb277 rfl ?_)
                refine OW.cons (OP.val (v := (.bool false)) rfl (x_pickF' rfl hb277 rfl) ?_)
                refine OW.cons (OP.val (v := (.bool false)) rfl (x_assign) ?_)
                refine OW.nil ?_
                exact ⟨false, hm, ⟨rfl, hL⟩⟩
            · intro s_j2 F274 wd275 hJ hm
              unfold M.laws_FnTables_j2 at hm
              obtain ⟨f276, hL⟩ := hJ
              refine CW.ret ?_
              obtain rfl := Option.some.inj hm
              exact RR1 rfl f276 ⟨rfl, hL.fresh 8 rfl [] (by decide) (by decide) rfl⟩
          · intro s_l1 F283 wd284 t258 hJ hm hr259
            unfold M.laws_FnTables_l1 at hm
            obtain ⟨f285, f286, f287, f288, hL⟩ := hJ
            refine CW.seq ?_
            refine CW.seq ?_
            refine CW.regionL ?_
            refine OW.cons (OP.val (v := (.int .i64 s_l1)) rfl (x_mv f288) ?_)
            refine OW.cons (OP.val (v := (.pointer (some ⟨b17, 2, none⟩))) rfl (x_fieldAddr (fsz := 1) 0 2 2 Try.underlying49 rfl Try_T47 rfl f285 rfl) ?_)
            refine OW.cons (OP.val (v := v34) rfl (x_load1 Try.underlying47 rfl rfl (hL.cellB 7 rfl rfl)) ?_)
            refine OW.cons (OP.val (v := (.int .i64 (x31.Races.length : Int))) rfl (x_lenR Try.underlying47 rfl (hL.rdO 3 rfl)) ?_)
            refine OW.cons (OP.val (v := (.bool (decide (s_l1 < (x31.Races.length : Int))))) rfl (x_lss rfl rfl) ?_)
            refine OW.nil ?_
            refine CW.condM (t := decide (s_l1 < (x31.Races.length : Int))) rfl hm (fun hb289 hm => ?_) (fun hb289 hm => ?_)
            · refine CW.skip ?_
              refine CW.seq ?_
              refine CW.block ?_
              refine CW.seq ?_
              obtain ⟨wz290, hL, ho291⟩ := hL.freeze 1 rfl
              simp only [List.set_cons_zero, List.set_cons_succ] at hL
              obtain ⟨wz292, hL, ho293⟩ := hL.freeze 2 rfl
              simp only [List.set_cons_zero, List.set_cons_succ] at hL
              obtain ⟨wz294, hL, ho295⟩ := hL.freeze 3 rfl
              simp only [List.set_cons_zero, List.set_cons_succ] at hL
              obtain ⟨wz296, hL, ho297⟩ := hL.freeze 5 rfl
              simp only [List.set_cons_zero, List.set_cons_succ] at hL
              obtain ⟨wz298, hL, ho299⟩ := hL.freeze 6 rfl
              simp only [List.set_cons_zero, List.set_cons_succ] at hL
              refine CW.drawH (fun w' => Hp w0 [Ent.blk b49 38 #[(.int .i64 x39.1.Boats), v42, v44], Ent.frzS wz290 S41, Ent.frzS wz292 S43, Ent.frzS wz294 S33, Ent.blk b29 38 #[(.int .i64 x19.1.Boats), v22, v24], Ent.frzS wz296 S21, Ent.frzS wz298 S23, Ent.blk b17 49 #[(.int .i64 x31.Boats), (.int .i64 x31.Scheme), v34], Ent.snap w0 w0.heap.size] w') Try_mixed ?_
              have hL := hL.call (Mod.drew _)
              have hS := (hL.sel [0, 1, 2, 3, 4, 5, 6, 7, 8] (by decide) rfl)
              refine DH.take 0 rfl (by kernel_rfl) (by kernel_rfl) (by kernel_rfl) rfl rfl hS (YH.val (v := (.pointer (some ⟨b17, 0, none⟩))) (fun w' hS' => x_fieldAddr (fsz := 1) 0 0 0 Try.underlying49 rfl Try_T2 rfl f285 rfl)) ?_
              have hS := (hL.sel [0, 1, 2, 3, 4, 5, 6, 7, 8] (by decide) rfl)
              refine DH.take 1 rfl (by kernel_rfl) (by kernel_rfl) (by kernel_rfl) rfl rfl hS (YH.val (v := (.int .i64 x31.Boats)) (fun w' hS' => x_load1 Try.underlying2 rfl rfl (hS'.cellB 7 rfl rfl))) ?_
              have hS := (hL.sel [0, 1, 2, 3, 4, 5, 6, 7, 8] (by decide) rfl)
              refine DH.take 2 rfl (by kernel_rfl) (by kernel_rfl) (by kernel_rfl) rfl rfl hS (YH.val (v := (.pointer (some ⟨b17, 2, none⟩))) (fun w' hS' => x_fieldAddr (fsz := 1) 0 2 2 Try.underlying49 rfl Try_T47 rfl f285 rfl)) ?_
              have hS := (hL.sel [0, 1, 2, 3, 4, 5, 6, 7, 8] (by decide) rfl)
              refine DH.take 3 rfl (by kernel_rfl) (by kernel_rfl) (by kernel_rfl) rfl rfl hS (YH.val (v := v34) (fun w' hS' => x_load1 Try.underlying47 rfl rfl (hS'.cellB 7 rfl rfl))) ?_
              have hS := (hL.sel [0, 1, 2, 3, 4, 5, 6, 7, 8] (by decide) rfl)
              refine DH.take 4 rfl (by kernel_rfl) (by kernel_rfl) (by kernel_rfl) rfl rfl hS (YH.val (v := (.int .i64 s_l1)) (fun w' hS' => x_mv f288)) ?_
              have hS := (hL.sel [0, 1, 2, 3, 4, 5, 6, 7, 8] (by decide) rfl)
              obtain ⟨x318, ha319, hm⟩ := bndE hm
              obtain ⟨hz320, ha328⟩ := idxE ha319
              obtain ⟨b321, q322, v323, hix324, hs325, hc326, hr327⟩ := rdN_at ho295.1.rdL hz320 ha328
              refine DH.take 5 rfl (by kernel_rfl) (by kernel_rfl) (by kernel_rfl) rfl rfl hS (YH.val (v := (.pointer (some ⟨b321, q322, none⟩))) (fun w' hS' => x_ix Try.underlying47 Try_T29 rfl rfl hix324)) ?_
              have hS := (hL.sel [0, 1, 2, 3, 4, 5, 6, 7, 8] (by decide) rfl)
              refine DH.take 6 rfl (by kernel_rfl) (by kernel_rfl) (by kernel_rfl) rfl rfl hS (YH.val (v := (.agg #[v323])) (fun w' hS' => x_loadN (cs := [v323]) Try.underlying29 Try_T29 rfl rfl (by intro j u hj; match j, hj with | 0, hj => (simp at hj; subst hj; exact (hS'.cellF 3 rfl hs325 hc326))))) ?_
              have hS := (hL.sel [0, 1, 2, 3, 4, 5, 6, 7, 8] (by decide) rfl)
              refine DH.take 7 rfl (by kernel_rfl) (by kernel_rfl) (by kernel_rfl) rfl rfl hS (YH.val (v := (.pointer (some ⟨b17, 1, none⟩))) (fun w' hS' => x_fieldAddr (fsz := 1) 0 1 1 Try.underlying49 rfl Try_T2 rfl f285 rfl)) ?_
              have hS := (hL.sel [0, 1, 2, 3, 4, 5, 6, 7, 8] (by decide) rfl)
              refine DH.take 8 rfl (by kernel_rfl) (by kernel_rfl) (by kernel_rfl) rfl rfl hS (YH.val (v := (.int .i64 x31.Scheme)) (fun w' hS' => x_load1 Try.underlying2 rfl rfl (hS'.cellB 7 rfl rfl))) ?_
              obtain ⟨x329, hx330, hm⟩ := bndE hm
              refine DH.only 9 rfl (by kernel_rfl) (OP.call rfl (x_call (vs := [(.int .i64 x31.Boats), (.agg #[v323]), (.int .i64 x31.Scheme)]) Try_C36 ⟨rfl, rfl, rfl, trivial⟩) (M.impl_RacePoints_ok _ x31.Boats x318 (hL.rdF 3 rfl hr327) x31.Scheme hx330) ?_)
              rintro e333 wd334 ⟨v332, S331, rfl, hF335⟩
              refine ⟨_, rfl, ?_⟩
              have hL := hL.pushAll hF335
              simp only [List.cons_append, List.nil_append, List.set_cons_zero, List.set_cons_succ] at hL
              refine ⟨(hL.sel [1, 2, 3, 4, 5, 6, 7, 8, 9] (by decide) rfl), ?_⟩
              have hS := (hL.sel [1, 2, 3, 4, 5, 6, 7, 8, 9] (by decide) rfl)
              refine DH.take 10 rfl (by kernel_rfl) (by kernel_rfl) (by kernel_rfl) rfl rfl hS (YH.val (v := (.tuple #[v332, (.int .i64 x329.2)])) (fun w' hS' => x_move)) ?_
              have hS := (hL.sel [1, 2, 3, 4, 5, 6, 7, 8, 9] (by decide) rfl)
              refine DH.take 11 rfl (by kernel_rfl) (by kernel_rfl) (by kernel_rfl) rfl rfl hS (YH.val (v := v332) (fun w' hS' => x_extract rfl rfl)) ?_
              have hS := (hL.sel [1, 2, 3, 4, 5, 6, 7, 8, 9] (by decide) rfl)
              refine DH.take 12 rfl (by kernel_rfl) (by kernel_rfl) (by kernel_rfl) rfl rfl hS (YH.val (v := (.int .i64 x329.2)) (fun w' hS' => x_extract rfl rfl)) ?_
              have hS := (hL.sel [1, 2, 3, 4, 5, 6, 7, 8, 9] (by decide) rfl)
              refine DH.take 13 rfl (by kernel_rfl) (by kernel_rfl) (by kernel_rfl) rfl rfl hS (YH.val (v := v332) (fun w' hS' => x_assign)) ?_
              have hS := (hL.sel [1, 2, 3, 4, 5, 6, 7, 8, 9] (by decide) rfl)
              refine DH.take 14 rfl (by kernel_rfl) (by kernel_rfl) (by kernel_rfl) rfl rfl hS (YH.val (v := (.int .i64 x329.2)) (fun w' hS' => x_assign)) ?_
              refine DH.done (by kernel_rfl) ?_
              have hL := hL.thaw 2 rfl ho291
              have hL := hL.thaw 3 rfl ho293
              have hL := hL.thaw 4 rfl ho295
              have hL := hL.thaw 6 rfl ho297
              have hL := hL.thaw 7 rfl ho299
              refine CW.seqJ (fun (s_j3 : Bool) (F : Fr) (w : World) => F 3 = (.pointer (some ⟨b17, 0, none⟩)) ∧ F 4 = (.pointer (some ⟨b29, 0, none⟩)) ∧ F 6 = (.pointer (some ⟨b49, 0, none⟩)) ∧ F 8 = (.int .i64 s_l1) ∧ F 76 = (.bool s_j3) ∧ Hp w0 [Ent.blk b49 38 #[(.int .i64 x39.1.Boats), v42, v44], Ent.own 53 S41 v42 x39.1.Points, Ent.own 53 S43 v44 x39.1.Codes, Ent.own 29 S33 v34 x31.Races, Ent.blk b29 38 #[(.int .i64 x19.1.Boats), v22, v24], Ent.own 53 S21 v22 x19.1.Points, Ent.own 53 S23 v24 x19.1.Codes, Ent.blk b17 49 #[(.int .i64 x31.Boats), (.int .i64 x31.Scheme), v34], Ent.snap w0 w0.heap.size] w) (fun s_j3 => M.laws_FnTables_j3 s_l1 s_j3 = some t258) ?_ ?_
              · refine CW.regionL ?_
                refine OW.cons (OP.val (v := (.int .i64 x329.2)) rfl (x_move) ?_)
                refine OW.cons (OP.val (v := (.bool (x329.2 != 0))) rfl (x_neq rfl rfl) ?_)
                refine OW.cons (OP.val (v := (.bool (x329.2 != 0))) rfl (x_move) ?_)
                refine ifB_elim hm (fun hb363 hm => ?_) (fun hb363 hm => ?_)
                · refine OW.cons (OP.no' rfl rfl hb363 rfl ?_)
                  refine OW.cons (OP.no' rfl rfl hb363 rfl ?_)
                  refine OW.cons (OP.no' rfl rfl hb363 rfl ?_)
                  refine OW.cons (OP.no' rfl rfl hb363 rfl ?_)
                  refine OW.cons (OP.no' rfl rfl hb363 rfl ?_)
                  refine OW.cons (OP.no' rfl rfl hb363 rfl ?_)
                  refine OW.cons (OP.no' rfl rfl hb363 rfl ?_)
                  refine OW.cons (OP.no' rfl rfl hb363 rfl ?_)
                  refine OW.cons (OP.val (v := (.bool true)) rfl (x_pickT' rfl hb363 rfl) ?_)
                  refine OW.nil ?_
                  have hL := hL.sel [1, 2, 3, 4, 5, 6, 7, 8, 9] (by decide) rfl
                  exact ⟨true, hm, ⟨f285, f286, f287, f288, rfl, hL⟩⟩
                · refine OW.cons (OP.yes' rfl rfl hb363 (OP.val (v := v332) rfl (x_move) ?_))
                  refine OW.cons (OP.yes' rfl rfl hb363 (OP.val (v := (.pointer (some ⟨b29, 1, none⟩))) rfl (x_fieldAddr (fsz := 1) 0 1 1 Try.underlying38 rfl Try_T33 rfl f286 rfl) ?_))
                  refine OW.cons (OP.yes' rfl rfl hb363 (OP.val (v := v22) rfl (x_load1 Try.underlying33 rfl rfl (hL.cellB 5 rfl rfl)) ?_))
                  refine OW.cons (OP.yes' rfl rfl hb363 (OP.val (v := (.int .i64 s_l1)) rfl (x_mv f288) ?_))
                  obtain ⟨wz364, hL, ho365⟩ := hL.freeze 6 rfl
                  simp only [List.set_cons_zero, List.set_cons_succ] at hL
                  obtain ⟨x366, ha367, hm⟩ := bndE hm
                  obtain ⟨hz368, ha376⟩ := idxE ha367
                  obtain ⟨b369, q370, v371, hix372, hs373, hc374, hr375⟩ := rdN_at ho365.1.rdL hz368 ha376
                  refine OW.cons (OP.yes' rfl rfl hb363 (OP.val (v := (.pointer (some ⟨b369, q370, none⟩))) rfl (x_ix Try.underlying33 Try_T53 rfl rfl hix372) ?_))
                  refine OW.cons (OP.yes' rfl rfl hb363 (OP.val (v := v371) rfl (x_load1 Try.underlying53 rfl rfl (hL.cellF 6 rfl hs373 hc374)) ?_))
                  obtain ⟨x377, hx378, hm⟩ := bndE hm
                  refine OW.cons (OP.yes' rfl rfl hb363 (OP.call rfl (x_call (vs := [v332, v371]) Try_C38 ⟨rfl, rfl, trivial⟩) (M.laws_likeInts_ok _ x329.1 (hL.rdO 0 rfl) x366 (hL.rdF 6 rfl hr375) hx378) ?_))
                  rintro e379 wd380 ⟨rfl, hF381⟩
                  refine ⟨_, rfl, ?_⟩
                  have hL := hL.pushAll hF381
                  simp only [List.cons_append, List.nil_append, List.set_cons_zero, List.set_cons_succ] at hL
                  refine OW.cons (OP.yes' rfl rfl hb363 (OP.val (v := (.bool (!x377))) rfl (x_not rfl) ?_))
                  refine OW.cons (OP.val (v := (.bool (!x377))) rfl (x_pickF' rfl hb363 rfl) ?_)
                  refine OW.nil ?_
                  have hL := hL.thaw 6 rfl ho365
                  have hL := hL.sel [1, 2, 3, 4, 5, 6, 7, 8, 9] (by decide) rfl
                  exact ⟨!x377, hm, ⟨f285, f286, f287, f288, rfl, hL⟩⟩
              · intro s_j3 F355 wd356 hJ hm
                unfold M.laws_FnTables_j3 at hm
                obtain ⟨f357, f358, f359, f360, f361, hL⟩ := hJ
                refine CW.condM (t := s_j3) f361 hm (fun hb362 hm => ?_) (fun hb362 hm => ?_)
                · refine CW.seq ?_
                  refine CW.regionL ?_
                  refine OW.cons (OP.val (v := (.bool false)) rfl (x_assign) ?_)
                  refine OW.nil ?_
                  refine CW.ret ?_
                  obtain rfl := Option.some.inj hm
                  have hm := hr259 _ rfl
                  obtain rfl := Option.some.inj hm
                  exact RR1 rfl rfl ⟨rfl, hL.fresh 8 rfl [] (by decide) (by decide) rfl⟩
                · refine CW.skip ?_
                  refine CW.regionL ?_
                  refine OW.cons (OP.val (v := (.int .i64 s_l1)) rfl (x_mv f360) ?_)
                  refine OW.cons (OP.val (v := (.int .i64 (w64 (s_l1 + 1)))) rfl (x_add rfl rfl) ?_)
                  refine OW.cons (OP.val (v := (.int .i64 (w64 (s_l1 + 1)))) rfl (x_assign) ?_)
                  refine OW.nil ?_
                  obtain rfl := Option.some.inj hm
                  exact ⟨_, rfl, ⟨f357, f358, f359, rfl, hL⟩⟩
            · refine CW.exit ?_
              refine XJ.hit ?_
              obtain rfl := Option.some.inj hm
              exact ⟨_, rfl, ⟨f285, f286, f287, f288, hL⟩⟩

end Go.Proofs.Ytblljgcbffkahaa
