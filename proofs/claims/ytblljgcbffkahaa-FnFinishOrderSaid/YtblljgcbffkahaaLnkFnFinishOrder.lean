/- Links: each Go function returns what its model computes and leaves what was there. Printed by my generator. -/
import Derived.Test.YtblljgcbffkahaaLnkFnFinishOrderA
namespace Go.Proofs.Ytblljgcbffkahaa
set_option maxRecDepth 10000
open Go Go.RowKit Go.ChangeShapes Go.WideShapes
set_option linter.unusedVariables false
set_option linter.unusedSimpArgs false

theorem M.laws_hasInt_ok (w0 : World) (a0 : List Int) {v1 : Value} (h2 : rdL (· < w0.heap.size) w0 v1 a0) (a1 : Int) {r : Bool} (hm : M.laws_hasInt a0 a1 = some r) :
    Calls Try.prog 46 #[v1, (.int .i64 a1)] w0 fun e w' => e = .returned (.bool r) ∧ Fresh w0 w' [] := by
  unfold M.laws_hasInt at hm
  refine calls_CW (args := [v1, (.int .i64 a1)]) Try.func46 rfl rfl rfl ?_
  have hL := Hp.start w0
  refine CW.seq ?_
  refine CW.regionL ?_
  refine OW.cons (OP.val (v := (.bool false)) rfl (x_assign) ?_)
  refine OW.nil ?_
  refine CW.seq ?_
  refine CW.seq ?_
  refine CW.regionL ?_
  refine OW.cons (OP.val (v := (.int .i64 0)) rfl (x_assign) ?_)
  refine OW.nil ?_
  obtain ⟨o23, ho24, hm⟩ := bndE hm
  refine CW.loopB (fun (s_l1 : Int) (F : Fr) (w : World) => F 0 = v1 ∧ F 1 = (.int .i64 a1) ∧ F 5 = (.int .i64 s_l1) ∧ Hp w0 [Ent.snap w0 w0.heap.size] w) (fun o => outc o (fun x => some x) (fun s => M.laws_hasInt_a1 s) = some r) ho24 hm ⟨rfl, rfl, rfl, hL⟩ ?_ ?_
  · intro s_l1 F25 wd26 hJ hm
    have hm := outcE hm
    have hm : M.laws_hasInt_a1 s_l1 = some r := hm
    unfold M.laws_hasInt_a1 at hm
    obtain ⟨f27, f28, f29, hL⟩ := hJ
    refine CW.seq ?_
    refine CW.regionL ?_
    refine OW.cons (OP.val (v := (.bool false)) rfl (x_assign) ?_)
    refine OW.nil ?_
    refine CW.ret ?_
    obtain rfl := Option.some.inj hm
    exact RR1 rfl rfl ⟨rfl, hL.fresh 0 rfl [] (by decide) (by decide) rfl⟩
  · intro s_l1 F30 wd31 t21 hJ hm hr22
    unfold M.laws_hasInt_l1 at hm
    obtain ⟨f32, f33, f34, hL⟩ := hJ
    refine CW.seq ?_
    refine CW.seq ?_
    refine CW.regionL ?_
    refine OW.cons (OP.val (v := (.int .i64 s_l1)) rfl (x_mv f34) ?_)
    refine OW.cons (OP.val (v := v1) rfl (x_mv f32) ?_)
    refine OW.cons (OP.val (v := (.int .i64 (a0.length : Int))) rfl (x_lenR Try.underlying53 rfl (hL.rdS 0 rfl h2)) ?_)
    refine OW.cons (OP.val (v := (.bool (decide (s_l1 < (a0.length : Int))))) rfl (x_lss rfl rfl) ?_)
    refine OW.nil ?_
    refine CW.condM (t := decide (s_l1 < (a0.length : Int))) rfl hm (fun hb35 hm => ?_) (fun hb35 hm => ?_)
    · refine CW.skip ?_
      refine CW.seq ?_
      refine CW.block ?_
      refine CW.seq ?_
      refine CW.regionL ?_
      refine OW.cons (OP.val (v := v1) rfl (x_mv f32) ?_)
      refine OW.cons (OP.val (v := (.int .i64 s_l1)) rfl (x_mv f34) ?_)
      obtain ⟨x36, ha37, hm⟩ := bndE hm
      obtain ⟨hz38, ha42⟩ := idxE ha37
      obtain ⟨b39, q40, hix41⟩ := rdL_ix (hL.rdS 0 rfl h2) hz38 ha42
      refine OW.cons (OP.val (v := (.pointer (some ⟨b39, q40, none⟩))) rfl (x_ix Try.underlying53 Try_T2 rfl rfl hix41) ?_)
      refine OW.cons (OP.val (v := (.int .i64 x36)) rfl (x_load1 Try.underlying2 rfl rfl (rdF_cells (hL.rdS 0 rfl h2) hix41 ha42 0 _ rfl)) ?_)
      refine OW.cons (OP.val (v := (.int .i64 a1)) rfl (x_mv f33) ?_)
      refine OW.cons (OP.val (v := (.bool (x36 == a1))) rfl (x_eql rfl rfl) ?_)
      refine OW.nil ?_
      refine CW.condM (t := x36 == a1) rfl hm (fun hb43 hm => ?_) (fun hb43 hm => ?_)
      · refine CW.seq ?_
        refine CW.regionL ?_
        refine OW.cons (OP.val (v := (.bool true)) rfl (x_assign) ?_)
        refine OW.nil ?_
        refine CW.ret ?_
        obtain rfl := Option.some.inj hm
        have hm := hr22 _ rfl
        obtain rfl := Option.some.inj hm
        exact RR1 rfl rfl ⟨rfl, hL.fresh 0 rfl [] (by decide) (by decide) rfl⟩
      · refine CW.skip ?_
        refine CW.regionL ?_
        refine OW.cons (OP.val (v := (.int .i64 s_l1)) rfl (x_mv f34) ?_)
        refine OW.cons (OP.val (v := (.int .i64 (w64 (s_l1 + 1)))) rfl (x_add rfl rfl) ?_)
        refine OW.cons (OP.val (v := (.int .i64 (w64 (s_l1 + 1)))) rfl (x_assign) ?_)
        refine OW.nil ?_
        obtain rfl := Option.some.inj hm
        exact ⟨_, rfl, ⟨f32, f33, rfl, hL⟩⟩
    · refine CW.exit ?_
      refine XJ.hit ?_
      obtain rfl := Option.some.inj hm
      exact ⟨_, rfl, ⟨f32, f33, f34, hL⟩⟩

theorem M.laws_FnFinishOrder_ok (w0 : World) (a0 : List UInt8) {v1 : Value} (h2 : rdL (· < w0.heap.size) w0 v1 a0) {r : Bool} (hm : M.laws_FnFinishOrder a0 = some r) :
    Calls Try.prog 11 #[v1] w0 fun e w' => e = .returned (.bool r) ∧ Fresh w0 w' [] := by
  unfold M.laws_FnFinishOrder at hm
  refine calls_CW (args := [v1]) Try.func11 rfl rfl rfl ?_
  have hL := Hp.start w0
  refine CW.seq ?_
  refine CW.regionL ?_
  refine OW.cons (OP.val (v := (.bool false)) rfl (x_assign) ?_)
  refine OW.nil ?_
  refine CW.seq ?_
  refine CW.seq ?_
  refine CW.regionL ?_
  refine OW.cons (OP.val (v := v1) rfl (x_move) ?_)
  obtain ⟨x3, hx4, hm⟩ := bndE hm
  refine OW.cons (OP.call rfl (x_call (vs := [v1]) Try_C34 ⟨rfl, trivial⟩) (M.laws_big_ok _ a0 (hL.rdS 0 rfl h2) hx4) ?_)
  rintro e5 wd6 ⟨rfl, hF7⟩
  refine ⟨_, rfl, ?_⟩
  have hL := hL.pushAll hF7
  simp only [List.cons_append, List.nil_append, List.set_cons_zero, List.set_cons_succ] at hL
  refine OW.nil ?_
  refine CW.condM (t := x3) rfl hm (fun hb8 hm => ?_) (fun hb8 hm => ?_)
  · refine CW.seq ?_
    refine CW.regionL ?_
    refine OW.cons (OP.val (v := (.bool true)) rfl (x_assign) ?_)
    refine OW.nil ?_
    refine CW.ret ?_
    obtain rfl := Option.some.inj hm
    exact RR1 rfl rfl ⟨rfl, hL.fresh 0 rfl [] (by decide) (by decide) rfl⟩
  · refine CW.skip ?_
    refine CW.seq ?_
    refine CW.regionL ?_
    refine OW.cons (OP.val (v := v1) rfl (x_move) ?_)
    obtain ⟨x9, hx10, hm⟩ := bndE hm
    refine OW.cons (OP.call rfl (x_call (vs := [v1]) Try_C45 ⟨rfl, trivial⟩) (M.spec_DrawFinishOrder_ok _ a0 (hL.rdS 0 rfl h2) hx10) ?_)
    rintro e13 wd14 ⟨v12, S11, rfl, hF15⟩
    refine ⟨_, rfl, ?_⟩
    have hL := hL.pushAll hF15
    simp only [List.cons_append, List.nil_append, List.set_cons_zero, List.set_cons_succ] at hL
    refine OW.cons (OP.val (v := (.tuple #[(.int .i64 x9.1), (.agg #[v12])])) rfl (x_move) ?_)
    refine OW.cons (OP.val (v := (.int .i64 x9.1)) rfl (x_extract rfl rfl) ?_)
    refine OW.cons (OP.val (v := (.agg #[v12])) rfl (x_extract rfl rfl) ?_)
    refine OW.cons (S_alloc (cs := #[(.slice none 0 0)]) hL Try_T29 rfl rfl ?_)
    intro wd16 b17 hL
    refine OW.cons (OP.val (v := (.int .i64 x9.1)) rfl (x_assign) ?_)
    refine OW.cons (S_storeN (l := [v12]) (cs' := #[v12]) hL 0 rfl Try_T29 rfl rfl (List.forall_mem_cons.2 ⟨rdL_one (hL.rdO 1 rfl), (fun _ h => by cases h)⟩) rfl (Nat.le_of_ble_eq_true rfl) rfl ?_)
    intro wd18 hL
    refine OW.nil ?_
    refine CW.seq ?_
    refine CW.regionL ?_
    refine OW.cons (OP.val (v := (.int .i64 x9.1)) rfl (x_move) ?_)
    refine OW.cons (OP.val (v := (.agg #[v12])) rfl (x_loadN (cs := [v12]) Try.underlying29 Try_T29 rfl rfl (hL.cellsB 0 rfl (o := 0) (l := [v12]) (by intro j u hj; exact (by simpa using hj)))) ?_)
    obtain ⟨x19, hx20, hm⟩ := bndE hm
    refine OW.cons (OP.call rfl (x_call (vs := [(.int .i64 x9.1), (.agg #[v12])]) Try_C44 ⟨rfl, rfl, trivial⟩) (M.impl_FinishOrder_ok _ x9.1 x9.2 (hL.rdO 1 rfl) hx20) ?_)
    rintro e23 wd24 ⟨v22, S21, rfl, hF25⟩
    refine ⟨_, rfl, ?_⟩
    have hL := hL.pushAll hF25
    simp only [List.cons_append, List.nil_append, List.set_cons_zero, List.set_cons_succ] at hL
    refine OW.cons (OP.val (v := (.tuple #[v22, (.int .i64 x19.2)])) rfl (x_move) ?_)
    refine OW.cons (OP.val (v := v22) rfl (x_extract rfl rfl) ?_)
    refine OW.cons (OP.val (v := (.int .i64 x19.2)) rfl (x_extract rfl rfl) ?_)
    refine OW.cons (OP.val (v := v22) rfl (x_assign) ?_)
    refine OW.cons (OP.val (v := (.int .i64 x19.2)) rfl (x_assign) ?_)
    refine OW.nil ?_
    refine CW.seq ?_
    refine CW.regionL ?_
    refine OW.cons (OP.val (v := v1) rfl (x_move) ?_)
    obtain ⟨x26, hx27, hm⟩ := bndE hm
    refine OW.cons (OP.call rfl (x_call (vs := [v1]) Try_C45 ⟨rfl, trivial⟩) (M.spec_DrawFinishOrder_ok _ a0 (hL.rdS 3 rfl h2) hx27) ?_)
    rintro e30 wd31 ⟨v29, S28, rfl, hF32⟩
    refine ⟨_, rfl, ?_⟩
    have hL := hL.pushAll hF32
    simp only [List.cons_append, List.nil_append, List.set_cons_zero, List.set_cons_succ] at hL
    refine OW.cons (OP.val (v := (.tuple #[(.int .i64 x26.1), (.agg #[v29])])) rfl (x_move) ?_)
    refine OW.cons (OP.val (v := (.int .i64 x26.1)) rfl (x_extract rfl rfl) ?_)
    refine OW.cons (OP.val (v := (.agg #[v29])) rfl (x_extract rfl rfl) ?_)
    refine OW.cons (OP.val (v := (.int .i64 x26.1)) rfl (x_assign) ?_)
    refine OW.cons (S_storeN (l := [v29]) (cs' := #[v29]) hL 2 rfl Try_T29 rfl rfl (List.forall_mem_cons.2 ⟨rdL_one (hL.rdO 0 rfl), (fun _ h => by cases h)⟩) rfl (Nat.le_of_ble_eq_true rfl) rfl ?_)
    intro wd33 hL
    refine OW.nil ?_
    refine CW.seq ?_
    refine CW.regionL ?_
    refine OW.cons (OP.val (v := (.int .i64 x26.1)) rfl (x_move) ?_)
    refine OW.cons (OP.val (v := (.agg #[v29])) rfl (x_loadN (cs := [v29]) Try.underlying29 Try_T29 rfl rfl (hL.cellsB 2 rfl (o := 0) (l := [v29]) (by intro j u hj; exact (by simpa using hj)))) ?_)
    obtain ⟨x34, hx35, hm⟩ := bndE hm
    refine OW.cons (OP.call rfl (x_call (vs := [(.int .i64 x26.1), (.agg #[v29])]) Try_C43 ⟨rfl, rfl, trivial⟩) (M.spec_FinishOrder_ok _ x26.1 x26.2 (hL.rdO 0 rfl) hx35) ?_)
    rintro e38 wd39 ⟨v37, S36, rfl, hF40⟩
    refine ⟨_, rfl, ?_⟩
    have hL := hL.pushAll hF40
    simp only [List.cons_append, List.nil_append, List.set_cons_zero, List.set_cons_succ] at hL
    refine OW.cons (OP.val (v := (.tuple #[v37, (.int .i64 x34.2)])) rfl (x_move) ?_)
    refine OW.cons (OP.val (v := v37) rfl (x_extract rfl rfl) ?_)
    refine OW.cons (OP.val (v := (.int .i64 x34.2)) rfl (x_extract rfl rfl) ?_)
    refine OW.cons (OP.val (v := v37) rfl (x_assign) ?_)
    refine OW.cons (OP.val (v := (.int .i64 x34.2)) rfl (x_assign) ?_)
    refine OW.nil ?_
    refine CW.seq ?_
    refine CW.seqJ (fun (s_j1 : Bool) (F : Fr) (w : World) => F 3 = (.int .i64 x26.1) ∧ F 4 = (.pointer (some ⟨b17, 0, none⟩)) ∧ F 5 = v22 ∧ F 6 = (.int .i64 x19.2) ∧ F 7 = v37 ∧ F 55 = (.bool s_j1) ∧ Hp w0 [Ent.own 2 S36 v37 x34.1, Ent.own 88 S28 v29 x26.2.Finishes, Ent.own 2 S21 v22 x19.1, Ent.blk b17 29 #[v29], Ent.snap w0 w0.heap.size] w) (fun s_j1 => M.laws_FnFinishOrder_j1 x19 x26 x34 s_j1 = some r) ?_ ?_
    · refine CW.regionL ?_
      refine OW.cons (OP.val (v := (.int .i64 x19.2)) rfl (x_move) ?_)
      refine OW.cons (OP.val (v := (.int .i64 x34.2)) rfl (x_move) ?_)
      refine OW.cons (OP.val (v := (.bool (x19.2 != x34.2))) rfl (x_neq rfl rfl) ?_)
      refine OW.cons (OP.val (v := (.bool (x19.2 != x34.2))) rfl (x_move) ?_)
      refine ifB_elim hm (fun hb278 hm => ?_) (fun hb278 hm => ?_)
      · refine OW.cons (OP.no' rfl rfl hb278 rfl ?_)
        refine OW.cons (OP.no' rfl rfl hb278 rfl ?_)
        refine OW.cons (OP.no' rfl rfl hb278 rfl ?_)
        refine OW.cons (OP.no' rfl rfl hb278 rfl ?_)
        refine OW.cons (OP.val (v := (.bool true)) rfl (x_pickT' rfl hb278 rfl) ?_)
        refine OW.cons (OP.val (v := (.bool true)) rfl (x_move) ?_)
        refine OW.cons (OP.no' rfl rfl rfl rfl ?_)
        refine OW.cons (OP.no' rfl rfl rfl rfl ?_)
        refine OW.cons (OP.no' rfl rfl rfl rfl ?_)
        refine OW.cons (OP.no' rfl rfl rfl rfl ?_)
        refine OW.cons (OP.no' rfl rfl rfl rfl ?_)
        refine OW.cons (OP.no' rfl rfl rfl rfl ?_)
        refine OW.cons (OP.val (v := (.bool true)) rfl (x_pickT' rfl rfl rfl) ?_)
        refine OW.nil ?_
        have hL := hL.sel [0, 1, 2, 3, 5] (by decide) rfl
        exact ⟨true, hm, ⟨rfl, rfl, rfl, rfl, rfl, rfl, hL⟩⟩
      · refine OW.cons (OP.yes' rfl rfl hb278 (OP.val (v := v22) rfl (x_move) ?_))
        refine OW.cons (OP.yes' rfl rfl hb278 (OP.val (v := v37) rfl (x_move) ?_))
        obtain ⟨x279, hx280, hm⟩ := bndE hm
        refine OW.cons (OP.yes' rfl rfl hb278 (OP.call rfl (x_call (vs := [v22, v37]) Try_C38 ⟨rfl, rfl, trivial⟩) (M.laws_likeInts_ok _ x19.1 (hL.rdO 2 rfl) x34.1 (hL.rdO 0 rfl) hx280) ?_))
        rintro e281 wd282 ⟨rfl, hF283⟩
        refine ⟨_, rfl, ?_⟩
        have hL := hL.pushAll hF283
        simp only [List.cons_append, List.nil_append, List.set_cons_zero, List.set_cons_succ] at hL
        refine OW.cons (OP.yes' rfl rfl hb278 (OP.val (v := (.bool (!x279))) rfl (x_not rfl) ?_))
        refine OW.cons (OP.val (v := (.bool (!x279))) rfl (x_pickF' rfl hb278 rfl) ?_)
        refine OW.cons (OP.val (v := (.bool (!x279))) rfl (x_move) ?_)
        refine ifB_elim hm (fun hb284 hm => ?_) (fun hb284 hm => ?_)
        · refine OW.cons (OP.no' rfl rfl hb284 rfl ?_)
          refine OW.cons (OP.no' rfl rfl hb284 rfl ?_)
          refine OW.cons (OP.no' rfl rfl hb284 rfl ?_)
          refine OW.cons (OP.no' rfl rfl hb284 rfl ?_)
          refine OW.cons (OP.no' rfl rfl hb284 rfl ?_)
          refine OW.cons (OP.no' rfl rfl hb284 rfl ?_)
          refine OW.cons (OP.val (v := (.bool true)) rfl (x_pickT' rfl hb284 rfl) ?_)
          refine OW.nil ?_
          have hL := hL.sel [0, 1, 2, 3, 5] (by decide) rfl
          exact ⟨true, hm, ⟨rfl, rfl, rfl, rfl, rfl, rfl, hL⟩⟩
        · refine OW.cons (OP.yes' rfl rfl hb284 (OP.val (v := (.int .i64 x26.1)) rfl (x_move) ?_))
          refine OW.cons (OP.yes' rfl rfl hb284 (OP.val (v := (.agg #[v29])) rfl (x_loadN (cs := [v29]) Try.underlying29 Try_T29 rfl rfl (hL.cellsB 3 rfl (o := 0) (l := [v29]) (by intro j u hj; exact (by simpa using hj)))) ?_))
          obtain ⟨x285, hx286, hm⟩ := bndE hm
          refine OW.cons (OP.yes' rfl rfl hb284 (OP.call rfl (x_call (vs := [(.int .i64 x26.1), (.agg #[v29])]) Try_C16 ⟨rfl, rfl, trivial⟩) (M.impl_IsRace_ok _ x26.1 x26.2 (hL.rdO 1 rfl) hx286) ?_))
          rintro e287 wd288 ⟨rfl, hF289⟩
          refine ⟨_, rfl, ?_⟩
          have hL := hL.pushAll hF289
          simp only [List.cons_append, List.nil_append, List.set_cons_zero, List.set_cons_succ] at hL
          refine OW.cons (OP.yes' rfl rfl hb284 (OP.val (v := (.int .i64 x19.2)) rfl (x_move) ?_))
          refine OW.cons (OP.yes' rfl rfl hb284 (OP.val (v := (.bool (x19.2 == 0))) rfl (x_eql rfl rfl) ?_))
          refine OW.cons (OP.yes' rfl rfl hb284 (OP.val (v := (.bool (x285 != (x19.2 == 0)))) rfl (x_neqB Try.underlying4 rfl rfl) ?_))
          refine OW.cons (OP.val (v := (.bool (x285 != (x19.2 == 0)))) rfl (x_pickF' rfl hb284 rfl) ?_)
          refine OW.nil ?_
          have hL := hL.sel [0, 1, 2, 3, 5] (by decide) rfl
          exact ⟨x285 != (x19.2 == 0), hm, ⟨rfl, rfl, rfl, rfl, rfl, rfl, hL⟩⟩
    · intro s_j1 F53 wd54 hJ hm
      unfold M.laws_FnFinishOrder_j1 at hm
      obtain ⟨f55, f56, f57, f58, f59, f60, hL⟩ := hJ
      refine CW.condM (t := s_j1) f60 hm (fun hb61 hm => ?_) (fun hb61 hm => ?_)
      · refine CW.seq ?_
        refine CW.regionL ?_
        refine OW.cons (OP.val (v := (.bool false)) rfl (x_assign) ?_)
        refine OW.nil ?_
        refine CW.ret ?_
        obtain rfl := Option.some.inj hm
        exact RR1 rfl rfl ⟨rfl, hL.fresh 4 rfl [] (by decide) (by decide) rfl⟩
      · refine CW.skip ?_
        refine CW.seq ?_
        refine CW.seq ?_
        refine CW.regionL ?_
        refine OW.cons (OP.val (v := (.int .i64 x19.2)) rfl (x_mv f58) ?_)
        refine OW.cons (OP.val (v := (.bool (x19.2 != 0))) rfl (x_neq rfl rfl) ?_)
        refine OW.nil ?_
        refine CW.condM (t := x19.2 != 0) rfl hm (fun hb62 hm => ?_) (fun hb62 hm => ?_)
        · refine CW.seq ?_
          refine CW.regionL ?_
          refine OW.cons (OP.val (v := (.bool true)) rfl (x_assign) ?_)
          refine OW.nil ?_
          refine CW.ret ?_
          obtain rfl := Option.some.inj hm
          exact RR1 rfl rfl ⟨rfl, hL.fresh 4 rfl [] (by decide) (by decide) rfl⟩
        · refine CW.skip ?_
          refine CW.seq ?_
          refine CW.regionL ?_
          refine OW.cons (OP.val (v := (.int .i64 x26.1)) rfl (x_mv f55) ?_)
          refine OW.cons (OP.val (v := (.agg #[v29])) rfl (x_loadN (cs := [v29]) Try.underlying29 Try_T29 rfl f56 (hL.cellsB 3 rfl (o := 0) (l := [v29]) (by intro j u hj; exact (by simpa using hj)))) ?_)
          obtain ⟨x63, hx64, hm⟩ := bndE hm
          refine OW.cons (OP.call rfl (x_call (vs := [(.int .i64 x26.1), (.agg #[v29])]) Try_C29 ⟨rfl, rfl, trivial⟩) (M.impl_PlacesOf_ok _ x26.1 x26.2 (hL.rdO 1 rfl) hx64) ?_)
          rintro e67 wd68 ⟨v66, S65, rfl, hF69⟩
          refine ⟨_, rfl, ?_⟩
          have hL := hL.pushAll hF69
          simp only [List.cons_append, List.nil_append, List.set_cons_zero, List.set_cons_succ] at hL
          refine OW.cons (OP.val (v := (.tuple #[v66, (.int .i64 x63.2)])) rfl (x_move) ?_)
          refine OW.cons (OP.val (v := v66) rfl (x_extract rfl rfl) ?_)
          refine OW.cons (OP.val (v := (.int .i64 x63.2)) rfl (x_extract rfl rfl) ?_)
          refine OW.cons (OP.val (v := v66) rfl (x_assign) ?_)
          refine OW.cons (OP.val (v := (.int .i64 x63.2)) rfl (x_assign) ?_)
          refine OW.nil ?_
          refine CW.seq ?_
          refine CW.seqJ (fun (s_j2 : Bool) (F : Fr) (w : World) => F 3 = (.int .i64 x26.1) ∧ F 5 = v22 ∧ F 7 = v37 ∧ F 9 = v66 ∧ F 77 = (.bool s_j2) ∧ Hp w0 [Ent.own 2 S65 v66 x63.1, Ent.own 2 S36 v37 x34.1, Ent.own 88 S28 v29 x26.2.Finishes, Ent.own 2 S21 v22 x19.1, Ent.blk b17 29 #[v29], Ent.snap w0 w0.heap.size] w) (fun s_j2 => M.laws_FnFinishOrder_j2 x19 x26 x34 x63 s_j2 = some r) ?_ ?_
          · refine CW.regionL ?_
            refine OW.cons (OP.val (v := (.int .i64 x63.2)) rfl (x_move) ?_)
            refine OW.cons (OP.val (v := (.bool (x63.2 != 0))) rfl (x_neq rfl rfl) ?_)
            refine OW.cons (OP.val (v := (.bool (x63.2 != 0))) rfl (x_move) ?_)
            refine ifB_elim hm (fun hb276 hm => ?_) (fun hb276 hm => ?_)
            · refine OW.cons (OP.no' rfl rfl hb276 rfl ?_)
              refine OW.cons (OP.no' rfl rfl hb276 rfl ?_)
              refine OW.cons (OP.no' rfl rfl hb276 rfl ?_)
              refine OW.cons (OP.no' rfl rfl hb276 rfl ?_)
              refine OW.cons (OP.val (v := (.bool true)) rfl (x_pickT' rfl hb276 rfl) ?_)
              refine OW.cons (OP.val (v := (.bool true)) rfl (x_move) ?_)
              refine OW.cons (OP.no' rfl rfl rfl rfl ?_)
              refine OW.cons (OP.no' rfl rfl rfl rfl ?_)
              refine OW.cons (OP.no' rfl rfl rfl rfl ?_)
              refine OW.cons (OP.no' rfl rfl rfl rfl ?_)
              refine OW.cons (OP.val (v := (.bool true)) rfl (x_pickT' rfl rfl rfl) ?_)
              refine OW.nil ?_
              exact ⟨true, hm, ⟨f55, f57, f59, rfl, rfl, hL⟩⟩
            · refine OW.cons (OP.yes' rfl rfl hb276 (OP.val (v := v66) rfl (x_move) ?_))
              refine OW.cons (OP.yes' rfl rfl hb276 (OP.val (v := (.int .i64 (x63.1.length : Int))) rfl (x_lenR Try.underlying53 rfl (hL.rdO 0 rfl)) ?_))
              refine OW.cons (OP.yes' rfl rfl hb276 (OP.val (v := (.int .i64 x26.1)) rfl (x_mv f55) ?_))
              refine OW.cons (OP.yes' rfl rfl hb276 (OP.val (v := (.bool ((x63.1.length : Int) != x26.1))) rfl (x_neq rfl rfl) ?_))
              refine OW.cons (OP.val (v := (.bool ((x63.1.length : Int) != x26.1))) rfl (x_pickF' rfl hb276 rfl) ?_)
              refine OW.cons (OP.val (v := (.bool ((x63.1.length : Int) != x26.1))) rfl (x_move) ?_)
              refine ifB_elim hm (fun hb277 hm => ?_) (fun hb277 hm => ?_)
              · refine OW.cons (OP.no' rfl rfl hb277 rfl ?_)
                refine OW.cons (OP.no' rfl rfl hb277 rfl ?_)
                refine OW.cons (OP.no' rfl rfl hb277 rfl ?_)
                refine OW.cons (OP.no' rfl rfl hb277 rfl ?_)
                refine OW.cons (OP.val (v := (.bool true)) rfl (x_pickT' rfl hb277 rfl) ?_)
                refine OW.nil ?_
                exact ⟨true, hm, ⟨f55, f57, f59, rfl, rfl, hL⟩⟩
              · refine OW.cons (OP.yes' rfl rfl hb277 (OP.val (v := v22) rfl (x_mv f57) ?_))
                refine OW.cons (OP.yes' rfl rfl hb277 (OP.val (v := (.int .i64 (x19.1.length : Int))) rfl (x_lenR Try.underlying53 rfl (hL.rdO 3 rfl)) ?_))
                refine OW.cons (OP.yes' rfl rfl hb277 (OP.val (v := (.int .i64 x26.1)) rfl (x_mv f55) ?_))
                refine OW.cons (OP.yes' rfl rfl hb277 (OP.val (v := (.bool ((x19.1.length : Int) != x26.1))) rfl (x_neq rfl rfl) ?_))
                refine OW.cons (OP.val (v := (.bool ((x19.1.length : Int) != x26.1))) rfl (x_pickF' rfl hb277 rfl) ?_)
                refine OW.nil ?_
                exact ⟨(x19.1.length : Int) != x26.1, hm, ⟨f55, f57, f59, rfl, rfl, hL⟩⟩
          · intro s_j2 F72 wd73 hJ hm
            unfold M.laws_FnFinishOrder_j2 at hm
            obtain ⟨f74, f75, f76, f77, f78, hL⟩ := hJ
            refine CW.condM (t := s_j2) f78 hm (fun hb79 hm => ?_) (fun hb79 hm => ?_)
            · refine CW.seq ?_
              refine CW.regionL ?_
              refine OW.cons (OP.val (v := (.bool false)) rfl (x_assign) ?_)
              refine OW.nil ?_
              refine CW.ret ?_
              obtain rfl := Option.some.inj hm
              exact RR1 rfl rfl ⟨rfl, hL.fresh 5 rfl [] (by decide) (by decide) rfl⟩
            · refine CW.skip ?_
              refine CW.seq ?_
              refine CW.seq ?_
              refine CW.regionL ?_
              refine OW.cons (OP.val (v := (.int .i64 0)) rfl (x_assign) ?_)
              refine OW.nil ?_
              obtain ⟨o96, ho97, hm⟩ := bndE hm
              refine CW.loopB (fun (s_l1 : Int) (F : Fr) (w : World) => F 3 = (.int .i64 x26.1) ∧ F 5 = v22 ∧ F 7 = v37 ∧ F 9 = v66 ∧ F 11 = (.int .i64 s_l1) ∧ Hp w0 [Ent.own 2 S65 v66 x63.1, Ent.own 2 S36 v37 x34.1, Ent.own 88 S28 v29 x26.2.Finishes, Ent.own 2 S21 v22 x19.1, Ent.blk b17 29 #[v29], Ent.snap w0 w0.heap.size] w) (fun o => outc o (fun x => some x) (fun s => M.laws_FnFinishOrder_a1 x19 x34 x63 s) = some r) ho97 hm ⟨f74, f75, f76, f77, rfl, hL⟩ ?_ ?_
              · intro s_l1 F98 wd99 hJ hm
                have hm := outcE hm
                have hm : M.laws_FnFinishOrder_a1 x19 x34 x63 s_l1 = some r := hm
                unfold M.laws_FnFinishOrder_a1 at hm
                obtain ⟨f100, f101, f102, f103, f104, hL⟩ := hJ
                refine CW.seq ?_
                refine CW.seq ?_
                refine CW.regionL ?_
                refine OW.cons (OP.val (v := (.int .i64 1)) rfl (x_assign) ?_)
                refine OW.nil ?_
                obtain ⟨o201, ho202, hm⟩ := bndE hm
                refine CW.loopB (fun (s_l2 : Int) (F : Fr) (w : World) => F 5 = v22 ∧ F 7 = v37 ∧ F 9 = v66 ∧ F 12 = (.int .i64 s_l2) ∧ Hp w0 [Ent.own 2 S65 v66 x63.1, Ent.own 2 S36 v37 x34.1, Ent.own 88 S28 v29 x26.2.Finishes, Ent.own 2 S21 v22 x19.1, Ent.blk b17 29 #[v29], Ent.snap w0 w0.heap.size] w) (fun o => outc o (fun x => some x) (fun s => M.laws_FnFinishOrder_a2 s) = some r) ho202 hm ⟨f101, f102, f103, rfl, hL⟩ ?_ ?_
                · intro s_l2 F203 wd204 hJ hm
                  have hm := outcE hm
                  have hm : M.laws_FnFinishOrder_a2 s_l2 = some r := hm
                  unfold M.laws_FnFinishOrder_a2 at hm
                  obtain ⟨f205, f206, f207, f208, hL⟩ := hJ
                  refine CW.seq ?_
                  refine CW.regionL ?_
                  refine OW.cons (OP.val (v := (.bool true)) rfl (x_assign) ?_)
                  refine OW.nil ?_
                  refine CW.ret ?_
                  obtain rfl := Option.some.inj hm
                  exact RR1 rfl rfl ⟨rfl, hL.fresh 5 rfl [] (by decide) (by decide) rfl⟩
                · intro s_l2 F209 wd210 t199 hJ hm hr200
                  unfold M.laws_FnFinishOrder_l2 at hm
                  obtain ⟨f211, f212, f213, f214, hL⟩ := hJ
                  refine CW.seq ?_
                  refine CW.seq ?_
                  refine CW.regionL ?_
                  refine OW.cons (OP.val (v := (.int .i64 s_l2)) rfl (x_mv f214) ?_)
                  refine OW.cons (OP.val (v := v22) rfl (x_mv f211) ?_)
                  refine OW.cons (OP.val (v := (.int .i64 (x19.1.length : Int))) rfl (x_lenR Try.underlying53 rfl (hL.rdO 3 rfl)) ?_)
                  refine OW.cons (OP.val (v := (.bool (decide (s_l2 < (x19.1.length : Int))))) rfl (x_lss rfl rfl) ?_)
                  refine OW.nil ?_
                  refine CW.condM (t := decide (s_l2 < (x19.1.length : Int))) rfl hm (fun hb215 hm => ?_) (fun hb215 hm => ?_)
                  · refine CW.skip ?_
                    refine CW.seq ?_
                    refine CW.block ?_
                    refine CW.seq ?_
                    refine CW.regionL ?_
                    refine OW.cons (OP.val (v := v66) rfl (x_mv f213) ?_)
                    refine OW.cons (OP.val (v := v37) rfl (x_mv f212) ?_)
                    refine OW.cons (OP.val (v := (.int .i64 s_l2)) rfl (x_mv f214) ?_)
                    refine OW.cons (OP.val (v := (.int .i64 (w64 (s_l2 - 1)))) rfl (x_sub rfl rfl) ?_)
                    obtain ⟨x216, ha217, hm⟩ := bndE hm
                    obtain ⟨hz218, ha222⟩ := idxE ha217
                    obtain ⟨b219, q220, hix221⟩ := rdL_ix (hL.rdO 1 rfl) hz218 ha222
                    refine OW.cons (OP.val (v := (.pointer (some ⟨b219, q220, none⟩))) rfl (x_ix Try.underlying53 Try_T2 rfl rfl hix221) ?_)
                    refine OW.cons (OP.val (v := (.int .i64 x216)) rfl (x_load1 Try.underlying2 rfl rfl (rdF_cells (hL.rdO 1 rfl) hix221 ha222 0 _ rfl)) ?_)
                    obtain ⟨x223, ha224, hm⟩ := bndE hm
                    obtain ⟨hz225, ha229⟩ := idxE ha224
                    obtain ⟨b226, q227, hix228⟩ := rdL_ix (hL.rdO 0 rfl) hz225 ha229
                    refine OW.cons (OP.val (v := (.pointer (some ⟨b226, q227, none⟩))) rfl (x_ix Try.underlying53 Try_T2 rfl rfl hix228) ?_)
                    refine OW.cons (OP.val (v := (.int .i64 x223)) rfl (x_load1 Try.underlying2 rfl rfl (rdF_cells (hL.rdO 0 rfl) hix228 ha229 0 _ rfl)) ?_)
                    refine OW.cons (OP.val (v := (.int .i64 x223)) rfl (x_assign) ?_)
                    refine OW.nil ?_
                    refine CW.seq ?_
                    refine CW.regionL ?_
                    refine OW.cons (OP.val (v := v66) rfl (x_mv f213) ?_)
                    refine OW.cons (OP.val (v := v37) rfl (x_mv f212) ?_)
                    refine OW.cons (OP.val (v := (.int .i64 s_l2)) rfl (x_mv f214) ?_)
                    obtain ⟨x230, ha231, hm⟩ := bndE hm
                    obtain ⟨hz232, ha236⟩ := idxE ha231
                    obtain ⟨b233, q234, hix235⟩ := rdL_ix (hL.rdO 1 rfl) hz232 ha236
                    refine OW.cons (OP.val (v := (.pointer (some ⟨b233, q234, none⟩))) rfl (x_ix Try.underlying53 Try_T2 rfl rfl hix235) ?_)
                    refine OW.cons (OP.val (v := (.int .i64 x230)) rfl (x_load1 Try.underlying2 rfl rfl (rdF_cells (hL.rdO 1 rfl) hix235 ha236 0 _ rfl)) ?_)
                    obtain ⟨x237, ha238, hm⟩ := bndE hm
                    obtain ⟨hz239, ha243⟩ := idxE ha238
                    obtain ⟨b240, q241, hix242⟩ := rdL_ix (hL.rdO 0 rfl) hz239 ha243
                    refine OW.cons (OP.val (v := (.pointer (some ⟨b240, q241, none⟩))) rfl (x_ix Try.underlying53 Try_T2 rfl rfl hix242) ?_)
                    refine OW.cons (OP.val (v := (.int .i64 x237)) rfl (x_load1 Try.underlying2 rfl rfl (rdF_cells (hL.rdO 0 rfl) hix242 ha243 0 _ rfl)) ?_)
                    refine OW.cons (OP.val (v := (.int .i64 x237)) rfl (x_assign) ?_)
                    refine OW.nil ?_
                    refine CW.seqJ (fun (s_j3 : Bool) (F : Fr) (w : World) => F 5 = v22 ∧ F 7 = v37 ∧ F 9 = v66 ∧ F 12 = (.int .i64 s_l2) ∧ F 126 = (.bool s_j3) ∧ Hp w0 [Ent.own 2 S65 v66 x63.1, Ent.own 2 S36 v37 x34.1, Ent.own 88 S28 v29 x26.2.Finishes, Ent.own 2 S21 v22 x19.1, Ent.blk b17 29 #[v29], Ent.snap w0 w0.heap.size] w) (fun s_j3 => M.laws_FnFinishOrder_j3 s_l2 s_j3 = some t199) ?_ ?_
                    · refine CW.regionL ?_
                      refine OW.cons (OP.val (v := (.int .i64 x223)) rfl (x_move) ?_)
                      refine OW.cons (OP.val (v := (.bool (x223 == 0))) rfl (x_eql rfl rfl) ?_)
                      refine OW.cons (OP.val (v := (.bool (x223 == 0))) rfl (x_move) ?_)
                      refine ifB_elim hm (fun hb257 hm => ?_) (fun hb257 hm => ?_)
                      · refine OW.cons (OP.yes' rfl rfl hb257 (OP.val (v := (.int .i64 x237)) rfl (x_move) ?_))
                        refine OW.cons (OP.yes' rfl rfl hb257 (OP.val (v := (.bool (decide (0 < x237)))) rfl (x_gtr rfl rfl) ?_))
                        refine OW.cons (OP.val (v := (.bool (decide (0 < x237)))) rfl (x_pickT' rfl hb257 rfl) ?_)
                        refine OW.cons (OP.val (v := (.bool (decide (0 < x237)))) rfl (x_move) ?_)
                        refine ifB_elim hm (fun hb258 hm => ?_) (fun hb258 hm => ?_)
                        · refine OW.cons (OP.no' rfl rfl hb258 rfl ?_)
                          refine OW.cons (OP.no' rfl rfl hb258 rfl ?_)
                          refine OW.cons (OP.no' rfl rfl hb258 rfl ?_)
                          refine OW.cons (OP.noU rfl rfl rfl ?_)
                          refine OW.cons (OP.noU rfl rfl rfl ?_)
                          refine OW.cons (OP.no' rfl rfl hb258 rfl ?_)
                          refine OW.cons (OP.no' rfl rfl hb258 rfl ?_)
                          refine OW.cons (OP.noU rfl rfl rfl ?_)
                          refine OW.cons (OP.noU rfl rfl rfl ?_)
                          refine OW.cons (OP.noU rfl rfl rfl ?_)
                          refine OW.cons (OP.no' rfl rfl hb258 rfl ?_)
                          refine OW.cons (OP.val (v := (.bool true)) rfl (x_pickT' rfl hb258 rfl) ?_)
                          refine OW.nil ?_
                          exact ⟨true, hm, ⟨f211, f212, f213, f214, rfl, hL⟩⟩
                        · refine OW.cons (OP.yes' rfl rfl hb258 (OP.val (v := (.int .i64 x223)) rfl (x_move) ?_))
                          refine OW.cons (OP.yes' rfl rfl hb258 (OP.val (v := (.bool (decide (0 < x223)))) rfl (x_gtr rfl rfl) ?_))
                          refine OW.cons (OP.yes' rfl rfl hb258 (OP.val (v := (.bool (decide (0 < x223)))) rfl (x_move) ?_))
                          refine ifB_elim hm (fun hb259 hm => ?_) (fun hb259 hm => ?_)
                          · refine OW.cons (OP.yes' rfl rfl hb259 (OP.val (v := (.int .i64 x237)) rfl (x_move) ?_))
                            refine OW.cons (OP.yes' rfl rfl hb259 (OP.val (v := (.bool (decide (0 < x237)))) rfl (x_gtr rfl rfl) ?_))
                            refine OW.cons (OP.yes' rfl rfl hb258 (OP.val (v := (.bool (decide (0 < x237)))) rfl (x_pickT' rfl hb259 rfl) ?_))
                            refine OW.cons (OP.yes' rfl rfl hb258 (OP.val (v := (.bool (decide (0 < x237)))) rfl (x_move) ?_))
                            refine OW.cons (OP.no' rfl rfl hb258 rfl ?_)
                            refine OW.cons (OP.no' rfl rfl hb258 rfl ?_)
                            refine OW.cons (OP.no' rfl rfl hb258 rfl ?_)
                            refine OW.cons (OP.yes' rfl rfl hb258 (OP.val (v := (.bool false)) rfl (x_pickF' rfl hb258 rfl) ?_))
                            refine OW.cons (OP.val (v := (.bool false)) rfl (x_pickF' rfl hb258 rfl) ?_)
                            refine OW.nil ?_
                            exact ⟨false, hm, ⟨f211, f212, f213, f214, rfl, hL⟩⟩
                          · refine OW.cons (OP.no' rfl rfl hb259 rfl ?_)
                            refine OW.cons (OP.no' rfl rfl hb259 rfl ?_)
                            refine OW.cons (OP.yes' rfl rfl hb258 (OP.val (v := (.bool false)) rfl (x_pickF' rfl hb259 rfl) ?_))
                            refine OW.cons (OP.yes' rfl rfl hb258 (OP.val (v := (.bool false)) rfl (x_move) ?_))
                            refine OW.cons (OP.no' rfl rfl rfl rfl ?_)
                            refine OW.cons (OP.no' rfl rfl rfl rfl ?_)
                            refine OW.cons (OP.no' rfl rfl rfl rfl ?_)
                            refine OW.cons (OP.yes' rfl rfl hb258 (OP.val (v := (.bool false)) rfl (x_pickF' rfl rfl rfl) ?_))
                            refine OW.cons (OP.val (v := (.bool false)) rfl (x_pickF' rfl hb258 rfl) ?_)
                            refine OW.nil ?_
                            exact ⟨false, hm, ⟨f211, f212, f213, f214, rfl, hL⟩⟩
                      · refine OW.cons (OP.no' rfl rfl hb257 rfl ?_)
                        refine OW.cons (OP.no' rfl rfl hb257 rfl ?_)
                        refine OW.cons (OP.val (v := (.bool false)) rfl (x_pickF' rfl hb257 rfl) ?_)
                        refine OW.cons (OP.val (v := (.bool false)) rfl (x_move) ?_)
                        refine OW.cons (OP.yes' rfl rfl rfl (OP.val (v := (.int .i64 x223)) rfl (x_move) ?_))
                        refine OW.cons (OP.yes' rfl rfl rfl (OP.val (v := (.bool (decide (0 < x223)))) rfl (x_gtr rfl rfl) ?_))
                        refine OW.cons (OP.yes' rfl rfl rfl (OP.val (v := (.bool (decide (0 < x223)))) rfl (x_move) ?_))
                        refine ifB_elim hm (fun hb260 hm => ?_) (fun hb260 hm => ?_)
                        · refine OW.cons (OP.yes' rfl rfl hb260 (OP.val (v := (.int .i64 x237)) rfl (x_move) ?_))
                          refine OW.cons (OP.yes' rfl rfl hb260 (OP.val (v := (.bool (decide (0 < x237)))) rfl (x_gtr rfl rfl) ?_))
                          refine OW.cons (OP.yes' rfl rfl rfl (OP.val (v := (.bool (decide (0 < x237)))) rfl (x_pickT' rfl hb260 rfl) ?_))
                          refine OW.cons (OP.yes' rfl rfl rfl (OP.val (v := (.bool (decide (0 < x237)))) rfl (x_move) ?_))
                          refine ifB_elim hm (fun hb261 hm => ?_) (fun hb261 hm => ?_)
                          · refine OW.cons (OP.yes' rfl rfl hb261 (OP.val (v := (.int .i64 x223)) rfl (x_move) ?_))
                            refine OW.cons (OP.yes' rfl rfl hb261 (OP.val (v := (.int .i64 x237)) rfl (x_move) ?_))
                            refine OW.cons (OP.yes' rfl rfl hb261 (OP.val (v := (.bool (decide (x237 < x223)))) rfl (x_gtr rfl rfl) ?_))
                            refine OW.cons (OP.yes' rfl rfl rfl (OP.val (v := (.bool (decide (x237 < x223)))) rfl (x_pickT' rfl hb261 rfl) ?_))
                            refine OW.cons (OP.val (v := (.bool (decide (x237 < x223)))) rfl (x_pickF' rfl rfl rfl) ?_)
                            refine OW.nil ?_
                            exact ⟨decide (x237 < x223), hm, ⟨f211, f212, f213, f214, rfl, hL⟩⟩
                          · refine OW.cons (OP.no' rfl rfl hb261 rfl ?_)
                            refine OW.cons (OP.no' rfl rfl hb261 rfl ?_)
                            refine OW.cons (OP.no' rfl rfl hb261 rfl ?_)
                            refine OW.cons (OP.yes' rfl rfl rfl (OP.val (v := (.bool false)) rfl (x_pickF' rfl hb261 rfl) ?_))
                            refine OW.cons (OP.val (v := (.bool false)) rfl (x_pickF' rfl rfl rfl) ?_)
                            refine OW.nil ?_
                            exact ⟨false, hm, ⟨f211, f212, f213, f214, rfl, hL⟩⟩
                        · refine OW.cons (OP.no' rfl rfl hb260 rfl ?_)
                          refine OW.cons (OP.no' rfl rfl hb260 rfl ?_)
                          refine OW.cons (OP.yes' rfl rfl rfl (OP.val (v := (.bool false)) rfl (x_pickF' rfl hb260 rfl) ?_))
                          refine OW.cons (OP.yes' rfl rfl rfl (OP.val (v := (.bool false)) rfl (x_move) ?_))
                          refine OW.cons (OP.no' rfl rfl rfl rfl ?_)
                          refine OW.cons (OP.no' rfl rfl rfl rfl ?_)
                          refine OW.cons (OP.no' rfl rfl rfl rfl ?_)
                          refine OW.cons (OP.yes' rfl rfl rfl (OP.val (v := (.bool false)) rfl (x_pickF' rfl rfl rfl) ?_))
                          refine OW.cons (OP.val (v := (.bool false)) rfl (x_pickF' rfl rfl rfl) ?_)
                          refine OW.nil ?_
                          exact ⟨false, hm, ⟨f211, f212, f213, f214, rfl, hL⟩⟩
                    · intro s_j3 F249 wd250 hJ hm
                      unfold M.laws_FnFinishOrder_j3 at hm
                      obtain ⟨f251, f252, f253, f254, f255, hL⟩ := hJ
                      refine CW.condM (t := s_j3) f255 hm (fun hb256 hm => ?_) (fun hb256 hm => ?_)
                      · refine CW.seq ?_
                        refine CW.regionL ?_
                        refine OW.cons (OP.val (v := (.bool false)) rfl (x_assign) ?_)
                        refine OW.nil ?_
                        refine CW.ret ?_
                        obtain rfl := Option.some.inj hm
                        have hm := hr200 _ rfl
                        obtain rfl := Option.some.inj hm
                        exact RR1 rfl rfl ⟨rfl, hL.fresh 5 rfl [] (by decide) (by decide) rfl⟩
                      · refine CW.skip ?_
                        refine CW.regionL ?_
                        refine OW.cons (OP.val (v := (.int .i64 s_l2)) rfl (x_mv f254) ?_)
                        refine OW.cons (OP.val (v := (.int .i64 (w64 (s_l2 + 1)))) rfl (x_add rfl rfl) ?_)
                        refine OW.cons (OP.val (v := (.int .i64 (w64 (s_l2 + 1)))) rfl (x_assign) ?_)
                        refine OW.nil ?_
                        obtain rfl := Option.some.inj hm
                        exact ⟨_, rfl, ⟨f251, f252, f253, rfl, hL⟩⟩
                  · refine CW.exit ?_
                    refine XJ.hit ?_
                    obtain rfl := Option.some.inj hm
                    exact ⟨_, rfl, ⟨f211, f212, f213, f214, hL⟩⟩
              · intro s_l1 F262 wd263 t94 hJ hm hr95
                unfold M.laws_FnFinishOrder_l1 at hm
                obtain ⟨f264, f265, f266, f267, f268, hL⟩ := hJ
                refine CW.seq ?_
                refine CW.seq ?_
                refine CW.regionL ?_
                refine OW.cons (OP.val (v := (.int .i64 s_l1)) rfl (x_mv f268) ?_)
                refine OW.cons (OP.val (v := (.int .i64 x26.1)) rfl (x_mv f264) ?_)
                refine OW.cons (OP.val (v := (.bool (decide (s_l1 < x26.1)))) rfl (x_lss rfl rfl) ?_)
                refine OW.nil ?_
                refine CW.condM (t := decide (s_l1 < x26.1)) rfl hm (fun hb269 hm => ?_) (fun hb269 hm => ?_)
                · refine CW.skip ?_
                  refine CW.seq ?_
                  refine CW.block ?_
                  refine CW.seq ?_
                  refine CW.regionL ?_
                  refine OW.cons (OP.val (v := v22) rfl (x_mv f265) ?_)
                  refine OW.cons (OP.val (v := (.int .i64 s_l1)) rfl (x_mv f268) ?_)
                  obtain ⟨x270, hx271, hm⟩ := bndE hm
                  refine OW.cons (OP.call rfl (x_call (vs := [v22, (.int .i64 s_l1)]) Try_C46 ⟨rfl, rfl, trivial⟩) (M.laws_hasInt_ok _ x19.1 (hL.rdO 3 rfl) s_l1 hx271) ?_)
                  rintro e272 wd273 ⟨rfl, hF274⟩
                  refine ⟨_, rfl, ?_⟩
                  have hL := hL.pushAll hF274
                  simp only [List.cons_append, List.nil_append, List.set_cons_zero, List.set_cons_succ] at hL
                  refine OW.cons (OP.val (v := (.bool (!x270))) rfl (x_not rfl) ?_)
                  refine OW.nil ?_
                  refine CW.condM (t := !x270) rfl hm (fun hb275 hm => ?_) (fun hb275 hm => ?_)
                  · refine CW.seq ?_
                    refine CW.regionL ?_
                    refine OW.cons (OP.val (v := (.bool false)) rfl (x_assign) ?_)
                    refine OW.nil ?_
                    refine CW.ret ?_
                    obtain rfl := Option.some.inj hm
                    have hm := hr95 _ rfl
                    obtain rfl := Option.some.inj hm
                    exact RR1 rfl rfl ⟨rfl, hL.fresh 5 rfl [] (by decide) (by decide) rfl⟩
                  · refine CW.skip ?_
                    refine CW.regionL ?_
                    refine OW.cons (OP.val (v := (.int .i64 s_l1)) rfl (x_mv f268) ?_)
                    refine OW.cons (OP.val (v := (.int .i64 (w64 (s_l1 + 1)))) rfl (x_add rfl rfl) ?_)
                    refine OW.cons (OP.val (v := (.int .i64 (w64 (s_l1 + 1)))) rfl (x_assign) ?_)
                    refine OW.nil ?_
                    obtain rfl := Option.some.inj hm
                    exact ⟨_, rfl, ⟨f264, f265, f266, f267, rfl, hL⟩⟩
                · refine CW.exit ?_
                  refine XJ.hit ?_
                  obtain rfl := Option.some.inj hm
                  exact ⟨_, rfl, ⟨f264, f265, f266, f267, f268, hL⟩⟩

end Go.Proofs.Ytblljgcbffkahaa
