/- Links: each Go function returns what its model computes and leaves what was there. Printed by my generator. -/
import Derived.Test.YtblljgcbffkahaaLnkFnRacePointsA
namespace Go.Proofs.Ytblljgcbffkahaa
set_option maxRecDepth 10000
open Go Go.RowKit Go.ChangeShapes Go.WideShapes
set_option linter.unusedVariables false
set_option linter.unusedSimpArgs false

theorem M.laws_FnRacePoints_ok (w0 : World) (a0 : List UInt8) {v1 : Value} (h2 : rdL (· < w0.heap.size) w0 v1 a0) {r : Bool} (hm : M.laws_FnRacePoints a0 = some r) :
    Calls Try.prog 7 #[v1] w0 fun e w' => e = .returned (.bool r) ∧ Fresh w0 w' [] := by
  unfold M.laws_FnRacePoints at hm
  refine calls_CW (args := [v1]) Try.func7 rfl rfl rfl ?_
  have hL := Hp.start w0
  refine CW.seq ?_
  refine CW.regionL ?_
  refine OW.cons (OP.val (v := (.bool false)) rfl (x_assign) ?_)
  refine OW.nil ?_
  refine CW.seq ?_
  refine CW.seq ?_
  refine CW.regionL ?_
  refine OW.cons (OP.val (v := v1) rfl (x_move) ?_)
  obtain ⟨x3, hx4, hm⟩ := bndE hm
  refine OW.cons (OP.call rfl (x_call (vs := [v1]) Try_C34 ⟨rfl, trivial⟩) (M.laws_big_ok _ a0 (hL.rdS 0 rfl h2) hx4) ?_)
  rintro e5 wd6 ⟨rfl, hF7⟩
  refine ⟨_, rfl, ?_⟩
  have hL := hL.pushAll hF7
  simp only [List.cons_append, List.nil_append, List.set_cons_zero, List.set_cons_succ] at hL
  refine OW.nil ?_
  refine CW.condM (t := x3) rfl hm (fun hb8 hm => ?_) (fun hb8 hm => ?_)
  · refine CW.seq ?_
    refine CW.regionL ?_
    refine OW.cons (OP.val (v := (.bool true)) rfl (x_assign) ?_)
    refine OW.nil ?_
    refine CW.ret ?_
    obtain rfl := Option.some.inj hm
    exact RR1 rfl rfl ⟨rfl, hL.fresh 0 rfl [] (by decide) (by decide) rfl⟩
  · refine CW.skip ?_
    refine CW.seq ?_
    refine CW.regionL ?_
    refine OW.cons (OP.val (v := v1) rfl (x_move) ?_)
    obtain ⟨x9, hx10, hm⟩ := bndE hm
    refine OW.cons (OP.call rfl (x_call (vs := [v1]) Try_C35 ⟨rfl, trivial⟩) (M.spec_DrawRacePoints_ok _ a0 (hL.rdS 0 rfl h2) hx10) ?_)
    rintro e13 wd14 ⟨v12, S11, rfl, hF15⟩
    refine ⟨_, rfl, ?_⟩
    have hL := hL.pushAll hF15
    simp only [List.cons_append, List.nil_append, List.set_cons_zero, List.set_cons_succ] at hL
    refine OW.cons (OP.val (v := (.tuple #[(.int .i64 x9.1), (.agg #[v12]), (.int .i64 x9.2.2)])) rfl (x_move) ?_)
    refine OW.cons (OP.val (v := (.int .i64 x9.1)) rfl (x_extract rfl rfl) ?_)
    refine OW.cons (OP.val (v := (.agg #[v12])) rfl (x_extract rfl rfl) ?_)
    refine OW.cons (OP.val (v := (.int .i64 x9.2.2)) rfl (x_extract rfl rfl) ?_)
    refine OW.cons (S_alloc (cs := #[(.slice none 0 0)]) hL Try_T29 rfl rfl ?_)
    intro wd16 b17 hL
    refine OW.cons (OP.val (v := (.int .i64 x9.1)) rfl (x_assign) ?_)
    refine OW.cons (S_storeN (l := [v12]) (cs' := #[v12]) hL 0 rfl Try_T29 rfl rfl (List.forall_mem_cons.2 ⟨rdL_one (hL.rdO 1 rfl), (fun _ h => by cases h)⟩) rfl (Nat.le_of_ble_eq_true rfl) rfl ?_)
    intro wd18 hL
    refine OW.cons (OP.val (v := (.int .i64 x9.2.2)) rfl (x_assign) ?_)
    refine OW.nil ?_
    refine CW.seq ?_
    refine CW.regionL ?_
    refine OW.cons (OP.val (v := (.int .i64 x9.1)) rfl (x_move) ?_)
    refine OW.cons (OP.val (v := (.agg #[v12])) rfl (x_loadN (cs := [v12]) Try.underlying29 Try_T29 rfl rfl (hL.cellsB 0 rfl (o := 0) (l := [v12]) (by intro j u hj; exact (by simpa using hj)))) ?_)
    refine OW.cons (OP.val (v := (.int .i64 x9.2.2)) rfl (x_move) ?_)
    obtain ⟨x19, hx20, hm⟩ := bndE hm
    refine OW.cons (OP.call rfl (x_call (vs := [(.int .i64 x9.1), (.agg #[v12]), (.int .i64 x9.2.2)]) Try_C36 ⟨rfl, rfl, rfl, trivial⟩) (M.impl_RacePoints_ok _ x9.1 x9.2.1 (hL.rdO 1 rfl) x9.2.2 hx20) ?_)
    rintro e23 wd24 ⟨v22, S21, rfl, hF25⟩
    refine ⟨_, rfl, ?_⟩
    have hL := hL.pushAll hF25
    simp only [List.cons_append, List.nil_append, List.set_cons_zero, List.set_cons_succ] at hL
    refine OW.cons (OP.val (v := (.tuple #[v22, (.int .i64 x19.2)])) rfl (x_move) ?_)
    refine OW.cons (OP.val (v := v22) rfl (x_extract rfl rfl) ?_)
    refine OW.cons (OP.val (v := (.int .i64 x19.2)) rfl (x_extract rfl rfl) ?_)
    refine OW.cons (OP.val (v := v22) rfl (x_assign) ?_)
    refine OW.cons (OP.val (v := (.int .i64 x19.2)) rfl (x_assign) ?_)
    refine OW.nil ?_
    refine CW.seq ?_
    refine CW.regionL ?_
    refine OW.cons (OP.val (v := v1) rfl (x_move) ?_)
    obtain ⟨x26, hx27, hm⟩ := bndE hm
    refine OW.cons (OP.call rfl (x_call (vs := [v1]) Try_C35 ⟨rfl, trivial⟩) (M.spec_DrawRacePoints_ok _ a0 (hL.rdS 3 rfl h2) hx27) ?_)
    rintro e30 wd31 ⟨v29, S28, rfl, hF32⟩
    refine ⟨_, rfl, ?_⟩
    have hL := hL.pushAll hF32
    simp only [List.cons_append, List.nil_append, List.set_cons_zero, List.set_cons_succ] at hL
    refine OW.cons (OP.val (v := (.tuple #[(.int .i64 x26.1), (.agg #[v29]), (.int .i64 x26.2.2)])) rfl (x_move) ?_)
    refine OW.cons (OP.val (v := (.int .i64 x26.1)) rfl (x_extract rfl rfl) ?_)
    refine OW.cons (OP.val (v := (.agg #[v29])) rfl (x_extract rfl rfl) ?_)
    refine OW.cons (OP.val (v := (.int .i64 x26.2.2)) rfl (x_extract rfl rfl) ?_)
    refine OW.cons (OP.val (v := (.int .i64 x26.1)) rfl (x_assign) ?_)
    refine OW.cons (S_storeN (l := [v29]) (cs' := #[v29]) hL 2 rfl Try_T29 rfl rfl (List.forall_mem_cons.2 ⟨rdL_one (hL.rdO 0 rfl), (fun _ h => by cases h)⟩) rfl (Nat.le_of_ble_eq_true rfl) rfl ?_)
    intro wd33 hL
    refine OW.cons (OP.val (v := (.int .i64 x26.2.2)) rfl (x_assign) ?_)
    refine OW.nil ?_
    refine CW.seq ?_
    refine CW.regionL ?_
    refine OW.cons (OP.val (v := (.int .i64 x26.1)) rfl (x_move) ?_)
    refine OW.cons (OP.val (v := (.agg #[v29])) rfl (x_loadN (cs := [v29]) Try.underlying29 Try_T29 rfl rfl (hL.cellsB 2 rfl (o := 0) (l := [v29]) (by intro j u hj; exact (by simpa using hj)))) ?_)
    refine OW.cons (OP.val (v := (.int .i64 x26.2.2)) rfl (x_move) ?_)
    obtain ⟨x34, hx35, hm⟩ := bndE hm
    refine OW.cons (OP.call rfl (x_call (vs := [(.int .i64 x26.1), (.agg #[v29]), (.int .i64 x26.2.2)]) Try_C37 ⟨rfl, rfl, rfl, trivial⟩) (M.spec_RacePoints_ok _ x26.1 x26.2.1 (hL.rdO 0 rfl) x26.2.2 hx35) ?_)
    rintro e38 wd39 ⟨v37, S36, rfl, hF40⟩
    refine ⟨_, rfl, ?_⟩
    have hL := hL.pushAll hF40
    simp only [List.cons_append, List.nil_append, List.set_cons_zero, List.set_cons_succ] at hL
    refine OW.cons (OP.val (v := (.tuple #[v37, (.int .i64 x34.2)])) rfl (x_move) ?_)
    refine OW.cons (OP.val (v := v37) rfl (x_extract rfl rfl) ?_)
    refine OW.cons (OP.val (v := (.int .i64 x34.2)) rfl (x_extract rfl rfl) ?_)
    refine OW.cons (OP.val (v := v37) rfl (x_assign) ?_)
    refine OW.cons (OP.val (v := (.int .i64 x34.2)) rfl (x_assign) ?_)
    refine OW.nil ?_
    refine CW.seq ?_
    refine CW.seqJ (fun (s_j1 : Bool) (F : Fr) (w : World) => F 3 = (.int .i64 x26.1) ∧ F 4 = (.pointer (some ⟨b17, 0, none⟩)) ∧ F 6 = v22 ∧ F 7 = (.int .i64 x19.2) ∧ F 52 = (.bool s_j1) ∧ Hp w0 [Ent.own 88 S28 v29 x26.2.1.Finishes, Ent.own 2 S21 v22 x19.1, Ent.blk b17 29 #[v29], Ent.snap w0 w0.heap.size] w) (fun s_j1 => M.laws_FnRacePoints_j1 x19 x26 s_j1 = some r) ?_ ?_
    · refine CW.regionL ?_
      refine OW.cons (OP.val (v := (.int .i64 x19.2)) rfl (x_move) ?_)
      refine OW.cons (OP.val (v := (.int .i64 x34.2)) rfl (x_move) ?_)
      refine OW.cons (OP.val (v := (.bool (x19.2 != x34.2))) rfl (x_neq rfl rfl) ?_)
      refine OW.cons (OP.val (v := (.bool (x19.2 != x34.2))) rfl (x_move) ?_)
      refine ifB_elim hm (fun hb1211 hm => ?_) (fun hb1211 hm => ?_)
      · refine OW.cons (OP.no' rfl rfl hb1211 rfl ?_)
        refine OW.cons (OP.no' rfl rfl hb1211 rfl ?_)
        refine OW.cons (OP.no' rfl rfl hb1211 rfl ?_)
        refine OW.cons (OP.no' rfl rfl hb1211 rfl ?_)
        refine OW.cons (OP.val (v := (.bool true)) rfl (x_pickT' rfl hb1211 rfl) ?_)
        refine OW.nil ?_
        have hL := hL.sel [1, 2, 3, 5] (by decide) rfl
        exact ⟨true, hm, ⟨rfl, rfl, rfl, rfl, rfl, hL⟩⟩
      · refine OW.cons (OP.yes' rfl rfl hb1211 (OP.val (v := v22) rfl (x_move) ?_))
        refine OW.cons (OP.yes' rfl rfl hb1211 (OP.val (v := v37) rfl (x_move) ?_))
        obtain ⟨x1212, hx1213, hm⟩ := bndE hm
        refine OW.cons (OP.yes' rfl rfl hb1211 (OP.call rfl (x_call (vs := [v22, v37]) Try_C38 ⟨rfl, rfl, trivial⟩) (M.laws_likeInts_ok _ x19.1 (hL.rdO 2 rfl) x34.1 (hL.rdO 0 rfl) hx1213) ?_))
        rintro e1214 wd1215 ⟨rfl, hF1216⟩
        refine ⟨_, rfl, ?_⟩
        have hL := hL.pushAll hF1216
        simp only [List.cons_append, List.nil_append, List.set_cons_zero, List.set_cons_succ] at hL
        refine OW.cons (OP.yes' rfl rfl hb1211 (OP.val (v := (.bool (!x1212))) rfl (x_not rfl) ?_))
        refine OW.cons (OP.val (v := (.bool (!x1212))) rfl (x_pickF' rfl hb1211 rfl) ?_)
        refine OW.nil ?_
        have hL := hL.sel [1, 2, 3, 5] (by decide) rfl
        exact ⟨!x1212, hm, ⟨rfl, rfl, rfl, rfl, rfl, hL⟩⟩
    · intro s_j1 F47 wd48 hJ hm
      unfold M.laws_FnRacePoints_j1 at hm
      obtain ⟨f49, f50, f51, f52, f53, hL⟩ := hJ
      refine CW.condM (t := s_j1) f53 hm (fun hb54 hm => ?_) (fun hb54 hm => ?_)
      · refine CW.seq ?_
        refine CW.regionL ?_
        refine OW.cons (OP.val (v := (.bool false)) rfl (x_assign) ?_)
        refine OW.nil ?_
        refine CW.ret ?_
        obtain rfl := Option.some.inj hm
        exact RR1 rfl rfl ⟨rfl, hL.fresh 3 rfl [] (by decide) (by decide) rfl⟩
      · refine CW.skip ?_
        refine CW.seq ?_
        refine CW.seq ?_
        refine CW.regionL ?_
        refine OW.cons (OP.val (v := (.int .i64 x19.2)) rfl (x_mv f52) ?_)
        refine OW.cons (OP.val (v := (.bool (x19.2 != 0))) rfl (x_neq rfl rfl) ?_)
        refine OW.nil ?_
        refine CW.condM (t := x19.2 != 0) rfl hm (fun hb55 hm => ?_) (fun hb55 hm => ?_)
        · refine CW.seq ?_
          refine CW.regionL ?_
          refine OW.cons (OP.val (v := (.bool true)) rfl (x_assign) ?_)
          refine OW.nil ?_
          refine CW.ret ?_
          obtain rfl := Option.some.inj hm
          exact RR1 rfl rfl ⟨rfl, hL.fresh 3 rfl [] (by decide) (by decide) rfl⟩
        · refine CW.skip ?_
          refine CW.seq ?_
          refine CW.regionL ?_
          refine OW.cons (OP.val (v := (.int .i64 x26.1)) rfl (x_mv f49) ?_)
          refine OW.cons (OP.val (v := (.agg #[v29])) rfl (x_loadN (cs := [v29]) Try.underlying29 Try_T29 rfl f50 (hL.cellsB 2 rfl (o := 0) (l := [v29]) (by intro j u hj; exact (by simpa using hj)))) ?_)
          obtain ⟨x56, hx57, hm⟩ := bndE hm
          refine OW.cons (OP.call rfl (x_call (vs := [(.int .i64 x26.1), (.agg #[v29])]) Try_C29 ⟨rfl, rfl, trivial⟩) (M.impl_PlacesOf_ok _ x26.1 x26.2.1 (hL.rdO 0 rfl) hx57) ?_)
          rintro e60 wd61 ⟨v59, S58, rfl, hF62⟩
          refine ⟨_, rfl, ?_⟩
          have hL := hL.pushAll hF62
          simp only [List.cons_append, List.nil_append, List.set_cons_zero, List.set_cons_succ] at hL
          refine OW.cons (OP.val (v := (.tuple #[v59, (.int .i64 x56.2)])) rfl (x_move) ?_)
          refine OW.cons (OP.val (v := v59) rfl (x_extract rfl rfl) ?_)
          refine OW.cons (OP.val (v := (.int .i64 x56.2)) rfl (x_extract rfl rfl) ?_)
          refine OW.cons (OP.val (v := v59) rfl (x_assign) ?_)
          refine OW.cons (OP.val (v := (.int .i64 x56.2)) rfl (x_assign) ?_)
          refine OW.nil ?_
          refine CW.seq ?_
          refine CW.seqJ (fun (s_j2 : Bool) (F : Fr) (w : World) => F 3 = (.int .i64 x26.1) ∧ F 6 = v22 ∧ F 10 = v59 ∧ F 68 = (.bool s_j2) ∧ Hp w0 [Ent.own 2 S58 v59 x56.1, Ent.own 88 S28 v29 x26.2.1.Finishes, Ent.own 2 S21 v22 x19.1, Ent.blk b17 29 #[v29], Ent.snap w0 w0.heap.size] w) (fun s_j2 => M.laws_FnRacePoints_j2 x19 x26 x56 s_j2 = some r) ?_ ?_
          · refine CW.regionL ?_
            refine OW.cons (OP.val (v := (.int .i64 x56.2)) rfl (x_move) ?_)
            refine OW.cons (OP.val (v := (.bool (x56.2 != 0))) rfl (x_neq rfl rfl) ?_)
            refine OW.cons (OP.val (v := (.bool (x56.2 != 0))) rfl (x_move) ?_)
            refine ifB_elim hm (fun hb1210 hm => ?_) (fun hb1210 hm => ?_)
            · refine OW.cons (OP.no' rfl rfl hb1210 rfl ?_)
              refine OW.cons (OP.no' rfl rfl hb1210 rfl ?_)
              refine OW.cons (OP.no' rfl rfl hb1210 rfl ?_)
              refine OW.cons (OP.no' rfl rfl hb1210 rfl ?_)
              refine OW.cons (OP.val (v := (.bool true)) rfl (x_pickT' rfl hb1210 rfl) ?_)
              refine OW.nil ?_
              exact ⟨true, hm, ⟨f49, f51, rfl, rfl, hL⟩⟩
            · refine OW.cons (OP.yes' rfl rfl hb1210 (OP.val (v := v59) rfl (x_move) ?_))
              refine OW.cons (OP.yes' rfl rfl hb1210 (OP.val (v := (.int .i64 (x56.1.length : Int))) rfl (x_lenR Try.underlying53 rfl (hL.rdO 0 rfl)) ?_))
              refine OW.cons (OP.yes' rfl rfl hb1210 (OP.val (v := (.int .i64 x26.1)) rfl (x_mv f49) ?_))
              refine OW.cons (OP.yes' rfl rfl hb1210 (OP.val (v := (.bool ((x56.1.length : Int) != x26.1))) rfl (x_neq rfl rfl) ?_))
              refine OW.cons (OP.val (v := (.bool ((x56.1.length : Int) != x26.1))) rfl (x_pickF' rfl hb1210 rfl) ?_)
              refine OW.nil ?_
              exact ⟨(x56.1.length : Int) != x26.1, hm, ⟨f49, f51, rfl, rfl, hL⟩⟩
          · intro s_j2 F64 wd65 hJ hm
            unfold M.laws_FnRacePoints_j2 at hm
            obtain ⟨f66, f67, f68, f69, hL⟩ := hJ
            refine CW.condM (t := s_j2) f69 hm (fun hb70 hm => ?_) (fun hb70 hm => ?_)
            · refine CW.seq ?_
              refine CW.regionL ?_
              refine OW.cons (OP.val (v := (.bool false)) rfl (x_assign) ?_)
              refine OW.nil ?_
              refine CW.ret ?_
              obtain rfl := Option.some.inj hm
              exact RR1 rfl rfl ⟨rfl, hL.fresh 4 rfl [] (by decide) (by decide) rfl⟩
            · refine CW.skip ?_
              refine CW.seq ?_
              refine CW.regionL ?_
              refine OW.cons (OP.val (v := (.int .i64 0)) rfl (x_assign) ?_)
              refine OW.nil ?_
              refine CW.seq ?_
              refine CW.regionL ?_
              refine OW.cons (OP.val (v := (.bool true)) rfl (x_assign) ?_)
              refine OW.nil ?_
              refine CW.seq ?_
              refine CW.seq ?_
              refine CW.regionL ?_
              refine OW.cons (OP.val (v := (.int .i64 0)) rfl (x_assign) ?_)
              refine OW.nil ?_
              obtain ⟨o815, ho816, hm⟩ := bndE hm
              refine CW.loopB (fun (s_l1 : Int × Bool × Int) (F : Fr) (w : World) => F 3 = (.int .i64 x26.1) ∧ F 6 = v22 ∧ F 10 = v59 ∧ F 12 = (.int .i64 s_l1.1) ∧ F 13 = (.bool s_l1.2.1) ∧ F 14 = (.int .i64 s_l1.2.2) ∧ Hp w0 [Ent.own 2 S58 v59 x56.1, Ent.own 88 S28 v29 x26.2.1.Finishes, Ent.own 2 S21 v22 x19.1, Ent.blk b17 29 #[v29], Ent.snap w0 w0.heap.size] w) (fun o => outc o (fun x => some x) (fun s => M.laws_FnRacePoints_a1 x26 s) = some r) ho816 hm ⟨f66, f67, f68, rfl, rfl, rfl, hL⟩ ?_ ?_
              · intro s_l1 F817 wd818 hJ hm
                have hm := outcE hm
                have hm : M.laws_FnRacePoints_a1 x26 s_l1 = some r := hm
                unfold M.laws_FnRacePoints_a1 at hm
                obtain ⟨f819, f820, f821, f822, f823, f824, hL⟩ := hJ
                refine CW.seqJ (fun (s_j3 : Bool) (F : Fr) (w : World) => F 2 = (.bool s_j3) ∧ Hp w0 [Ent.own 88 S28 v29 x26.2.1.Finishes, Ent.blk b17 29 #[v29], Ent.snap w0 w0.heap.size] w) (fun s_j3 => M.laws_FnRacePoints_j3 s_j3 = some r) ?_ ?_
                · refine CW.regionL ?_
                  refine OW.cons (OP.val (v := (.bool s_l1.2.1)) rfl (x_mv f823) ?_)
                  refine OW.cons (OP.val (v := (.bool (!s_l1.2.1))) rfl (x_not rfl) ?_)
                  refine OW.cons (OP.val (v := (.bool (!s_l1.2.1))) rfl (x_move) ?_)
                  refine ifB_elim hm (fun hb829 hm => ?_) (fun hb829 hm => ?_)
                  · refine OW.cons (OP.no' rfl rfl hb829 rfl ?_)
                    refine OW.cons (OP.no' rfl rfl hb829 rfl ?_)
                    refine OW.cons (OP.no' rfl rfl hb829 rfl ?_)
                    refine OW.cons (OP.no' rfl rfl hb829 rfl ?_)
                    refine OW.cons (OP.no' rfl rfl hb829 rfl ?_)
                    refine OW.cons (OP.no' rfl rfl hb829 rfl ?_)
                    refine OW.cons (OP.no' rfl rfl hb829 rfl ?_)
                    refine OW.cons (OP.val (v := (.bool true)) rfl (x_pickT' rfl hb829 rfl) ?_)
                    refine OW.cons (OP.val (v := (.bool true)) rfl (x_assign) ?_)
                    refine OW.nil ?_
                    have hL := hL.sel [1, 3, 4] (by decide) rfl
                    exact ⟨true, hm, ⟨rfl, hL⟩⟩
                  · refine OW.cons (OP.yes' rfl rfl hb829 (OP.val (v := (.int .i64 s_l1.1)) rfl (x_mv f822) ?_))
                    refine OW.cons (OP.yes' rfl rfl hb829 (OP.val (v := (.int .i64 x26.1)) rfl (x_mv f819) ?_))
                    refine OW.cons (OP.yes' rfl rfl hb829 (OP.val (v := (.int .i64 (w64 (5 * x26.1)))) rfl (x_mul rfl rfl) ?_))
                    refine OW.cons (OP.yes' rfl rfl hb829 (OP.val (v := (.int .i64 x26.1)) rfl (x_mv f819) ?_))
                    refine OW.cons (OP.yes' rfl rfl hb829 (OP.val (v := (.int .i64 (w64 (x26.1 + 1)))) rfl (x_add rfl rfl) ?_))
                    refine OW.cons (OP.yes' rfl rfl hb829 (OP.val (v := (.int .i64 (w64 ((w64 (5 * x26.1)) * (w64 (x26.1 + 1)))))) rfl (x_mul rfl rfl) ?_))
                    refine OW.cons (OP.yes' rfl rfl hb829 (OP.val (v := (.bool (s_l1.1 == (w64 ((w64 (5 * x26.1)) * (w64 (x26.1 + 1))))))) rfl (x_eql rfl rfl) ?_))
                    refine OW.cons (OP.val (v := (.bool (s_l1.1 == (w64 ((w64 (5 * x26.1)) * (w64 (x26.1 + 1))))))) rfl (x_pickF' rfl hb829 rfl) ?_)
                    refine OW.cons (OP.val (v := (.bool (s_l1.1 == (w64 ((w64 (5 * x26.1)) * (w64 (x26.1 + 1))))))) rfl (x_assign) ?_)
                    refine OW.nil ?_
                    have hL := hL.sel [1, 3, 4] (by decide) rfl
                    exact ⟨s_l1.1 == (w64 ((w64 (5 * x26.1)) * (w64 (x26.1 + 1)))), hm, ⟨rfl, hL⟩⟩
                · intro s_j3 F826 wd827 hJ hm
                  unfold M.laws_FnRacePoints_j3 at hm
                  obtain ⟨f828, hL⟩ := hJ
                  refine CW.ret ?_
                  obtain rfl := Option.some.inj hm
                  exact RR1 rfl f828 ⟨rfl, hL.fresh 2 rfl [] (by decide) (by decide) rfl⟩
              · intro s_l1 F830 wd831 t813 hJ hm hr814
                unfold M.laws_FnRacePoints_l1 at hm
                obtain ⟨f832, f833, f834, f835, f836, f837, hL⟩ := hJ
                refine CW.seq ?_
                refine CW.seq ?_
                refine CW.regionL ?_
                refine OW.cons (OP.val (v := (.int .i64 s_l1.2.2)) rfl (x_mv f837) ?_)
                refine OW.cons (OP.val (v := (.int .i64 x26.1)) rfl (x_mv f832) ?_)
                refine OW.cons (OP.val (v := (.bool (decide (s_l1.2.2 < x26.1)))) rfl (x_lss rfl rfl) ?_)
                refine OW.nil ?_
                refine CW.condM (t := decide (s_l1.2.2 < x26.1)) rfl hm (fun hb838 hm => ?_) (fun hb838 hm => ?_)
                · refine CW.skip ?_
                  refine CW.seq ?_
                  refine CW.block ?_
                  refine CW.seq ?_
                  refine CW.regionL ?_
                  refine OW.cons (OP.val (v := (.int .i64 s_l1.1)) rfl (x_mv f835) ?_)
                  refine OW.cons (OP.val (v := v22) rfl (x_mv f833) ?_)
                  refine OW.cons (OP.val (v := (.int .i64 s_l1.2.2)) rfl (x_mv f837) ?_)
                  obtain ⟨x839, ha840, hm⟩ := bndE hm
                  obtain ⟨hz841, ha845⟩ := idxE ha840
                  obtain ⟨b842, q843, hix844⟩ := rdL_ix (hL.rdO 2 rfl) hz841 ha845
                  refine OW.cons (OP.val (v := (.pointer (some ⟨b842, q843, none⟩))) rfl (x_ix Try.underlying53 Try_T2 rfl rfl hix844) ?_)
                  refine OW.cons (OP.val (v := (.int .i64 x839)) rfl (x_load1 Try.underlying2 rfl rfl (rdF_cells (hL.rdO 2 rfl) hix844 ha845 0 _ rfl)) ?_)
                  refine OW.cons (OP.val (v := (.int .i64 (w64 (s_l1.1 + x839)))) rfl (x_add rfl rfl) ?_)
                  refine OW.cons (OP.val (v := (.int .i64 (w64 (s_l1.1 + x839)))) rfl (x_assign) ?_)
                  refine OW.nil ?_
                  refine CW.seqJ (fun (s_j4 : Bool) (F : Fr) (w : World) => F 3 = (.int .i64 x26.1) ∧ F 6 = v22 ∧ F 10 = v59 ∧ F 12 = (.int .i64 (w64 (s_l1.1 + x839))) ∧ F 13 = (.bool s_j4) ∧ F 14 = (.int .i64 s_l1.2.2) ∧ Hp w0 [Ent.own 2 S58 v59 x56.1, Ent.own 88 S28 v29 x26.2.1.Finishes, Ent.own 2 S21 v22 x19.1, Ent.blk b17 29 #[v29], Ent.snap w0 w0.heap.size] w) (fun s_j4 => M.laws_FnRacePoints_j4 x19 x26 x56 s_l1 x839 s_j4 = some t813) ?_ ?_
                  · refine CW.regionL ?_
                    refine OW.cons (OP.val (v := (.bool s_l1.2.1)) rfl (x_mv f836) ?_)
                    refine OW.cons (OP.val (v := (.bool s_l1.2.1)) rfl (x_move) ?_)
                    refine ifB_elim hm (fun hb1202 hm => ?_) (fun hb1202 hm => ?_)
                    · refine OW.cons (OP.yes' rfl rfl hb1202 (OP.val (v := v59) rfl (x_mv f834) ?_))
                      refine OW.cons (OP.yes' rfl rfl hb1202 (OP.val (v := (.int .i64 s_l1.2.2)) rfl (x_mv f837) ?_))
                      obtain ⟨x1203, ha1204, hm⟩ := bndE hm
                      obtain ⟨hz1205, ha1209⟩ := idxE ha1204
                      obtain ⟨b1206, q1207, hix1208⟩ := rdL_ix (hL.rdO 0 rfl) hz1205 ha1209
                      refine OW.cons (OP.yes' rfl rfl hb1202 (OP.val (v := (.pointer (some ⟨b1206, q1207, none⟩))) rfl (x_ix Try.underlying53 Try_T2 rfl rfl hix1208) ?_))
                      refine OW.cons (OP.yes' rfl rfl hb1202 (OP.val (v := (.int .i64 x1203)) rfl (x_load1 Try.underlying2 rfl rfl (rdF_cells (hL.rdO 0 rfl) hix1208 ha1209 0 _ rfl)) ?_))
                      refine OW.cons (OP.yes' rfl rfl hb1202 (OP.val (v := (.bool (decide (0 < x1203)))) rfl (x_gtr rfl rfl) ?_))
                      refine OW.cons (OP.val (v := (.bool (decide (0 < x1203)))) rfl (x_pickT' rfl hb1202 rfl) ?_)
                      refine OW.cons (OP.val (v := (.bool (decide (0 < x1203)))) rfl (x_assign) ?_)
                      refine OW.nil ?_
                      exact ⟨decide (0 < x1203), hm, ⟨f832, f833, f834, rfl, rfl, f837, hL⟩⟩
                    · refine OW.cons (OP.no' rfl rfl hb1202 rfl ?_)
                      refine OW.cons (OP.no' rfl rfl hb1202 rfl ?_)
                      refine OW.cons (OP.no' rfl rfl hb1202 rfl ?_)
                      refine OW.cons (OP.no' rfl rfl hb1202 rfl ?_)
                      refine OW.cons (OP.no' rfl rfl hb1202 rfl ?_)
                      refine OW.cons (OP.val (v := (.bool false)) rfl (x_pickF' rfl hb1202 rfl) ?_)
                      refine OW.cons (OP.val (v := (.bool false)) rfl (x_assign) ?_)
                      refine OW.nil ?_
                      exact ⟨false, hm, ⟨f832, f833, f834, rfl, rfl, f837, hL⟩⟩
                  · intro s_j4 F854 wd855 hJ hm
                    unfold M.laws_FnRacePoints_j4 at hm
                    obtain ⟨f856, f857, f858, f859, f860, f861, hL⟩ := hJ
                    refine CW.seq ?_
                    refine CW.regionL ?_
                    refine OW.cons (OP.val (v := (.int .i64 0)) rfl (x_assign) ?_)
                    refine OW.nil ?_
                    obtain ⟨o1076, ho1077, hm⟩ := bndE hm
                    refine CW.loopB (fun (s_l2 : Int) (F : Fr) (w : World) => F 3 = (.int .i64 x26.1) ∧ F 6 = v22 ∧ F 10 = v59 ∧ F 12 = (.int .i64 (w64 (s_l1.1 + x839))) ∧ F 13 = (.bool s_j4) ∧ F 14 = (.int .i64 s_l1.2.2) ∧ F 15 = (.int .i64 s_l2) ∧ Hp w0 [Ent.own 2 S58 v59 x56.1, Ent.own 88 S28 v29 x26.2.1.Finishes, Ent.own 2 S21 v22 x19.1, Ent.blk b17 29 #[v29], Ent.snap w0 w0.heap.size] w) (fun o => outc o (fun x => some (.ret x)) (fun s => M.laws_FnRacePoints_a2 s_l1 x839 s_j4 s) = some t813) ho1077 hm ⟨f856, f857, f858, f859, f860, f861, rfl, hL⟩ ?_ ?_
                    · intro s_l2 F1078 wd1079 hJ hm
                      have hm := outcE hm
                      have hm : M.laws_FnRacePoints_a2 s_l1 x839 s_j4 s_l2 = some t813 := hm
                      unfold M.laws_FnRacePoints_a2 at hm
                      obtain ⟨f1080, f1081, f1082, f1083, f1084, f1085, f1086, hL⟩ := hJ
                      refine CW.regionL ?_
                      refine OW.cons (OP.val (v := (.int .i64 s_l1.2.2)) rfl (x_mv f1085) ?_)
                      refine OW.cons (OP.val (v := (.int .i64 (w64 (s_l1.2.2 + 1)))) rfl (x_add rfl rfl) ?_)
                      refine OW.cons (OP.val (v := (.int .i64 (w64 (s_l1.2.2 + 1)))) rfl (x_assign) ?_)
                      refine OW.nil ?_
                      obtain rfl := Option.some.inj hm
                      exact ⟨_, rfl, ⟨f1080, f1081, f1082, f1083, f1084, rfl, hL⟩⟩
                    · intro s_l2 F1087 wd1088 t1074 hJ hm hr1075
                      unfold M.laws_FnRacePoints_l2 at hm
                      obtain ⟨f1089, f1090, f1091, f1092, f1093, f1094, f1095, hL⟩ := hJ
                      refine CW.seq ?_
                      refine CW.seq ?_
                      refine CW.regionL ?_
                      refine OW.cons (OP.val (v := (.int .i64 s_l2)) rfl (x_mv f1095) ?_)
                      refine OW.cons (OP.val (v := (.int .i64 x26.1)) rfl (x_mv f1089) ?_)
                      refine OW.cons (OP.val (v := (.bool (decide (s_l2 < x26.1)))) rfl (x_lss rfl rfl) ?_)
                      refine OW.nil ?_
                      refine CW.condM (t := decide (s_l2 < x26.1)) rfl hm (fun hb1096 hm => ?_) (fun hb1096 hm => ?_)
                      · refine CW.skip ?_
                        refine CW.seq ?_
                        refine CW.block ?_
                        refine CW.seqJ (fun (s_j5 : Bool) (F : Fr) (w : World) => F 3 = (.int .i64 x26.1) ∧ F 6 = v22 ∧ F 10 = v59 ∧ F 12 = (.int .i64 (w64 (s_l1.1 + x839))) ∧ F 13 = (.bool s_j4) ∧ F 14 = (.int .i64 s_l1.2.2) ∧ F 15 = (.int .i64 s_l2) ∧ F 125 = (.bool s_j5) ∧ Hp w0 [Ent.own 2 S58 v59 x56.1, Ent.own 88 S28 v29 x26.2.1.Finishes, Ent.own 2 S21 v22 x19.1, Ent.blk b17 29 #[v29], Ent.snap w0 w0.heap.size] w) (fun s_j5 => M.laws_FnRacePoints_j5 s_l2 s_j5 = some t1074) ?_ ?_
                        · refine CW.draw Try_mixed ?_
                          have hL := hL.call (Mod.drew _)
                          refine DW.pre (fuel := 0) (fin := ((((((((((((((((((((((((((((((((((Array.replicate 33 false).setIfInBounds 0 true).setIfInBounds 1 true).setIfInBounds 2 true).setIfInBounds 3 true).setIfInBounds 4 true).setIfInBounds 5 true).setIfInBounds 6 true).setIfInBounds 7 true).setIfInBounds 8 true).setIfInBounds 9 true).setIfInBounds 10 true).setIfInBounds 11 true).setIfInBounds 12 true).setIfInBounds 13 true).setIfInBounds 14 true).setIfInBounds 15 true).setIfInBounds 16 true).setIfInBounds 17 true).setIfInBounds 18 true).setIfInBounds 19 true).setIfInBounds 20 true).setIfInBounds 21 true).setIfInBounds 22 true).setIfInBounds 23 true).setIfInBounds 24 true).setIfInBounds 25 true).setIfInBounds 26 true).setIfInBounds 27 true).setIfInBounds 28 true).setIfInBounds 29 true).setIfInBounds 30 true).setIfInBounds 31 true).setIfInBounds 32 true)) (C := fun w' => Mod None_ _ w') [0, 1, 2, 3, 4, 5, 6, 7, 8, 9, 10, 11, 12, 13, 14, 15, 16, 17, 18, 19, 20, 21, 22, 23, 24, 25, 26, 27, 28, 29, 30, 31, 32] (Mod.refl _ _) (by kernel_rfl) (by kernel_rfl) ?_
                          refine QW.cons rfl (QP.val (v := v59) rfl (fun w' hm' => x_mv f1091) ?_)
                          refine QW.cons rfl (QP.val (v := (.int .i64 s_l1.2.2)) rfl (fun w' hm' => x_mv f1094) ?_)
                          obtain ⟨x1155, ha1156, hm⟩ := bndE hm
                          obtain ⟨hz1157, ha1161⟩ := idxE ha1156
                          obtain ⟨b1158, q1159, hix1160⟩ := rdL_ix (hL.rdO 0 rfl) hz1157 ha1161
                          refine QW.cons rfl (QP.val (v := (.pointer (some ⟨b1158, q1159, none⟩))) rfl (fun w' hm' => x_ix Try.underlying53 Try_T2 rfl rfl hix1160) ?_)
                          refine QW.cons rfl (QP.val (v := (.int .i64 x1155)) rfl (fun w' hm' => x_load1 Try.underlying2 rfl rfl (rdF_cells ((hL.call hm').rdO 0 rfl) hix1160 ha1161 0 _ rfl)) ?_)
                          refine QW.cons rfl (QP.val (v := (.bool (decide (0 < x1155)))) rfl (fun w' hm' => x_gtr rfl rfl) ?_)
                          refine QW.cons rfl (QP.val (v := (.bool (decide (0 < x1155)))) rfl (fun w' hm' => x_move) ?_)
                          refine ifB_elim hm (fun hb1162 hm => ?_) (fun hb1162 hm => ?_)
                          · refine QW.cons rfl (QP.yes' rfl rfl hb1162 (QP.val (v := v59) rfl (fun w' hm' => x_mv f1091) ?_))
                            refine QW.cons rfl (QP.yes' rfl rfl hb1162 (QP.val (v := (.int .i64 s_l2)) rfl (fun w' hm' => x_mv f1095) ?_))
                            obtain ⟨x1163, ha1164, hm⟩ := bndE hm
                            obtain ⟨hz1165, ha1169⟩ := idxE ha1164
                            obtain ⟨b1166, q1167, hix1168⟩ := rdL_ix (hL.rdO 0 rfl) hz1165 ha1169
                            refine QW.cons rfl (QP.yes' rfl rfl hb1162 (QP.val (v := (.pointer (some ⟨b1166, q1167, none⟩))) rfl (fun w' hm' => x_ix Try.underlying53 Try_T2 rfl rfl hix1168) ?_))
                            refine QW.cons rfl (QP.yes' rfl rfl hb1162 (QP.val (v := (.int .i64 x1163)) rfl (fun w' hm' => x_load1 Try.underlying2 rfl rfl (rdF_cells ((hL.call hm').rdO 0 rfl) hix1168 ha1169 0 _ rfl)) ?_))
                            refine QW.cons rfl (QP.yes' rfl rfl hb1162 (QP.val (v := (.bool (decide (0 < x1163)))) rfl (fun w' hm' => x_gtr rfl rfl) ?_))
                            refine QW.cons rfl (QP.val (v := (.bool (decide (0 < x1163)))) rfl (fun w' hm' => x_pickT' rfl hb1162 rfl) ?_)
                            refine QW.cons rfl (QP.val (v := (.bool (decide (0 < x1163)))) rfl (fun w' hm' => x_move) ?_)
                            refine ifB_elim hm (fun hb1170 hm => ?_) (fun hb1170 hm => ?_)
                            · refine QW.cons rfl (QP.yes' rfl rfl hb1170 (QP.val (v := v59) rfl (fun w' hm' => x_mv f1091) ?_))
                              refine QW.cons rfl (QP.yes' rfl rfl hb1170 (QP.val (v := (.int .i64 s_l1.2.2)) rfl (fun w' hm' => x_mv f1094) ?_))
                              obtain ⟨x1171, ha1172, hm⟩ := bndE hm
                              obtain ⟨hz1173, ha1177⟩ := idxE ha1172
                              obtain ⟨b1174, q1175, hix1176⟩ := rdL_ix (hL.rdO 0 rfl) hz1173 ha1177
                              refine QW.cons rfl (QP.yes' rfl rfl hb1170 (QP.val (v := (.pointer (some ⟨b1174, q1175, none⟩))) rfl (fun w' hm' => x_ix Try.underlying53 Try_T2 rfl rfl hix1176) ?_))
                              refine QW.cons rfl (QP.yes' rfl rfl hb1170 (QP.val (v := (.int .i64 x1171)) rfl (fun w' hm' => x_load1 Try.underlying2 rfl rfl (rdF_cells ((hL.call hm').rdO 0 rfl) hix1176 ha1177 0 _ rfl)) ?_))
                              refine QW.cons rfl (QP.yes' rfl rfl hb1170 (QP.val (v := v59) rfl (fun w' hm' => x_mv f1091) ?_))
                              refine QW.cons rfl (QP.yes' rfl rfl hb1170 (QP.val (v := (.int .i64 s_l2)) rfl (fun w' hm' => x_mv f1095) ?_))
                              obtain ⟨x1178, ha1179, hm⟩ := bndE hm
                              obtain ⟨hz1180, ha1184⟩ := idxE ha1179
                              obtain ⟨b1181, q1182, hix1183⟩ := rdL_ix (hL.rdO 0 rfl) hz1180 ha1184
                              refine QW.cons rfl (QP.yes' rfl rfl hb1170 (QP.val (v := (.pointer (some ⟨b1181, q1182, none⟩))) rfl (fun w' hm' => x_ix Try.underlying53 Try_T2 rfl rfl hix1183) ?_))
                              refine QW.cons rfl (QP.yes' rfl rfl hb1170 (QP.val (v := (.int .i64 x1178)) rfl (fun w' hm' => x_load1 Try.underlying2 rfl rfl (rdF_cells ((hL.call hm').rdO 0 rfl) hix1183 ha1184 0 _ rfl)) ?_))
                              refine QW.cons rfl (QP.yes' rfl rfl hb1170 (QP.val (v := (.bool (decide (x1171 < x1178)))) rfl (fun w' hm' => x_lss rfl rfl) ?_))
                              refine QW.cons rfl (QP.yes' rfl rfl hb1170 (QP.val (v := v22) rfl (fun w' hm' => x_mv f1090) ?_))
                              refine QW.cons rfl (QP.yes' rfl rfl hb1170 (QP.val (v := (.int .i64 s_l1.2.2)) rfl (fun w' hm' => x_mv f1094) ?_))
                              obtain ⟨x1185, ha1186, hm⟩ := bndE hm
                              obtain ⟨hz1187, ha1191⟩ := idxE ha1186
                              obtain ⟨b1188, q1189, hix1190⟩ := rdL_ix (hL.rdO 2 rfl) hz1187 ha1191
                              refine QW.cons rfl (QP.yes' rfl rfl hb1170 (QP.val (v := (.pointer (some ⟨b1188, q1189, none⟩))) rfl (fun w' hm' => x_ix Try.underlying53 Try_T2 rfl rfl hix1190) ?_))
                              refine QW.cons rfl (QP.yes' rfl rfl hb1170 (QP.val (v := (.int .i64 x1185)) rfl (fun w' hm' => x_load1 Try.underlying2 rfl rfl (rdF_cells ((hL.call hm').rdO 2 rfl) hix1190 ha1191 0 _ rfl)) ?_))
                              refine QW.cons rfl (QP.yes' rfl rfl hb1170 (QP.val (v := v22) rfl (fun w' hm' => x_mv f1090) ?_))
                              refine QW.cons rfl (QP.yes' rfl rfl hb1170 (QP.val (v := (.int .i64 s_l2)) rfl (fun w' hm' => x_mv f1095) ?_))
                              obtain ⟨x1192, ha1193, hm⟩ := bndE hm
                              obtain ⟨hz1194, ha1198⟩ := idxE ha1193
                              obtain ⟨b1195, q1196, hix1197⟩ := rdL_ix (hL.rdO 2 rfl) hz1194 ha1198
                              refine QW.cons rfl (QP.yes' rfl rfl hb1170 (QP.val (v := (.pointer (some ⟨b1195, q1196, none⟩))) rfl (fun w' hm' => x_ix Try.underlying53 Try_T2 rfl rfl hix1197) ?_))
                              refine QW.cons rfl (QP.yes' rfl rfl hb1170 (QP.val (v := (.int .i64 x1192)) rfl (fun w' hm' => x_load1 Try.underlying2 rfl rfl (rdF_cells ((hL.call hm').rdO 2 rfl) hix1197 ha1198 0 _ rfl)) ?_))
                              refine QW.cons rfl (QP.yes' rfl rfl hb1170 (QP.val (v := (.bool (decide (x1185 < x1192)))) rfl (fun w' hm' => x_lss rfl rfl) ?_))
                              refine QW.cons rfl (QP.yes' rfl rfl hb1170 (QP.val (v := (.bool ((decide (x1171 < x1178)) != (decide (x1185 < x1192))))) rfl (fun w' hm' => x_neqB Try.underlying4 rfl rfl) ?_))
                              refine QW.cons rfl (QP.val (v := (.bool ((decide (x1171 < x1178)) != (decide (x1185 < x1192))))) rfl (fun w' hm' => x_pickT' rfl hb1170 rfl) ?_)
                              refine QW.nil ?_
                              intro wd1199 hmod
                              have hL := hL.call hmod
                              refine DW.done (by kernel_rfl) ?_
                              exact ⟨(decide (x1171 < x1178)) != (decide (x1185 < x1192)), hm, ⟨f1089, f1090, f1091, f1092, f1093, f1094, f1095, rfl, hL⟩⟩
                            · refine QW.cons rfl (QP.no' rfl rfl hb1170 rfl ?_)
                              refine QW.cons rfl (QP.no' rfl rfl hb1170 rfl ?_)
                              refine QW.cons rfl (QP.no' rfl rfl hb1170 rfl ?_)
                              refine QW.cons rfl (QP.no' rfl rfl hb1170 rfl ?_)
                              refine QW.cons rfl (QP.no' rfl rfl hb1170 rfl ?_)
                              refine QW.cons rfl (QP.no' rfl rfl hb1170 rfl ?_)
                              refine QW.cons rfl (QP.no' rfl rfl hb1170 rfl ?_)
                              refine QW.cons rfl (QP.no' rfl rfl hb1170 rfl ?_)
                              refine QW.cons rfl (QP.no' rfl rfl hb1170 rfl ?_)
                              refine QW.cons rfl (QP.no' rfl rfl hb1170 rfl ?_)
                              refine QW.cons rfl (QP.no' rfl rfl hb1170 rfl ?_)
                              refine QW.cons rfl (QP.no' rfl rfl hb1170 rfl ?_)
                              refine QW.cons rfl (QP.no' rfl rfl hb1170 rfl ?_)
                              refine QW.cons rfl (QP.no' rfl rfl hb1170 rfl ?_)
                              refine QW.cons rfl (QP.no' rfl rfl hb1170 rfl ?_)
                              refine QW.cons rfl (QP.no' rfl rfl hb1170 rfl ?_)
                              refine QW.cons rfl (QP.no' rfl rfl hb1170 rfl ?_)
                              refine QW.cons rfl (QP.no' rfl rfl hb1170 rfl ?_)
                              refine QW.cons rfl (QP.no' rfl rfl hb1170 rfl ?_)
                              refine QW.cons rfl (QP.val (v := (.bool false)) rfl (fun w' hm' => x_pickF' rfl hb1170 rfl) ?_)
                              refine QW.nil ?_
                              intro wd1200 hmod
                              have hL := hL.call hmod
                              refine DW.done (by kernel_rfl) ?_
                              exact ⟨false, hm, ⟨f1089, f1090, f1091, f1092, f1093, f1094, f1095, rfl, hL⟩⟩
                          · refine QW.cons rfl (QP.no' rfl rfl hb1162 rfl ?_)
                            refine QW.cons rfl (QP.no' rfl rfl hb1162 rfl ?_)
                            refine QW.cons rfl (QP.no' rfl rfl hb1162 rfl ?_)
                            refine QW.cons rfl (QP.no' rfl rfl hb1162 rfl ?_)
                            refine QW.cons rfl (QP.no' rfl rfl hb1162 rfl ?_)
                            refine QW.cons rfl (QP.val (v := (.bool false)) rfl (fun w' hm' => x_pickF' rfl hb1162 rfl) ?_)
                            refine QW.cons rfl (QP.val (v := (.bool false)) rfl (fun w' hm' => x_move) ?_)
                            refine QW.cons rfl (QP.no' rfl rfl rfl rfl ?_)
                            refine QW.cons rfl (QP.no' rfl rfl rfl rfl ?_)
                            refine QW.cons rfl (QP.no' rfl rfl rfl rfl ?_)
                            refine QW.cons rfl (QP.no' rfl rfl rfl rfl ?_)
                            refine QW.cons rfl (QP.no' rfl rfl rfl rfl ?_)
                            refine QW.cons rfl (QP.no' rfl rfl rfl rfl ?_)
                            refine QW.cons rfl (QP.no' rfl rfl rfl rfl ?_)
                            refine QW.cons rfl (QP.no' rfl rfl rfl rfl ?_)
                            refine QW.cons rfl (QP.no' rfl rfl rfl rfl ?_)
                            refine QW.cons rfl (QP.no' rfl rfl rfl rfl ?_)
                            refine QW.cons rfl (QP.no' rfl rfl rfl rfl ?_)
                            refine QW.cons rfl (QP.no' rfl rfl rfl rfl ?_)
                            refine QW.cons rfl (QP.no' rfl rfl rfl rfl ?_)
                            refine QW.cons rfl (QP.no' rfl rfl rfl rfl ?_)
                            refine QW.cons rfl (QP.no' rfl rfl rfl rfl ?_)
                            refine QW.cons rfl (QP.no' rfl rfl rfl rfl ?_)
                            refine QW.cons rfl (QP.no' rfl rfl rfl rfl ?_)
                            refine QW.cons rfl (QP.no' rfl rfl rfl rfl ?_)
                            refine QW.cons rfl (QP.no' rfl rfl rfl rfl ?_)
                            refine QW.cons rfl (QP.val (v := (.bool false)) rfl (fun w' hm' => x_pickF' rfl rfl rfl) ?_)
                            refine QW.nil ?_
                            intro wd1201 hmod
                            have hL := hL.call hmod
                            refine DW.done (by kernel_rfl) ?_
                            exact ⟨false, hm, ⟨f1089, f1090, f1091, f1092, f1093, f1094, f1095, rfl, hL⟩⟩
                        · intro s_j5 F1144 wd1145 hJ hm
                          unfold M.laws_FnRacePoints_j5 at hm
                          obtain ⟨f1146, f1147, f1148, f1149, f1150, f1151, f1152, f1153, hL⟩ := hJ
                          refine CW.condM (t := s_j5) f1153 hm (fun hb1154 hm => ?_) (fun hb1154 hm => ?_)
                          · refine CW.seq ?_
                            refine CW.regionL ?_
                            refine OW.cons (OP.val (v := (.bool false)) rfl (x_assign) ?_)
                            refine OW.nil ?_
                            refine CW.ret ?_
                            obtain rfl := Option.some.inj hm
                            have hm := hr1075 _ rfl
                            obtain rfl := Option.some.inj hm
                            have hm := hr814 _ rfl
                            obtain rfl := Option.some.inj hm
                            exact RR1 rfl rfl ⟨rfl, hL.fresh 4 rfl [] (by decide) (by decide) rfl⟩
                          · refine CW.skip ?_
                            refine CW.regionL ?_
                            refine OW.cons (OP.val (v := (.int .i64 s_l2)) rfl (x_mv f1152) ?_)
                            refine OW.cons (OP.val (v := (.int .i64 (w64 (s_l2 + 1)))) rfl (x_add rfl rfl) ?_)
                            refine OW.cons (OP.val (v := (.int .i64 (w64 (s_l2 + 1)))) rfl (x_assign) ?_)
                            refine OW.nil ?_
                            obtain rfl := Option.some.inj hm
                            exact ⟨_, rfl, ⟨f1146, f1147, f1148, f1149, f1150, f1151, rfl, hL⟩⟩
                      · refine CW.exit ?_
                        refine XJ.hit ?_
                        obtain rfl := Option.some.inj hm
                        exact ⟨_, rfl, ⟨f1089, f1090, f1091, f1092, f1093, f1094, f1095, hL⟩⟩
                · refine CW.exit ?_
                  refine XJ.hit ?_
                  obtain rfl := Option.some.inj hm
                  exact ⟨_, rfl, ⟨f832, f833, f834, f835, f836, f837, hL⟩⟩

end Go.Proofs.Ytblljgcbffkahaa
