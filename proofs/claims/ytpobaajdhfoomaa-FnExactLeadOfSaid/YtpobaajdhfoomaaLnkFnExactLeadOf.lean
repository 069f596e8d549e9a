/- Links: each Go function returns what its model computes and leaves what was there. Printed by my generator. -/
import Derived.Test.YtpobaajdhfoomaaLnkFnExactLeadOfA
namespace Go.Proofs.Ytpobaajdhfoomaa
set_option maxRecDepth 10000
open Go Go.RowKit Go.ChangeShapes Go.WideShapes
set_option linter.unusedVariables false
set_option linter.unusedSimpArgs false

theorem M.slices_stableCmpFunc_int64__ok (w0 : World) {E4 : TypeId} {S2 : Nat → Prop} {v1 : Value} (a0 : List Int) (he3 : (Ent.own E4 S2 v1 a0).H w0) (a1 : Int) (a2 : Int → Int → Option Int) {fk5 : FuncId} {cp6 : List Value} (hq7 : FnQ Try.prog fk5 cp6 (fun k => k < w0.heap.size ∧ ¬ (Ent.own E4 S2 v1 a0).S k) w0 (fun yw yvs yv => ∃ (y0 : Int) (y1 : Int) (yr : Int), yvs = [(.int .i64 y0), (.int .i64 y1)] ∧ a2 y0 y1 = some yr ∧ yv = (.int .i64 yr))) {r : (Unit) × (List Int)} (hm : M.slices_stableCmpFunc_int64_ a0 a1 a2 = some r) :
    Calls Try.prog 112 #[v1, (.int .i64 a1), (.func (.func fk5) #[] cp6.toArray)] w0 fun e w' => ∃ (ioS : Nat → Prop), e = .returned (.tuple #[]) ∧ Mut w0 w' (Ent.own E4 S2 v1 a0).S [Ent.own E4 ioS v1 r.2] := by
  unfold M.slices_stableCmpFunc_int64_ at hm
  refine calls_CW (args := [v1, (.int .i64 a1), (.func (.func fk5) #[] cp6.toArray)]) Try.func112 rfl rfl rfl ?_
  have hL := Hp.startIO he3
  refine CW.seq ?_
  refine CW.regionL ?_
  refine OW.cons (OP.val (v := (.int .i64 20)) rfl (x_assign) ?_)
  refine OW.nil ?_
  refine CW.seq ?_
  refine CW.regionL ?_
  refine OW.cons (OP.val (v := (.int .i64 20)) rfl (x_move) ?_)
  refine OW.cons (OP.val (v := (.int .i64 0)) rfl (x_assign) ?_)
  refine OW.cons (OP.val (v := (.int .i64 20)) rfl (x_assign) ?_)
  refine OW.nil ?_
  refine CW.seq ?_
  obtain ⟨o26, ho27, hm⟩ := bndE hm
  refine CW.loopB (fun (s_l1 : (List Int) × Int × Int) (F : Fr) (w : World) => ∃ (S23 : Nat → Prop), F 0 = v1 ∧ F 1 = (.int .i64 a1) ∧ F 2 = (.func (.func fk5) #[] cp6.toArray) ∧ F 6 = (.int .i64 20) ∧ F 7 = (.int .i64 s_l1.2.1) ∧ F 8 = (.int .i64 s_l1.2.2) ∧ Hp w0 [Ent.own E4 S23 v1 s_l1.1, Ent.frz w0 (Ent.own E4 S2 v1 a0).S] w) (fun o => outc o (fun x => some x) (fun s => M.slices_stableCmpFunc_int64__a1 a1 a2 s) = some r) ho27 hm ⟨S2, rfl, rfl, rfl, rfl, rfl, rfl, hL⟩ ?_ ?_
  · intro s_l1 F28 wd29 hJ hm
    have hm := outcE hm
    have hm : M.slices_stableCmpFunc_int64__a1 a1 a2 s_l1 = some r := hm
    unfold M.slices_stableCmpFunc_int64__a1 at hm
    obtain ⟨S23, f30, f31, f32, f33, f34, f35, hL⟩ := hJ
    refine CW.seq ?_
    refine CW.regionL ?_
    refine OW.cons (OP.val (v := v1) rfl (x_mv f30) ?_)
    refine OW.cons (OP.val (v := (.int .i64 s_l1.2.1)) rfl (x_mv f34) ?_)
    refine OW.cons (OP.val (v := (.int .i64 a1)) rfl (x_mv f31) ?_)
    refine OW.cons (OP.val (v := (.func (.func fk5) #[] cp6.toArray)) rfl (x_mv f32) ?_)
    obtain ⟨x36, hx37, hm⟩ := bndE hm
    refine OW.cons (OP.call rfl (x_call (vs := [v1, (.int .i64 s_l1.2.1), (.int .i64 a1), (.func (.func fk5) #[] cp6.toArray)]) Try_C118 ⟨rfl, rfl, rfl, rfl, trivial⟩) (M.slices_insertionSortCmpFunc_int64__ok _ s_l1.1 (hL.get 0 rfl) s_l1.2.1 a1 a2 (hL.fnZX 1 0 (by decide) rfl rfl hq7) hx37) ?_)
    rintro e38 wd39 ⟨S41, rfl, hF40⟩
    refine ⟨_, rfl, ?_⟩
    have hL := hL.mut 0 rfl hF40
    simp only [lA, lB, lC, lD] at hL
    refine OW.nil ?_
    obtain ⟨o106, ho107, hm⟩ := bndE hm
    refine CW.loopB (fun (s_l2 : Int) (F : Fr) (w : World) => F 0 = v1 ∧ F 1 = (.int .i64 a1) ∧ F 2 = (.func (.func fk5) #[] cp6.toArray) ∧ F 6 = (.int .i64 s_l2) ∧ Hp w0 [Ent.own E4 S41 v1 x36.2, Ent.frz w0 (Ent.own E4 S2 v1 a0).S] w) (fun o => outc o (fun x => some x) (fun s => M.slices_stableCmpFunc_int64__a2 x36 s) = some r) ho107 hm ⟨f30, f31, f32, f33, hL⟩ ?_ ?_
    · intro s_l2 F108 wd109 hJ hm
      have hm := outcE hm
      have hm : M.slices_stableCmpFunc_int64__a2 x36 s_l2 = some r := hm
      unfold M.slices_stableCmpFunc_int64__a2 at hm
      obtain ⟨f110, f111, f112, f113, hL⟩ := hJ
      obtain rfl := Option.some.inj hm
      exact RR0 rfl  ⟨S41, rfl, hL.mutOut 1 rfl [0] (by decide) (by decide) rfl⟩
    · intro s_l2 F114 wd115 t104 hJ hm hr105
      unfold M.slices_stableCmpFunc_int64__l2 at hm
      obtain ⟨f116, f117, f118, f119, hL⟩ := hJ
      refine CW.seq ?_
      refine CW.seq ?_
      refine CW.regionL ?_
      refine OW.cons (OP.val (v := (.int .i64 s_l2)) rfl (x_mv f119) ?_)
      refine OW.cons (OP.val (v := (.int .i64 a1)) rfl (x_mv f117) ?_)
      refine OW.cons (OP.val (v := (.bool (decide (s_l2 < a1)))) rfl (x_lss rfl rfl) ?_)
      refine OW.nil ?_
      refine CW.condM (t := decide (s_l2 < a1)) rfl hm (fun hb120 hm => ?_) (fun hb120 hm => ?_)
      · refine CW.skip ?_
        refine CW.block ?_
        refine CW.seq ?_
        refine CW.regionL ?_
        refine OW.cons (OP.val (v := (.int .i64 s_l2)) rfl (x_mv f119) ?_)
        refine OW.cons (OP.val (v := (.int .i64 (w64 (2 * s_l2)))) rfl (x_mul rfl rfl) ?_)
        refine OW.cons (OP.val (v := (.int .i64 0)) rfl (x_assign) ?_)
        refine OW.cons (OP.val (v := (.int .i64 (w64 (2 * s_l2)))) rfl (x_assign) ?_)
        refine OW.nil ?_
        refine CW.seq ?_
        obtain ⟨o124, ho125, hm⟩ := bndE hm
        refine CW.loopB (fun (s_l3 : Unit) (F : Fr) (w : World) => F 0 = v1 ∧ F 1 = (.int .i64 a1) ∧ F 2 = (.func (.func fk5) #[] cp6.toArray) ∧ F 6 = (.int .i64 s_l2) ∧ F 7 = (.int .i64 0) ∧ F 8 = (.int .i64 (w64 (2 * s_l2))) ∧ Hp w0 [Ent.own E4 S41 v1 x36.2, Ent.frz w0 (Ent.own E4 S2 v1 a0).S] w) (fun o => outc o (fun x => some (.ret x)) (fun s => M.slices_stableCmpFunc_int64__a3 a1 s_l2 s) = some t104) ho125 hm ⟨f116, f117, f118, f119, rfl, rfl, hL⟩ ?_ ?_
        · intro s_l3 F126 wd127 hJ hm
          have hm := outcE hm
          have hm : M.slices_stableCmpFunc_int64__a3 a1 s_l2 s_l3 = some t104 := hm
          unfold M.slices_stableCmpFunc_int64__a3 at hm
          obtain ⟨f128, f129, f130, f131, f132, f133, hL⟩ := hJ
          refine CW.seqJ (fun (s_j1 : Unit) (F : Fr) (w : World) => F 0 = v1 ∧ F 1 = (.int .i64 a1) ∧ F 2 = (.func (.func fk5) #[] cp6.toArray) ∧ F 6 = (.int .i64 s_l2) ∧ Hp w0 [Ent.own E4 S41 v1 x36.2, Ent.frz w0 (Ent.own E4 S2 v1 a0).S] w) (fun s_j1 => M.slices_stableCmpFunc_int64__j1 s_l2 s_j1 = some t104) ?_ ?_
          · refine CW.seq ?_
            refine CW.regionL ?_
            refine OW.cons (OP.val (v := (.int .i64 0)) rfl (x_mv f132) ?_)
            refine OW.cons (OP.val (v := (.int .i64 s_l2)) rfl (x_mv f131) ?_)
            refine OW.cons (OP.val (v := (.int .i64 (w64 (0 + s_l2)))) rfl (x_add rfl rfl) ?_)
            refine OW.cons (OP.val (v := (.int .i64 (w64 (0 + s_l2)))) rfl (x_assign) ?_)
            refine OW.nil ?_
            refine CW.seq ?_
            refine CW.regionL ?_
            refine OW.cons (OP.val (v := (.int .i64 (w64 (0 + s_l2)))) rfl (x_move) ?_)
            refine OW.cons (OP.val (v := (.int .i64 a1)) rfl (x_mv f129) ?_)
            refine OW.cons (OP.val (v := (.bool (decide ((w64 (0 + s_l2)) < a1)))) rfl (x_lss rfl rfl) ?_)
            refine OW.nil ?_
            refine CW.condM (t := decide ((w64 (0 + s_l2)) < a1)) rfl hm (fun hb141 hm => ?_) (fun hb141 hm => ?_)
            · refine CW.regionL ?_
              refine OW.cons (OP.val (v := v1) rfl (x_mv f128) ?_)
              refine OW.cons (OP.val (v := (.int .i64 0)) rfl (x_mv f132) ?_)
              refine OW.cons (OP.val (v := (.int .i64 (w64 (0 + s_l2)))) rfl (x_move) ?_)
              refine OW.cons (OP.val (v := (.int .i64 a1)) rfl (x_mv f129) ?_)
              refine OW.cons (OP.val (v := (.func (.func fk5) #[] cp6.toArray)) rfl (x_mv f130) ?_)
              exact nomatch hm
            · refine CW.skip ?_
              exact ⟨(), hm, ⟨f128, f129, f130, f131, hL⟩⟩
          · intro s_j1 F135 wd136 hJ hm
            unfold M.slices_stableCmpFunc_int64__j1 at hm
            obtain ⟨f137, f138, f139, f140, hL⟩ := hJ
            refine CW.regionL ?_
            refine OW.cons (OP.val (v := (.int .i64 s_l2)) rfl (x_mv f140) ?_)
            refine OW.cons (OP.val (v := (.int .i64 (w64 (s_l2 * 2)))) rfl (x_mul rfl rfl) ?_)
            refine OW.cons (OP.val (v := (.int .i64 (w64 (s_l2 * 2)))) rfl (x_assign) ?_)
            refine OW.nil ?_
            obtain rfl := Option.some.inj hm
            exact ⟨_, rfl, ⟨f137, f138, f139, rfl, hL⟩⟩
        · intro s_l3 F142 wd143 t122 hJ hm hr123
          unfold M.slices_stableCmpFunc_int64__l3 at hm
          obtain ⟨f144, f145, f146, f147, f148, f149, hL⟩ := hJ
          refine CW.seq ?_
          refine CW.seq ?_
          refine CW.regionL ?_
          refine OW.cons (OP.val (v := (.int .i64 (w64 (2 * s_l2)))) rfl (x_mv f149) ?_)
          refine OW.cons (OP.val (v := (.int .i64 a1)) rfl (x_mv f145) ?_)
          refine OW.cons (OP.val (v := (.bool (decide ((w64 (2 * s_l2)) ≤ a1)))) rfl (x_leq rfl rfl) ?_)
          refine OW.nil ?_
          refine CW.condM (t := decide ((w64 (2 * s_l2)) ≤ a1)) rfl hm (fun hb150 hm => ?_) (fun hb150 hm => ?_)
          · refine CW.skip ?_
            refine CW.block ?_
            refine CW.seq ?_
            refine CW.regionL ?_
            refine OW.cons (OP.val (v := v1) rfl (x_mv f144) ?_)
            refine OW.cons (OP.val (v := (.int .i64 0)) rfl (x_mv f148) ?_)
            refine OW.cons (OP.val (v := (.int .i64 0)) rfl (x_mv f148) ?_)
            refine OW.cons (OP.val (v := (.int .i64 s_l2)) rfl (x_mv f147) ?_)
            refine OW.cons (OP.val (v := (.int .i64 (w64 (0 + s_l2)))) rfl (x_add rfl rfl) ?_)
            refine OW.cons (OP.val (v := (.int .i64 (w64 (2 * s_l2)))) rfl (x_mv f149) ?_)
            refine OW.cons (OP.val (v := (.func (.func fk5) #[] cp6.toArray)) rfl (x_mv f146) ?_)
            exact nomatch hm
          · refine CW.exit ?_
            refine XJ.hit ?_
            obtain rfl := Option.some.inj hm
            exact ⟨_, rfl, ⟨f144, f145, f146, f147, f148, f149, hL⟩⟩
      · refine CW.exit ?_
        refine XJ.hit ?_
        obtain rfl := Option.some.inj hm
        exact ⟨_, rfl, ⟨f116, f117, f118, f119, hL⟩⟩
  · intro s_l1 F151 wd152 t24 hJ hm hr25
    unfold M.slices_stableCmpFunc_int64__l1 at hm
    obtain ⟨S23, f153, f154, f155, f156, f157, f158, hL⟩ := hJ
    refine CW.seq ?_
    refine CW.seq ?_
    refine CW.regionL ?_
    refine OW.cons (OP.val (v := (.int .i64 s_l1.2.2)) rfl (x_mv f158) ?_)
    refine OW.cons (OP.val (v := (.int .i64 a1)) rfl (x_mv f154) ?_)
    refine OW.cons (OP.val (v := (.bool (decide (s_l1.2.2 ≤ a1)))) rfl (x_leq rfl rfl) ?_)
    refine OW.nil ?_
    refine CW.condM (t := decide (s_l1.2.2 ≤ a1)) rfl hm (fun hb159 hm => ?_) (fun hb159 hm => ?_)
    · refine CW.skip ?_
      refine CW.block ?_
      refine CW.seq ?_
      refine CW.regionL ?_
      refine OW.cons (OP.val (v := v1) rfl (x_mv f153) ?_)
      refine OW.cons (OP.val (v := (.int .i64 s_l1.2.1)) rfl (x_mv f157) ?_)
      refine OW.cons (OP.val (v := (.int .i64 s_l1.2.2)) rfl (x_mv f158) ?_)
      refine OW.cons (OP.val (v := (.func (.func fk5) #[] cp6.toArray)) rfl (x_mv f155) ?_)
      obtain ⟨x160, hx161, hm⟩ := bndE hm
      refine OW.cons (OP.call rfl (x_call (vs := [v1, (.int .i64 s_l1.2.1), (.int .i64 s_l1.2.2), (.func (.func fk5) #[] cp6.toArray)]) Try_C118 ⟨rfl, rfl, rfl, rfl, trivial⟩) (M.slices_insertionSortCmpFunc_int64__ok _ s_l1.1 (hL.get 0 rfl) s_l1.2.1 s_l1.2.2 a2 (hL.fnZX 1 0 (by decide) rfl rfl hq7) hx161) ?_)
      rintro e162 wd163 ⟨S165, rfl, hF164⟩
      refine ⟨_, rfl, ?_⟩
      have hL := hL.mut 0 rfl hF164
      simp only [lA, lB, lC, lD] at hL
      refine OW.nil ?_
      refine CW.seq ?_
      refine CW.regionL ?_
      refine OW.cons (OP.val (v := (.int .i64 s_l1.2.2)) rfl (x_mv f158) ?_)
      refine OW.cons (OP.val (v := (.int .i64 s_l1.2.2)) rfl (x_assign) ?_)
      refine OW.nil ?_
      refine CW.regionL ?_
      refine OW.cons (OP.val (v := (.int .i64 s_l1.2.2)) rfl (x_mv f158) ?_)
      refine OW.cons (OP.val (v := (.int .i64 20)) rfl (x_mv f156) ?_)
      refine OW.cons (OP.val (v := (.int .i64 (w64 (s_l1.2.2 + 20)))) rfl (x_add rfl rfl) ?_)
      refine OW.cons (OP.val (v := (.int .i64 (w64 (s_l1.2.2 + 20)))) rfl (x_assign) ?_)
      refine OW.nil ?_
      obtain rfl := Option.some.inj hm
      exact ⟨_, rfl, ⟨S165, f153, f154, f155, f156, rfl, rfl, hL⟩⟩
    · refine CW.exit ?_
      refine XJ.hit ?_
      obtain rfl := Option.some.inj hm
      exact ⟨_, rfl, ⟨S23, f153, f154, f155, f156, f157, f158, hL⟩⟩

theorem M.slices_SortStableFunc___int64_int64__ok (w0 : World) {E4 : TypeId} {S2 : Nat → Prop} {v1 : Value} (a0 : List Int) (he3 : (Ent.own E4 S2 v1 a0).H w0) (a1 : Int → Int → Option Int) {fk5 : FuncId} {cp6 : List Value} (hq7 : FnQ Try.prog fk5 cp6 (fun k => k < w0.heap.size ∧ ¬ (Ent.own E4 S2 v1 a0).S k) w0 (fun yw yvs yv => ∃ (y0 : Int) (y1 : Int) (yr : Int), yvs = [(.int .i64 y0), (.int .i64 y1)] ∧ a1 y0 y1 = some yr ∧ yv = (.int .i64 yr))) {r : (Unit) × (List Int)} (hm : M.slices_SortStableFunc___int64_int64_ a0 a1 = some r) :
    Calls Try.prog 101 #[v1, (.func (.func fk5) #[] cp6.toArray)] w0 fun e w' => ∃ (ioS : Nat → Prop), e = .returned (.tuple #[]) ∧ Mut w0 w' (Ent.own E4 S2 v1 a0).S [Ent.own E4 ioS v1 r.2] := by
  unfold M.slices_SortStableFunc___int64_int64_ at hm
  refine calls_CW (args := [v1, (.func (.func fk5) #[] cp6.toArray)]) Try.func101 rfl rfl rfl ?_
  have hL := Hp.startIO he3
  refine CW.regionL ?_
  refine OW.cons (OP.val (v := v1) rfl (x_move) ?_)
  refine OW.cons (OP.val (v := v1) rfl (x_move) ?_)
  refine OW.cons (OP.val (v := (.int .i64 (a0.length : Int))) rfl (x_lenR Try.underlying25 rfl (hL.rdO 0 rfl)) ?_)
  refine OW.cons (OP.val (v := (.func (.func fk5) #[] cp6.toArray)) rfl (x_move) ?_)
  obtain ⟨x8, hx9, hm⟩ := bndE hm
  refine OW.cons (OP.call rfl (x_call (vs := [v1, (.int .i64 (a0.length : Int)), (.func (.func fk5) #[] cp6.toArray)]) Try_C112 ⟨rfl, rfl, rfl, trivial⟩) (M.slices_stableCmpFunc_int64__ok _ a0 (hL.get 0 rfl) (a0.length : Int) a1 (hL.fnZX 1 0 (by decide) rfl rfl hq7) hx9) ?_)
  rintro e10 wd11 ⟨S13, rfl, hF12⟩
  refine ⟨_, rfl, ?_⟩
  have hL := hL.mut 0 rfl hF12
  simp only [lA, lB, lC, lD] at hL
  refine OW.nil ?_
  obtain rfl := Option.some.inj hm
  exact RR0 rfl  ⟨S13, rfl, hL.mutOut 1 rfl [0] (by decide) (by decide) rfl⟩

theorem M.impl_sortedIndices_ok (w0 : World) (a0 : Int) (a1 : Int → Int → Option Int) {fk1 : FuncId} {cp2 : List Value} (hq3 : FnQ Try.prog fk1 cp2 (· < w0.heap.size) w0 (fun yw yvs yv => ∃ (y0 : Int) (y1 : Int) (yr : Int), yvs = [(.int .i64 y0), (.int .i64 y1)] ∧ a1 y0 y1 = some yr ∧ yv = (.int .i64 yr))) {r : (List Int)} (hm : M.impl_sortedIndices a0 a1 = some r) :
    Calls Try.prog 73 #[(.int .i64 a0), (.func (.func fk1) #[] cp2.toArray)] w0 fun e w' => ∃ (rv0 : Value) (rS0 : Nat → Prop), e = .returned rv0 ∧ Fresh w0 w' [Ent.own 2 rS0 rv0 r] := by
  unfold M.impl_sortedIndices at hm
  refine calls_CW (args := [(.int .i64 a0), (.func (.func fk1) #[] cp2.toArray)]) Try.func73 rfl rfl rfl ?_
  have hL := Hp.start w0
  refine CW.seq ?_
  refine CW.regionL ?_
  refine OW.cons (S_box (cs := #[(.func (.func fk1) #[] cp2.toArray)]) hL rfl rfl rfl ?_)
  intro wd4 b5 hL
  refine OW.cons (OP.val (v := (.slice none 0 0)) rfl (x_assign) ?_)
  refine OW.nil ?_
  refine CW.seq ?_
  refine CW.regionL ?_
  refine OW.cons (S_lit ([] : List Int) hL Try.underlying25 Try_T2 rfl (by decide) (by first | (simp [Instr.fill, madeCells, Value.cells, ev, upd, Flat.enc, Flat.sz]; done) | rfl | kernel_rfl) rfl rfl ?_)
  intro wd6 v7 S8 hL
  refine OW.cons (OP.val (v := v7) rfl (x_assign) ?_)
  refine OW.nil ?_
  refine CW.seq ?_
  refine CW.seq ?_
  refine CW.regionL ?_
  refine OW.cons (OP.val (v := (.int .i64 a0)) rfl (x_move) ?_)
  refine OW.cons (OP.val (v := (.int .i64 0)) rfl (x_move) ?_)
  refine OW.nil ?_
  obtain ⟨o31, ho32, hm⟩ := bndE hm
  refine CW.loopB (fun (s_l1 : (List Int) × Int) (F : Fr) (w : World) => ∃ (v27 : Value) (S28 : Nat → Prop), F 3 = (.pointer (some ⟨b5, 0, none⟩)) ∧ F 5 = v27 ∧ F 8 = (.int .i64 a0) ∧ F 9 = (.int .i64 s_l1.2) ∧ Hp w0 [Ent.own 2 S28 v27 s_l1.1, Ent.blk b5 68 #[(.func (.func fk1) #[] cp2.toArray)], Ent.snap w0 w0.heap.size] w) (fun o => outc o (fun x => some x) (fun s => M.impl_sortedIndices_a1 a1 s) = some r) ho32 hm ⟨v7, S8, rfl, rfl, rfl, rfl, hL⟩ ?_ ?_
  · intro s_l1 F33 wd34 hJ hm
    have hm := outcE hm
    have hm : M.impl_sortedIndices_a1 a1 s_l1 = some r := hm
    unfold M.impl_sortedIndices_a1 at hm
    obtain ⟨v27, S28, f35, f36, f37, f38, hL⟩ := hJ
    refine CW.seq ?_
    refine CW.regionL ?_
    refine OW.cons (OP.val (v := v27) rfl (x_mv f36) ?_)
    refine OW.cons (OP.val (v := (.func (.func 102) #[] #[(.pointer (some ⟨b5, 0, none⟩))])) rfl (x_makeFunc (vs := [(.pointer (some ⟨b5, 0, none⟩))]) ⟨f35, trivial⟩) ?_)
    obtain ⟨x39, hx40, hm⟩ := bndE hm
    refine OW.cons (OP.call rfl (x_call (vs := [v27, (.func (.func 102) #[] #[(.pointer (some ⟨b5, 0, none⟩))])]) Try_C101 ⟨rfl, rfl, trivial⟩) (M.slices_SortStableFunc___int64_int64__ok _ s_l1.1 (hL.get 0 rfl) (fun y0 y1 => M.impl_sortedIndices_1 y0 y1 a1) ⟨Try_C102, fun yw hag yvs yv hR => by obtain ⟨y0, y1, yr, rfl, hyf, rfl⟩ := hR; exact M.impl_sortedIndices_1_ok yw y0 y1 a1 (hag.fnS (hL.fnSX 2 0 (by decide) rfl rfl hq3)) (hag.bx (hL.bxX 1 0 (by decide) rfl rfl)) hyf⟩ hx40) ?_)
    rintro e41 wd42 ⟨S44, rfl, hF43⟩
    refine ⟨_, rfl, ?_⟩
    have hL := hL.mut 0 rfl hF43
    simp only [lA, lB, lC, lD] at hL
    refine OW.nil ?_
    refine CW.seq ?_
    refine CW.regionL ?_
    refine OW.cons (OP.val (v := v27) rfl (x_mv f36) ?_)
    refine OW.cons (OP.val (v := v27) rfl (x_assign) ?_)
    refine OW.nil ?_
    refine CW.ret ?_
    obtain rfl := Option.some.inj hm
    exact RR1 rfl rfl ⟨v27, S44, rfl, hL.fresh 2 rfl [0] (by decide) (by decide) rfl⟩
  · intro s_l1 F45 wd46 t29 hJ hm hr30
    unfold M.impl_sortedIndices_l1 at hm
    obtain ⟨v27, S28, f47, f48, f49, f50, hL⟩ := hJ
    refine CW.seq ?_
    refine CW.regionL ?_
    refine OW.cons (OP.val (v := (.bool (decide (s_l1.2 < a0)))) rfl (x_lss f50 f49) ?_)
    refine OW.nil ?_
    refine CW.seq ?_
    refine CW.condM (t := decide (s_l1.2 < a0)) rfl hm (fun hb51 hm => ?_) (fun hb51 hm => ?_)
    · refine CW.skip ?_
      refine CW.seq ?_
      refine CW.block ?_
      refine CW.seq ?_
      refine CW.regionL ?_
      refine OW.cons (OP.val (v := (.int .i64 s_l1.2)) rfl (x_mv f50) ?_)
      refine OW.cons (OP.val (v := (.int .i64 s_l1.2)) rfl (x_assign) ?_)
      refine OW.nil ?_
      refine CW.regionL ?_
      refine OW.cons (OP.val (v := v27) rfl (x_mv f48) ?_)
      refine OW.cons (OP.val (v := (.int .i64 s_l1.2)) rfl (x_move) ?_)
      refine OW.cons (S_lit ([s_l1.2] : List Int) hL Try.underlying25 Try_T2 rfl (by decide) (by first | (simp [Instr.fill, madeCells, Value.cells, ev, upd, Flat.enc, Flat.sz]; done) | rfl | kernel_rfl) rfl rfl ?_)
      intro wd52 v53 S54 hL
      obtain ⟨hc58, hm⟩ := chkE hm
      refine OW.cons (S_append (ys := ([s_l1.2] : List Int)) hL 1 rfl Try.underlying25 Try_T2 rfl rfl rfl (hL.rdO 0 rfl) hc58 (by decide) rfl ?_)
      intro wd55 v56 S57 hL
      refine OW.cons (OP.val (v := v56) rfl (x_assign) ?_)
      refine OW.nil ?_
      refine CW.regionL ?_
      refine OW.cons (OP.val (v := (.int .i64 (w64 (s_l1.2 + 1)))) rfl (x_add f50 rfl) ?_)
      refine OW.cons (OP.val (v := (.int .i64 (w64 (s_l1.2 + 1)))) rfl (x_move) ?_)
      refine OW.nil ?_
      have hL := hL.sel [1, 2, 3] (by decide) rfl
      obtain rfl := Option.some.inj hm
      exact ⟨_, rfl, ⟨v56, S57, f47, rfl, f49, rfl, hL⟩⟩
    · refine CW.exit ?_
      refine XJ.hit ?_
      obtain rfl := Option.some.inj hm
      exact ⟨_, rfl, ⟨v27, S28, f47, f48, f49, f50, hL⟩⟩

theorem M.math_bits_Len64_ok (w0 : World) (a0 : Int) {r : Int} (hm : M.math_bits_Len64 a0 = some r) :
    Calls Try.prog 134 #[(.int .u64 a0)] w0 fun e w' => e = .returned (.int .i64 r) ∧ Fresh w0 w' [] := by
  unfold M.math_bits_Len64 at hm
  refine calls_CW (args := [(.int .u64 a0)]) Try.func134 rfl rfl rfl ?_
  have hL := Hp.start w0
  refine CW.seq ?_
  refine CW.regionL ?_
  refine OW.cons (OP.val (v := (.int .i64 0)) rfl (x_assign) ?_)
  refine OW.nil ?_
  refine CW.seqJ (fun (s_j1 : Unit) (F : Fr) (w : World) => F 0 = (.int .u64 a0) ∧ F 2 = (.int .i64 0) ∧ Hp w0 [Ent.snap w0 w0.heap.size] w) (fun s_j1 => M.math_bits_Len64_j1 a0 s_j1 = some r) ?_ ?_
  · refine CW.seq ?_
    refine CW.regionL ?_
    refine OW.cons (OP.val (v := (.int .u64 a0)) rfl (x_move) ?_)
    refine OW.cons (OP.val (v := (.bool (decide (4294967296 ≤ a0)))) rfl (x_geq rfl rfl) ?_)
    refine OW.nil ?_
    refine CW.condM (t := decide (4294967296 ≤ a0)) rfl hm (fun hb20 hm => ?_) (fun hb20 hm => ?_)
    · exact nomatch hm
    · refine CW.skip ?_
      exact ⟨(), hm, ⟨rfl, rfl, hL⟩⟩
  · intro s_j1 F2 wd3 hJ hm
    unfold M.math_bits_Len64_j1 at hm
    obtain ⟨f4, f5, hL⟩ := hJ
    refine CW.seqJ (fun (s_j2 : Unit) (F : Fr) (w : World) => F 0 = (.int .u64 a0) ∧ F 2 = (.int .i64 0) ∧ Hp w0 [Ent.snap w0 w0.heap.size] w) (fun s_j2 => M.math_bits_Len64_j2 a0 s_j2 = some r) ?_ ?_
    · refine CW.seq ?_
      refine CW.regionL ?_
      refine OW.cons (OP.val (v := (.int .u64 a0)) rfl (x_mv f4) ?_)
      refine OW.cons (OP.val (v := (.bool (decide (65536 ≤ a0)))) rfl (x_geq rfl rfl) ?_)
      refine OW.nil ?_
      refine CW.condM (t := decide (65536 ≤ a0)) rfl hm (fun hb19 hm => ?_) (fun hb19 hm => ?_)
      · exact nomatch hm
      · refine CW.skip ?_
        exact ⟨(), hm, ⟨f4, f5, hL⟩⟩
    · intro s_j2 F7 wd8 hJ hm
      unfold M.math_bits_Len64_j2 at hm
      obtain ⟨f9, f10, hL⟩ := hJ
      refine CW.seqJ (fun (s_j3 : Unit) (F : Fr) (w : World) => F 0 = (.int .u64 a0) ∧ F 2 = (.int .i64 0) ∧ Hp w0 [Ent.snap w0 w0.heap.size] w) (fun s_j3 => M.math_bits_Len64_j3 a0 s_j3 = some r) ?_ ?_
      · refine CW.seq ?_
        refine CW.regionL ?_
        refine OW.cons (OP.val (v := (.int .u64 a0)) rfl (x_mv f9) ?_)
        refine OW.cons (OP.val (v := (.bool (decide (256 ≤ a0)))) rfl (x_geq rfl rfl) ?_)
        refine OW.nil ?_
        refine CW.condM (t := decide (256 ≤ a0)) rfl hm (fun hb18 hm => ?_) (fun hb18 hm => ?_)
        · exact nomatch hm
        · refine CW.skip ?_
          exact ⟨(), hm, ⟨f9, f10, hL⟩⟩
      · intro s_j3 F12 wd13 hJ hm
        unfold M.math_bits_Len64_j3 at hm
        obtain ⟨f14, f15, hL⟩ := hJ
        refine CW.seq ?_
        refine CW.regionL ?_
        refine OW.cons (OP.val (v := (.int .i64 0)) rfl (x_mv f15) ?_)
        refine OW.cons (OP.val (v := (.int .u64 a0)) rfl (x_mv f14) ?_)
        refine OW.cons (OP.val (v := (.int .u8 (IntKind.u8.wrap a0))) rfl (x_conv Try.underlying128 Try.underlying5 rfl) ?_)
        obtain ⟨x16, hx17, hm⟩ := bndE hm
        refine OW.cons (OP.val (v := (.int .u8 x16)) rfl (x_strAt Try.underlying9 rfl rfl hx17) ?_)
        refine OW.cons (OP.val (v := (.int .i64 (IntKind.i64.wrap x16))) rfl (x_conv Try.underlying5 Try.underlying3 rfl) ?_)
        refine OW.cons (OP.val (v := (.int .i64 (w64 (0 + (IntKind.i64.wrap x16))))) rfl (x_add rfl rfl) ?_)
        refine OW.cons (OP.val (v := (.int .i64 (w64 (0 + (IntKind.i64.wrap x16))))) rfl (x_assign) ?_)
        refine OW.nil ?_
        refine CW.ret ?_
        obtain rfl := Option.some.inj hm
        exact RR1 rfl rfl ⟨rfl, hL.fresh 0 rfl [] (by decide) (by decide) rfl⟩

theorem M.math_bits_Len_ok (w0 : World) (a0 : Int) {r : Int} (hm : M.math_bits_Len a0 = some r) :
    Calls Try.prog 116 #[(.int .u64 a0)] w0 fun e w' => e = .returned (.int .i64 r) ∧ Fresh w0 w' [] := by
  unfold M.math_bits_Len at hm
  refine calls_CW (args := [(.int .u64 a0)]) Try.func116 rfl rfl rfl ?_
  have hL := Hp.start w0
  refine CW.seq ?_
  refine CW.regionL ?_
  refine OW.cons (OP.val (v := (.int .i64 0)) rfl (x_assign) ?_)
  refine OW.nil ?_
  refine CW.seq ?_
  refine CW.condF rfl rfl ?_
  refine CW.skip ?_
  refine CW.seq ?_
  refine CW.regionL ?_
  refine OW.cons (OP.val (v := (.int .u64 a0)) rfl (x_move) ?_)
  obtain ⟨x1, hx2, hm⟩ := bndE hm
  refine OW.cons (OP.call rfl (x_call (vs := [(.int .u64 a0)]) Try_C134 ⟨rfl, trivial⟩) (M.math_bits_Len64_ok _ a0 hx2) ?_)
  rintro e3 wd4 ⟨rfl, hF5⟩
  refine ⟨_, rfl, ?_⟩
  have hL := hL.pushAll hF5
  simp only [lA, lB, lC, lD] at hL
  refine OW.cons (OP.val (v := (.int .i64 x1)) rfl (x_assign) ?_)
  refine OW.nil ?_
  refine CW.ret ?_
  obtain rfl := Option.some.inj hm
  exact RR1 rfl rfl ⟨rfl, hL.fresh 0 rfl [] (by decide) (by decide) rfl⟩

theorem M.cmp_isNaN_int64__ok (w0 : World) (a0 : Int) {r : Bool} (hm : M.cmp_isNaN_int64_ a0 = some r) :
    Calls Try.prog 143 #[(.int .i64 a0)] w0 fun e w' => e = .returned (.bool r) ∧ Fresh w0 w' [] := by
  unfold M.cmp_isNaN_int64_ at hm
  refine calls_CW (args := [(.int .i64 a0)]) Try.func143 rfl rfl rfl ?_
  have hL := Hp.start w0
  refine CW.seq ?_
  refine CW.regionL ?_
  refine OW.cons (OP.val (v := (.bool false)) rfl (x_assign) ?_)
  refine OW.nil ?_
  refine CW.seq ?_
  refine CW.regionL ?_
  refine OW.cons (OP.val (v := (.int .i64 a0)) rfl (x_move) ?_)
  refine OW.cons (OP.val (v := (.int .i64 a0)) rfl (x_move) ?_)
  refine OW.cons (OP.val (v := (.bool (a0 != a0))) rfl (x_neq rfl rfl) ?_)
  refine OW.cons (OP.val (v := (.bool (a0 != a0))) rfl (x_assign) ?_)
  refine OW.nil ?_
  refine CW.ret ?_
  obtain rfl := Option.some.inj hm
  exact RR1 rfl rfl ⟨rfl, hL.fresh 0 rfl [] (by decide) (by decide) rfl⟩

theorem M.cmp_Less_int64__ok (w0 : World) (a0 : Int) (a1 : Int) {r : Bool} (hm : M.cmp_Less_int64_ a0 a1 = some r) :
    Calls Try.prog 130 #[(.int .i64 a0), (.int .i64 a1)] w0 fun e w' => e = .returned (.bool r) ∧ Fresh w0 w' [] := by
  unfold M.cmp_Less_int64_ at hm
  refine calls_CW (args := [(.int .i64 a0), (.int .i64 a1)]) Try.func130 rfl rfl rfl ?_
  have hL := Hp.start w0
  refine CW.seq ?_
  refine CW.regionL ?_
  refine OW.cons (OP.val (v := (.bool false)) rfl (x_assign) ?_)
  refine OW.nil ?_
  refine CW.seqJ (fun (s_j1 : Bool) (F : Fr) (w : World) => F 4 = (.bool s_j1) ∧ Hp w0 [Ent.snap w0 w0.heap.size] w) (fun s_j1 => M.cmp_Less_int64__j1 s_j1 = some r) ?_ ?_
  · refine CW.regionL ?_
    refine OW.cons (OP.val (v := (.int .i64 a0)) rfl (x_move) ?_)
    obtain ⟨x16, hx17, hm⟩ := bndE hm
    refine OW.cons (OP.call rfl (x_call (vs := [(.int .i64 a0)]) Try_C143 ⟨rfl, trivial⟩) (M.cmp_isNaN_int64__ok _ a0 hx17) ?_)
    rintro e18 wd19 ⟨rfl, hF20⟩
    refine ⟨_, rfl, ?_⟩
    have hL := hL.pushAll hF20
    simp only [lA, lB, lC, lD] at hL
    refine OW.cons (OP.val (v := (.bool x16)) rfl (x_move) ?_)
    refine ifB_elim hm (fun hb21 hm => ?_) (fun hb21 hm => ?_)
    · refine OW.cons (OP.yes' rfl rfl hb21 (OP.val (v := (.int .i64 a1)) rfl (x_move) ?_))
      obtain ⟨x22, hx23, hm⟩ := bndE hm
      refine OW.cons (OP.yes' rfl rfl hb21 (OP.call rfl (x_call (vs := [(.int .i64 a1)]) Try_C143 ⟨rfl, trivial⟩) (M.cmp_isNaN_int64__ok _ a1 hx23) ?_))
      rintro e24 wd25 ⟨rfl, hF26⟩
      refine ⟨_, rfl, ?_⟩
      have hL := hL.pushAll hF26
      simp only [lA, lB, lC, lD] at hL
      refine OW.cons (OP.yes' rfl rfl hb21 (OP.val (v := (.bool (!x22))) rfl (x_not rfl) ?_))
      refine OW.cons (OP.val (v := (.bool (!x22))) rfl (x_pickT' rfl hb21 rfl) ?_)
      refine OW.cons (OP.val (v := (.bool (!x22))) rfl (x_move) ?_)
      refine ifB_elim hm (fun hb27 hm => ?_) (fun hb27 hm => ?_)
      · refine OW.cons (OP.no' rfl rfl hb27 rfl ?_)
        refine OW.cons (OP.no' rfl rfl hb27 rfl ?_)
        refine OW.cons (OP.no' rfl rfl hb27 rfl ?_)
        refine OW.cons (OP.val (v := (.bool true)) rfl (x_pickT' rfl hb27 rfl) ?_)
        refine OW.cons (OP.val (v := (.bool true)) rfl (x_assign) ?_)
        refine OW.nil ?_
        exact ⟨true, hm, ⟨rfl, hL⟩⟩
      · refine OW.cons (OP.yes' rfl rfl hb27 (OP.val (v := (.int .i64 a0)) rfl (x_move) ?_))
        refine OW.cons (OP.yes' rfl rfl hb27 (OP.val (v := (.int .i64 a1)) rfl (x_move) ?_))
        refine OW.cons (OP.yes' rfl rfl hb27 (OP.val (v := (.bool (decide (a0 < a1)))) rfl (x_lss rfl rfl) ?_))
        refine OW.cons (OP.val (v := (.bool (decide (a0 < a1)))) rfl (x_pickF' rfl hb27 rfl) ?_)
        refine OW.cons (OP.val (v := (.bool (decide (a0 < a1)))) rfl (x_assign) ?_)
        refine OW.nil ?_
        exact ⟨decide (a0 < a1), hm, ⟨rfl, hL⟩⟩
    · refine OW.cons (OP.no' rfl rfl hb21 rfl ?_)
      refine OW.cons (OP.no' rfl rfl hb21 rfl ?_)
      refine OW.cons (OP.no' rfl rfl hb21 rfl ?_)
      refine OW.cons (OP.val (v := (.bool false)) rfl (x_pickF' rfl hb21 rfl) ?_)
      refine OW.cons (OP.val (v := (.bool false)) rfl (x_move) ?_)
      refine OW.cons (OP.yes' rfl rfl rfl (OP.val (v := (.int .i64 a0)) rfl (x_move) ?_))
      refine OW.cons (OP.yes' rfl rfl rfl (OP.val (v := (.int .i64 a1)) rfl (x_move) ?_))
      refine OW.cons (OP.yes' rfl rfl rfl (OP.val (v := (.bool (decide (a0 < a1)))) rfl (x_lss rfl rfl) ?_))
      refine OW.cons (OP.val (v := (.bool (decide (a0 < a1)))) rfl (x_pickF' rfl rfl rfl) ?_)
      refine OW.cons (OP.val (v := (.bool (decide (a0 < a1)))) rfl (x_assign) ?_)
      refine OW.nil ?_
      exact ⟨decide (a0 < a1), hm, ⟨rfl, hL⟩⟩
  · intro s_j1 F13 wd14 hJ hm
    unfold M.cmp_Less_int64__j1 at hm
    obtain ⟨f15, hL⟩ := hJ
    refine CW.ret ?_
    obtain rfl := Option.some.inj hm
    exact RR1 rfl f15 ⟨rfl, hL.fresh 0 rfl [] (by decide) (by decide) rfl⟩

theorem M.slices_insertionSortOrdered_int64__ok (w0 : World) {E4 : TypeId} {S2 : Nat → Prop} {v1 : Value} (a0 : List Int) (he3 : (Ent.own E4 S2 v1 a0).H w0) (a1 : Int) (a2 : Int) {r : (Unit) × (List Int)} (hm : M.slices_insertionSortOrdered_int64_ a0 a1 a2 = some r) :
    Calls Try.prog 124 #[v1, (.int .i64 a1), (.int .i64 a2)] w0 fun e w' => ∃ (ioS : Nat → Prop), e = .returned (.tuple #[]) ∧ Mut w0 w' (Ent.own E4 S2 v1 a0).S [Ent.own E4 ioS v1 r.2] := by
  unfold M.slices_insertionSortOrdered_int64_ at hm
  refine calls_CW (args := [v1, (.int .i64 a1), (.int .i64 a2)]) Try.func124 rfl rfl rfl ?_
  have hL := Hp.startIO he3
  refine CW.seq ?_
  refine CW.regionL ?_
  refine OW.cons (OP.val (v := (.int .i64 a1)) rfl (x_move) ?_)
  refine OW.cons (OP.val (v := (.int .i64 (w64 (a1 + 1)))) rfl (x_add rfl rfl) ?_)
  refine OW.cons (OP.val (v := (.int .i64 (w64 (a1 + 1)))) rfl (x_assign) ?_)
  refine OW.nil ?_
  obtain ⟨o801, ho802, hm⟩ := bndE hm
  refine CW.loopB (fun (s_l1 : (List Int) × Int) (F : Fr) (w : World) => ∃ (S798 : Nat → Prop), F 0 = v1 ∧ F 1 = (.int .i64 a1) ∧ F 2 = (.int .i64 a2) ∧ F 6 = (.int .i64 s_l1.2) ∧ Hp w0 [Ent.own E4 S798 v1 s_l1.1, Ent.frz w0 (Ent.own E4 S2 v1 a0).S] w) (fun o => outc o (fun x => some x) (fun s => M.slices_insertionSortOrdered_int64__a1 s) = some r) ho802 hm ⟨S2, rfl, rfl, rfl, rfl, hL⟩ ?_ ?_
  · intro s_l1 F803 wd804 hJ hm
    have hm := outcE hm
    have hm : M.slices_insertionSortOrdered_int64__a1 s_l1 = some r := hm
    unfold M.slices_insertionSortOrdered_int64__a1 at hm
    obtain ⟨S798, f805, f806, f807, f808, hL⟩ := hJ
    obtain rfl := Option.some.inj hm
    exact RR0 rfl  ⟨S798, rfl, hL.mutOut 1 rfl [0] (by decide) (by decide) rfl⟩
  · intro s_l1 F809 wd810 t799 hJ hm hr800
    unfold M.slices_insertionSortOrdered_int64__l1 at hm
    obtain ⟨S798, f811, f812, f813, f814, hL⟩ := hJ
    refine CW.seq ?_
    refine CW.seq ?_
    refine CW.regionL ?_
    refine OW.cons (OP.val (v := (.int .i64 s_l1.2)) rfl (x_mv f814) ?_)
    refine OW.cons (OP.val (v := (.int .i64 a2)) rfl (x_mv f813) ?_)
    refine OW.cons (OP.val (v := (.bool (decide (s_l1.2 < a2)))) rfl (x_lss rfl rfl) ?_)
    refine OW.nil ?_
    refine CW.condM (t := decide (s_l1.2 < a2)) rfl hm (fun hb815 hm => ?_) (fun hb815 hm => ?_)
    · refine CW.skip ?_
      refine CW.seq ?_
      refine CW.block ?_
      refine CW.seq ?_
      refine CW.regionL ?_
      refine OW.cons (OP.val (v := (.int .i64 s_l1.2)) rfl (x_mv f814) ?_)
      refine OW.cons (OP.val (v := (.int .i64 s_l1.2)) rfl (x_assign) ?_)
      refine OW.nil ?_
      obtain ⟨o1070, ho1071, hm⟩ := bndE hm
      refine CW.loopB (fun (s_l2 : (List Int) × Int) (F : Fr) (w : World) => ∃ (S1067 : Nat → Prop), F 0 = v1 ∧ F 1 = (.int .i64 a1) ∧ F 2 = (.int .i64 a2) ∧ F 6 = (.int .i64 s_l1.2) ∧ F 7 = (.int .i64 s_l2.2) ∧ Hp w0 [Ent.own E4 S1067 v1 s_l2.1, Ent.frz w0 (Ent.own E4 S2 v1 a0).S] w) (fun o => outc o (fun x => some (.ret x)) (fun s => M.slices_insertionSortOrdered_int64__a2 s_l1 s) = some t799) ho1071 hm ⟨S798, f811, f812, f813, f814, rfl, hL⟩ ?_ ?_
      · intro s_l2 F1072 wd1073 hJ hm
        have hm := outcE hm
        have hm : M.slices_insertionSortOrdered_int64__a2 s_l1 s_l2 = some t799 := hm
        unfold M.slices_insertionSortOrdered_int64__a2 at hm
        obtain ⟨S1067, f1074, f1075, f1076, f1077, f1078, hL⟩ := hJ
        refine CW.regionL ?_
        refine OW.cons (OP.val (v := (.int .i64 s_l1.2)) rfl (x_mv f1077) ?_)
        refine OW.cons (OP.val (v := (.int .i64 (w64 (s_l1.2 + 1)))) rfl (x_add rfl rfl) ?_)
        refine OW.cons (OP.val (v := (.int .i64 (w64 (s_l1.2 + 1)))) rfl (x_assign) ?_)
        refine OW.nil ?_
        obtain rfl := Option.some.inj hm
        exact ⟨_, rfl, ⟨S1067, f1074, f1075, f1076, rfl, hL⟩⟩
      · intro s_l2 F1079 wd1080 t1068 hJ hm hr1069
        unfold M.slices_insertionSortOrdered_int64__l2 at hm
        obtain ⟨S1067, f1081, f1082, f1083, f1084, f1085, hL⟩ := hJ
        refine CW.seq ?_
        refine CW.seqJ (fun (s_j1 : Bool) (F : Fr) (w : World) => F 0 = v1 ∧ F 1 = (.int .i64 a1) ∧ F 2 = (.int .i64 a2) ∧ F 6 = (.int .i64 s_l1.2) ∧ F 7 = (.int .i64 s_l2.2) ∧ F 30 = (.bool s_j1) ∧ Hp w0 [Ent.own E4 S1067 v1 s_l2.1, Ent.frz w0 (Ent.own E4 S2 v1 a0).S] w) (fun s_j1 => M.slices_insertionSortOrdered_int64__j1 s_l2 s_j1 = some t1068) ?_ ?_
        · refine CW.draw Try_mixed ?_
          have hL := hL.call (Mod.drew _)
          refine DW.pre (fuel := 0) (fin := ((((((((((((((((Array.replicate 15 false).setIfInBounds 0 true).setIfInBounds 1 true).setIfInBounds 2 true).setIfInBounds 3 true).setIfInBounds 4 true).setIfInBounds 5 true).setIfInBounds 6 true).setIfInBounds 7 true).setIfInBounds 8 true).setIfInBounds 9 true).setIfInBounds 10 true).setIfInBounds 11 true).setIfInBounds 12 true).setIfInBounds 13 true).setIfInBounds 14 true)) (C := fun w' => Mod None_ _ w') [0, 1, 2, 3, 4, 5, 6, 7, 8, 9, 10, 11, 12, 13, 14] (Mod.refl _ _) (by kernel_rfl) (by kernel_rfl) ?_
          refine QW.cons rfl (QP.val (v := (.int .i64 s_l2.2)) rfl (fun w' hm' => x_mv f1085) ?_)
          refine QW.cons rfl (QP.val (v := (.int .i64 a1)) rfl (fun w' hm' => x_mv f1082) ?_)
          refine QW.cons rfl (QP.val (v := (.bool (decide (a1 < s_l2.2)))) rfl (fun w' hm' => x_gtr rfl rfl) ?_)
          refine QW.cons rfl (QP.val (v := (.bool (decide (a1 < s_l2.2)))) rfl (fun w' hm' => x_move) ?_)
          refine ifB_elim hm (fun hb1192 hm => ?_) (fun hb1192 hm => ?_)
          · refine QW.cons rfl (QP.yes' rfl rfl hb1192 (QP.val (v := v1) rfl (fun w' hm' => x_mv f1081) ?_))
            refine QW.cons rfl (QP.yes' rfl rfl hb1192 (QP.val (v := (.int .i64 s_l2.2)) rfl (fun w' hm' => x_mv f1085) ?_))
            obtain ⟨x1193, ha1194, hm⟩ := bndE hm
            obtain ⟨hz1195, ha1199⟩ := idxE ha1194
            obtain ⟨b1196, q1197, hix1198⟩ := rdL_ix (hL.rdO 0 rfl) hz1195 ha1199
            refine QW.cons rfl (QP.yes' rfl rfl hb1192 (QP.val (v := (.pointer (some ⟨b1196, q1197, none⟩))) rfl (fun w' hm' => x_ix Try.underlying25 Try_T2 rfl rfl hix1198) ?_))
            refine QW.cons rfl (QP.yes' rfl rfl hb1192 (QP.val (v := (.int .i64 x1193)) rfl (fun w' hm' => x_load1 Try.underlying2 rfl rfl (rdF_cells ((hL.call hm').rdO 0 rfl) hix1198 ha1199 0 _ rfl)) ?_))
            refine QW.cons rfl (QP.yes' rfl rfl hb1192 (QP.val (v := v1) rfl (fun w' hm' => x_mv f1081) ?_))
            refine QW.cons rfl (QP.yes' rfl rfl hb1192 (QP.val (v := (.int .i64 s_l2.2)) rfl (fun w' hm' => x_mv f1085) ?_))
            refine QW.cons rfl (QP.yes' rfl rfl hb1192 (QP.val (v := (.int .i64 (w64 (s_l2.2 - 1)))) rfl (fun w' hm' => x_sub rfl rfl) ?_))
            obtain ⟨x1200, ha1201, hm⟩ := bndE hm
            obtain ⟨hz1202, ha1206⟩ := idxE ha1201
            obtain ⟨b1203, q1204, hix1205⟩ := rdL_ix (hL.rdO 0 rfl) hz1202 ha1206
            refine QW.cons rfl (QP.yes' rfl rfl hb1192 (QP.val (v := (.pointer (some ⟨b1203, q1204, none⟩))) rfl (fun w' hm' => x_ix Try.underlying25 Try_T2 rfl rfl hix1205) ?_))
            refine QW.cons rfl (QP.yes' rfl rfl hb1192 (QP.val (v := (.int .i64 x1200)) rfl (fun w' hm' => x_load1 Try.underlying2 rfl rfl (rdF_cells ((hL.call hm').rdO 0 rfl) hix1205 ha1206 0 _ rfl)) ?_))
            obtain ⟨x1207, hx1208, hm⟩ := bndE hm
            refine QW.cons rfl (QP.yes' rfl rfl hb1192 (QP.call (v := (.bool x1207)) rfl (fun w' hm' => x_call (vs := [(.int .i64 x1193), (.int .i64 x1200)]) Try_C130 ⟨rfl, rfl, trivial⟩) (fun w' hm' => (M.cmp_Less_int64__ok w' x1193 x1200 hx1208).mono (fun e w'' h => ⟨h.1, hm'.trans h.2.mod⟩)) ?_))
            refine QW.cons rfl (QP.val (v := (.bool x1207)) rfl (fun w' hm' => x_pickT' rfl hb1192 rfl) ?_)
            refine QW.nil ?_
            intro wd1209 hmod
            have hL := hL.call hmod
            refine DW.done (by kernel_rfl) ?_
            exact ⟨x1207, hm, ⟨f1081, f1082, f1083, f1084, f1085, rfl, hL⟩⟩
          · refine QW.cons rfl (QP.no' rfl rfl hb1192 rfl ?_)
            refine QW.cons rfl (QP.no' rfl rfl hb1192 rfl ?_)
            refine QW.cons rfl (QP.no' rfl rfl hb1192 rfl ?_)
            refine QW.cons rfl (QP.no' rfl rfl hb1192 rfl ?_)
            refine QW.cons rfl (QP.no' rfl rfl hb1192 rfl ?_)
            refine QW.cons rfl (QP.no' rfl rfl hb1192 rfl ?_)
            refine QW.cons rfl (QP.no' rfl rfl hb1192 rfl ?_)
            refine QW.cons rfl (QP.no' rfl rfl hb1192 rfl ?_)
            refine QW.cons rfl (QP.no' rfl rfl hb1192 rfl ?_)
            refine QW.cons rfl (QP.no' rfl rfl hb1192 rfl ?_)
            refine QW.cons rfl (QP.val (v := (.bool false)) rfl (fun w' hm' => x_pickF' rfl hb1192 rfl) ?_)
            refine QW.nil ?_
            intro wd1210 hmod
            have hL := hL.call hmod
            refine DW.done (by kernel_rfl) ?_
            exact ⟨false, hm, ⟨f1081, f1082, f1083, f1084, f1085, rfl, hL⟩⟩
        · intro s_j1 F1105 wd1106 hJ hm
          unfold M.slices_insertionSortOrdered_int64__j1 at hm
          obtain ⟨f1107, f1108, f1109, f1110, f1111, f1112, hL⟩ := hJ
          refine CW.condM (t := s_j1) f1112 hm (fun hb1113 hm => ?_) (fun hb1113 hm => ?_)
          · refine CW.skip ?_
            refine CW.seq ?_
            refine CW.block ?_
            refine CW.drawH (fun w' => Hp w0 [Ent.frz w0 (Ent.own E4 S2 v1 a0).S] w') Try_mixed ?_
            have hL := hL.call (Mod.drew _)
            have hS := (hL.sel [1] (by decide) rfl)
            refine DH.take 0 rfl (by kernel_rfl) (by kernel_rfl) (by kernel_rfl) rfl rfl hS (YH.val (v := v1) (fun w' hS' => x_mv f1107)) ?_
            have hS := (hL.sel [1] (by decide) rfl)
            refine DH.take 1 rfl (by kernel_rfl) (by kernel_rfl) (by kernel_rfl) rfl rfl hS (YH.val (v := (.int .i64 s_l2.2)) (fun w' hS' => x_mv f1111)) ?_
            have hS := (hL.sel [1] (by decide) rfl)
            refine DH.take 2 rfl (by kernel_rfl) (by kernel_rfl) (by kernel_rfl) rfl rfl hS (YH.val (v := v1) (fun w' hS' => x_mv f1107)) ?_
            have hS := (hL.sel [1] (by decide) rfl)
            refine DH.take 3 rfl (by kernel_rfl) (by kernel_rfl) (by kernel_rfl) rfl rfl hS (YH.val (v := (.int .i64 s_l2.2)) (fun w' hS' => x_mv f1111)) ?_
            have hS := (hL.sel [1] (by decide) rfl)
            refine DH.take 4 rfl (by kernel_rfl) (by kernel_rfl) (by kernel_rfl) rfl rfl hS (YH.val (v := (.int .i64 (w64 (s_l2.2 - 1)))) (fun w' hS' => x_sub rfl rfl)) ?_
            have hS := (hL.sel [1] (by decide) rfl)
            refine DH.take 5 rfl (by kernel_rfl) (by kernel_rfl) (by kernel_rfl) rfl rfl hS (YH.val (v := v1) (fun w' hS' => x_mv f1107)) ?_
            have hS := (hL.sel [1] (by decide) rfl)
            refine DH.take 6 rfl (by kernel_rfl) (by kernel_rfl) (by kernel_rfl) rfl rfl hS (YH.val (v := (.int .i64 s_l2.2)) (fun w' hS' => x_mv f1111)) ?_
            have hS := (hL.sel [1] (by decide) rfl)
            refine DH.take 7 rfl (by kernel_rfl) (by kernel_rfl) (by kernel_rfl) rfl rfl hS (YH.val (v := (.int .i64 (w64 (s_l2.2 - 1)))) (fun w' hS' => x_sub rfl rfl)) ?_
            have hS := (hL.sel [1] (by decide) rfl)
            obtain ⟨x1144, ha1145, hm⟩ := bndE hm
            obtain ⟨hz1146, ha1150⟩ := idxE ha1145
            obtain ⟨b1147, q1148, hix1149⟩ := rdL_ix (hL.rdO 0 rfl) hz1146 ha1150
            refine DH.take 8 rfl (by kernel_rfl) (by kernel_rfl) (by kernel_rfl) rfl rfl hS (YH.val (v := (.pointer (some ⟨b1147, q1148, none⟩))) (fun w' hS' => x_ix Try.underlying25 Try_T2 rfl rfl hix1149)) ?_
            have hS := (hL.sel [1] (by decide) rfl)
            refine DH.take 10 rfl (by kernel_rfl) (by kernel_rfl) (by kernel_rfl) rfl rfl hS (YH.val (v := v1) (fun w' hS' => x_mv f1107)) ?_
            have hS := (hL.sel [1] (by decide) rfl)
            refine DH.take 11 rfl (by kernel_rfl) (by kernel_rfl) (by kernel_rfl) rfl rfl hS (YH.val (v := (.int .i64 s_l2.2)) (fun w' hS' => x_mv f1111)) ?_
            have hS := (hL.sel [1] (by decide) rfl)
            obtain ⟨x1151, ha1152, hm⟩ := bndE hm
            obtain ⟨hz1153, ha1157⟩ := idxE ha1152
            obtain ⟨b1154, q1155, hix1156⟩ := rdL_ix (hL.rdO 0 rfl) hz1153 ha1157
            refine DH.take 12 rfl (by kernel_rfl) (by kernel_rfl) (by kernel_rfl) rfl rfl hS (YH.val (v := (.pointer (some ⟨b1154, q1155, none⟩))) (fun w' hS' => x_ix Try.underlying25 Try_T2 rfl rfl hix1156)) ?_
            refine DH.all (rs := [9, 13]) (by kernel_rfl) (by simp) ?_
            intro i1158 hi1159
            simp only [List.mem_cons, List.not_mem_nil, or_false] at hi1159
            rcases hi1159 with rfl | rfl
            · refine ⟨_, rfl, ?_⟩
              refine OP.val (v := (.int .i64 x1144)) rfl (x_load1 Try.underlying2 rfl rfl (rdF_cells (hL.rdO 0 rfl) hix1149 ha1150 0 _ rfl)) ?_
              refine ⟨(hL.sel [1] (by decide) rfl), ?_⟩
              refine DH.only 13 rfl (by kernel_rfl) (OP.val (v := (.int .i64 x1151)) rfl (x_load1 Try.underlying2 rfl rfl (rdF_cells (hL.rdO 0 rfl) hix1156 ha1157 0 _ rfl)) ?_)
              refine ⟨(hL.sel [1] (by decide) rfl), ?_⟩
              have hS := (hL.sel [1] (by decide) rfl)
              obtain ⟨x1160, ha1161, hm⟩ := bndE hm
              obtain ⟨hz1162, ha1166⟩ := idxE ha1161
              obtain ⟨b1163, q1164, hix1165⟩ := rdL_ix (hL.rdO 0 rfl) hz1162 ha1166
              refine DH.take 14 rfl (by kernel_rfl) (by kernel_rfl) (by kernel_rfl) rfl rfl hS (YH.val (v := (.pointer (some ⟨b1163, q1164, none⟩))) (fun w' hS' => x_ix Try.underlying25 Try_T2 rfl rfl hix1165)) ?_
              refine DH.only 15 rfl (by kernel_rfl) (S_storeX (j := 0) x1144 hL 0 rfl Try_T2 hix1165 ha1166 rfl rfl rfl rfl rfl rfl ?_)
              intro wd1167 hL
              refine ⟨(hL.sel [1] (by decide) rfl), ?_⟩
              have hS := (hL.sel [1] (by decide) rfl)
              obtain ⟨x1168, ha1169, hm⟩ := bndE hm
              obtain ⟨hz1170, ha1174⟩ := idxE ha1169
              obtain ⟨b1171, q1172, hix1173⟩ := rdL_ix (hL.rdO 0 rfl) hz1170 ha1174
              refine DH.take 16 rfl (by kernel_rfl) (by kernel_rfl) (by kernel_rfl) rfl rfl hS (YH.val (v := (.pointer (some ⟨b1171, q1172, none⟩))) (fun w' hS' => x_ix Try.underlying25 Try_T2 rfl rfl hix1173)) ?_
              refine DH.only 17 rfl (by kernel_rfl) (S_storeX (j := 0) x1151 hL 0 rfl Try_T2 hix1173 ha1174 rfl rfl rfl rfl rfl rfl ?_)
              intro wd1175 hL
              refine ⟨(hL.sel [1] (by decide) rfl), ?_⟩
              refine DH.done (by kernel_rfl) ?_
              refine CW.regionL ?_
              refine OW.cons (OP.val (v := (.int .i64 s_l2.2)) rfl (x_mv f1111) ?_)
              refine OW.cons (OP.val (v := (.int .i64 (w64 (s_l2.2 - 1)))) rfl (x_sub rfl rfl) ?_)
              refine OW.cons (OP.val (v := (.int .i64 (w64 (s_l2.2 - 1)))) rfl (x_assign) ?_)
              refine OW.nil ?_
              obtain rfl := Option.some.inj hm
              exact ⟨_, rfl, ⟨S1067, f1107, f1108, f1109, f1110, rfl, hL⟩⟩
            · refine ⟨_, rfl, ?_⟩
              refine OP.val (v := (.int .i64 x1151)) rfl (x_load1 Try.underlying2 rfl rfl (rdF_cells (hL.rdO 0 rfl) hix1156 ha1157 0 _ rfl)) ?_
              refine ⟨(hL.sel [1] (by decide) rfl), ?_⟩
              refine DH.only 9 rfl (by kernel_rfl) (OP.val (v := (.int .i64 x1144)) rfl (x_load1 Try.underlying2 rfl rfl (rdF_cells (hL.rdO 0 rfl) hix1149 ha1150 0 _ rfl)) ?_)
              refine ⟨(hL.sel [1] (by decide) rfl), ?_⟩
              have hS := (hL.sel [1] (by decide) rfl)
              obtain ⟨x1176, ha1177, hm⟩ := bndE hm
              obtain ⟨hz1178, ha1182⟩ := idxE ha1177
              obtain ⟨b1179, q1180, hix1181⟩ := rdL_ix (hL.rdO 0 rfl) hz1178 ha1182
              refine DH.take 14 rfl (by kernel_rfl) (by kernel_rfl) (by kernel_rfl) rfl rfl hS (YH.val (v := (.pointer (some ⟨b1179, q1180, none⟩))) (fun w' hS' => x_ix Try.underlying25 Try_T2 rfl rfl hix1181)) ?_
              refine DH.only 15 rfl (by kernel_rfl) (S_storeX (j := 0) x1144 hL 0 rfl Try_T2 hix1181 ha1182 rfl rfl rfl rfl rfl rfl ?_)
              intro wd1183 hL
              refine ⟨(hL.sel [1] (by decide) rfl), ?_⟩
              have hS := (hL.sel [1] (by decide) rfl)
              obtain ⟨x1184, ha1185, hm⟩ := bndE hm
              obtain ⟨hz1186, ha1190⟩ := idxE ha1185
              obtain ⟨b1187, q1188, hix1189⟩ := rdL_ix (hL.rdO 0 rfl) hz1186 ha1190
              refine DH.take 16 rfl (by kernel_rfl) (by kernel_rfl) (by kernel_rfl) rfl rfl hS (YH.val (v := (.pointer (some ⟨b1187, q1188, none⟩))) (fun w' hS' => x_ix Try.underlying25 Try_T2 rfl rfl hix1189)) ?_
              refine DH.only 17 rfl (by kernel_rfl) (S_storeX (j := 0) x1151 hL 0 rfl Try_T2 hix1189 ha1190 rfl rfl rfl rfl rfl rfl ?_)
              intro wd1191 hL
              refine ⟨(hL.sel [1] (by decide) rfl), ?_⟩
              refine DH.done (by kernel_rfl) ?_
              refine CW.regionL ?_
              refine OW.cons (OP.val (v := (.int .i64 s_l2.2)) rfl (x_mv f1111) ?_)
              refine OW.cons (OP.val (v := (.int .i64 (w64 (s_l2.2 - 1)))) rfl (x_sub rfl rfl) ?_)
              refine OW.cons (OP.val (v := (.int .i64 (w64 (s_l2.2 - 1)))) rfl (x_assign) ?_)
              refine OW.nil ?_
              obtain rfl := Option.some.inj hm
              exact ⟨_, rfl, ⟨S1067, f1107, f1108, f1109, f1110, rfl, hL⟩⟩
          · refine CW.exit ?_
            refine XJ.hit ?_
            obtain rfl := Option.some.inj hm
            exact ⟨_, rfl, ⟨S1067, f1107, f1108, f1109, f1110, f1111, hL⟩⟩
    · refine CW.exit ?_
      refine XJ.hit ?_
      obtain rfl := Option.some.inj hm
      exact ⟨_, rfl, ⟨S798, f811, f812, f813, f814, hL⟩⟩

theorem M.slices_pdqsortOrdered_int64__ok (w0 : World) {E4 : TypeId} {S2 : Nat → Prop} {v1 : Value} (a0 : List Int) (he3 : (Ent.own E4 S2 v1 a0).H w0) (a1 : Int) (a2 : Int) (a3 : Int) {r : (Unit) × (List Int)} (hm : M.slices_pdqsortOrdered_int64_ a0 a1 a2 a3 = some r) :
    Calls Try.prog 115 #[v1, (.int .i64 a1), (.int .i64 a2), (.int .i64 a3)] w0 fun e w' => ∃ (ioS : Nat → Prop), e = .returned (.tuple #[]) ∧ Mut w0 w' (Ent.own E4 S2 v1 a0).S [Ent.own E4 ioS v1 r.2] := by
  unfold M.slices_pdqsortOrdered_int64_ at hm
  refine calls_CW (args := [v1, (.int .i64 a1), (.int .i64 a2), (.int .i64 a3)]) Try.func115 rfl rfl rfl ?_
  have hL := Hp.startIO he3
  refine CW.seq ?_
  refine CW.regionL ?_
  refine OW.cons (OP.val (v := (.bool true)) rfl (x_assign) ?_)
  refine OW.nil ?_
  refine CW.seq ?_
  refine CW.regionL ?_
  refine OW.cons (OP.val (v := (.bool true)) rfl (x_assign) ?_)
  refine OW.nil ?_
  obtain ⟨o41, ho42, hm⟩ := bndE hm
  refine CW.loopB (fun (s_l1 : Unit) (F : Fr) (w : World) => F 0 = v1 ∧ F 1 = (.int .i64 a1) ∧ F 2 = (.int .i64 a2) ∧ F 3 = (.int .i64 a3) ∧ F 8 = (.bool true) ∧ F 9 = (.bool true) ∧ Hp w0 [Ent.own E4 S2 v1 a0, Ent.frz w0 (Ent.own E4 S2 v1 a0).S] w) (fun o => outc o (fun x => some x) (fun s => M.slices_pdqsortOrdered_int64__a1 a0 s) = some r) ho42 hm ⟨rfl, rfl, rfl, rfl, rfl, rfl, hL⟩ ?_ ?_
  · intro s_l1 F43 wd44 hJ hm
    have hm := outcE hm
    have hm : M.slices_pdqsortOrdered_int64__a1 a0 s_l1 = some r := hm
    unfold M.slices_pdqsortOrdered_int64__a1 at hm
    obtain ⟨f45, f46, f47, f48, f49, f50, hL⟩ := hJ
    obtain rfl := Option.some.inj hm
    exact RR0 rfl  ⟨S2, rfl, hL.mutOut 1 rfl [0] (by decide) (by decide) rfl⟩
  · intro s_l1 F51 wd52 t39 hJ hm hr40
    unfold M.slices_pdqsortOrdered_int64__l1 at hm
    obtain ⟨f53, f54, f55, f56, f57, f58, hL⟩ := hJ
    refine CW.block ?_
    refine CW.seq ?_
    refine CW.regionL ?_
    refine OW.cons (OP.val (v := (.int .i64 a2)) rfl (x_mv f55) ?_)
    refine OW.cons (OP.val (v := (.int .i64 a1)) rfl (x_mv f54) ?_)
    refine OW.cons (OP.val (v := (.int .i64 (w64 (a2 - a1)))) rfl (x_sub rfl rfl) ?_)
    refine OW.cons (OP.val (v := (.int .i64 (w64 (a2 - a1)))) rfl (x_assign) ?_)
    refine OW.nil ?_
    refine CW.seq ?_
    refine CW.seq ?_
    refine CW.regionL ?_
    refine OW.cons (OP.val (v := (.int .i64 (w64 (a2 - a1)))) rfl (x_move) ?_)
    refine OW.cons (OP.val (v := (.bool (decide ((w64 (a2 - a1)) ≤ 12)))) rfl (x_leq rfl rfl) ?_)
    refine OW.nil ?_
    refine CW.condM (t := decide ((w64 (a2 - a1)) ≤ 12)) rfl hm (fun hb76 hm => ?_) (fun hb76 hm => ?_)
    · refine CW.seq ?_
      refine CW.regionL ?_
      refine OW.cons (OP.val (v := v1) rfl (x_mv f53) ?_)
      refine OW.cons (OP.val (v := (.int .i64 a1)) rfl (x_mv f54) ?_)
      refine OW.cons (OP.val (v := (.int .i64 a2)) rfl (x_mv f55) ?_)
      obtain ⟨x77, hx78, hm⟩ := bndE hm
      refine OW.cons (OP.call rfl (x_call (vs := [v1, (.int .i64 a1), (.int .i64 a2)]) Try_C124 ⟨rfl, rfl, rfl, trivial⟩) (M.slices_insertionSortOrdered_int64__ok _ a0 (hL.get 0 rfl) a1 a2 hx78) ?_)
      rintro e79 wd80 ⟨S82, rfl, hF81⟩
      refine ⟨_, rfl, ?_⟩
      have hL := hL.mut 0 rfl hF81
      simp only [lA, lB, lC, lD] at hL
      refine OW.nil ?_
      refine CW.ret ?_
      obtain rfl := Option.some.inj hm
      have hm := hr40 _ rfl
      obtain rfl := Option.some.inj hm
      exact RR0 rfl  ⟨S82, rfl, hL.mutOut 1 rfl [0] (by decide) (by decide) rfl⟩
    · refine CW.skip ?_
      refine CW.seq ?_
      refine CW.seq ?_
      refine CW.regionL ?_
      refine OW.cons (OP.val (v := (.int .i64 a3)) rfl (x_mv f56) ?_)
      refine OW.cons (OP.val (v := (.bool (a3 == 0))) rfl (x_eql rfl rfl) ?_)
      refine OW.nil ?_
      refine CW.condM (t := a3 == 0) rfl hm (fun hb83 hm => ?_) (fun hb83 hm => ?_)
      · refine CW.seq ?_
        refine CW.regionL ?_
        refine OW.cons (OP.val (v := v1) rfl (x_mv f53) ?_)
        refine OW.cons (OP.val (v := (.int .i64 a1)) rfl (x_mv f54) ?_)
        refine OW.cons (OP.val (v := (.int .i64 a2)) rfl (x_mv f55) ?_)
        exact nomatch hm
      · refine CW.skip ?_
        refine CW.seqJ (fun (s_j1 : Unit) (F : Fr) (w : World) => F 0 = v1 ∧ F 1 = (.int .i64 a1) ∧ F 2 = (.int .i64 a2) ∧ F 3 = (.int .i64 a3) ∧ F 8 = (.bool true) ∧ F 9 = (.bool true) ∧ F 10 = (.int .i64 (w64 (a2 - a1))) ∧ Hp w0 [Ent.own E4 S2 v1 a0, Ent.frz w0 (Ent.own E4 S2 v1 a0).S] w) (fun s_j1 => M.slices_pdqsortOrdered_int64__j1 s_j1 = some t39) ?_ ?_
        · refine CW.seq ?_
          refine CW.regionL ?_
          refine OW.cons (OP.val (v := (.bool true)) rfl (x_mv f57) ?_)
          refine OW.cons (OP.val (v := (.bool false)) rfl (x_not (b := true) rfl) ?_)
          refine OW.nil ?_
          refine CW.condF rfl rfl ?_
          refine CW.skip ?_
          exact ⟨(), hm, ⟨f53, f54, f55, f56, f57, f58, rfl, hL⟩⟩
        · intro s_j1 F84 wd85 hJ hm
          unfold M.slices_pdqsortOrdered_int64__j1 at hm
          obtain ⟨f86, f87, f88, f89, f90, f91, f92, hL⟩ := hJ
          refine CW.seq ?_
          refine CW.regionL ?_
          refine OW.cons (OP.val (v := v1) rfl (x_mv f86) ?_)
          refine OW.cons (OP.val (v := (.int .i64 a1)) rfl (x_mv f87) ?_)
          refine OW.cons (OP.val (v := (.int .i64 a2)) rfl (x_mv f88) ?_)
          exact nomatch hm

theorem M.slices_Sort___int64_int64__ok (w0 : World) {E4 : TypeId} {S2 : Nat → Prop} {v1 : Value} (a0 : List Int) (he3 : (Ent.own E4 S2 v1 a0).H w0) {r : (Unit) × (List Int)} (hm : M.slices_Sort___int64_int64_ a0 = some r) :
    Calls Try.prog 107 #[v1] w0 fun e w' => ∃ (ioS : Nat → Prop), e = .returned (.tuple #[]) ∧ Mut w0 w' (Ent.own E4 S2 v1 a0).S [Ent.own E4 ioS v1 r.2] := by
  unfold M.slices_Sort___int64_int64_ at hm
  refine calls_CW (args := [v1]) Try.func107 rfl rfl rfl ?_
  have hL := Hp.startIO he3
  refine CW.seq ?_
  refine CW.regionL ?_
  refine OW.cons (OP.val (v := v1) rfl (x_move) ?_)
  refine OW.cons (OP.val (v := (.int .i64 (a0.length : Int))) rfl (x_lenR Try.underlying25 rfl (hL.rdO 0 rfl)) ?_)
  refine OW.cons (OP.val (v := (.int .i64 (a0.length : Int))) rfl (x_assign) ?_)
  refine OW.nil ?_
  refine CW.regionL ?_
  refine OW.cons (OP.val (v := v1) rfl (x_move) ?_)
  refine OW.cons (OP.val (v := (.int .i64 (a0.length : Int))) rfl (x_move) ?_)
  refine OW.cons (OP.val (v := (.int .i64 (a0.length : Int))) rfl (x_move) ?_)
  refine OW.cons (OP.val (v := (.int .u64 (IntKind.u64.wrap (a0.length : Int)))) rfl (x_conv Try.underlying3 Try.underlying108 rfl) ?_)
  obtain ⟨x5, hx6, hm⟩ := bndE hm
  refine OW.cons (OP.call rfl (x_call (vs := [(.int .u64 (IntKind.u64.wrap (a0.length : Int)))]) Try_C116 ⟨rfl, trivial⟩) (M.math_bits_Len_ok _ (IntKind.u64.wrap (a0.length : Int)) hx6) ?_)
  rintro e7 wd8 ⟨rfl, hF9⟩
  refine ⟨_, rfl, ?_⟩
  have hL := hL.pushAll hF9
  simp only [lA, lB, lC, lD] at hL
  obtain ⟨x10, hx11, hm⟩ := bndE hm
  refine OW.cons (OP.call rfl (x_call (vs := [v1, (.int .i64 0), (.int .i64 (a0.length : Int)), (.int .i64 x5)]) Try_C115 ⟨rfl, rfl, rfl, rfl, trivial⟩) (M.slices_pdqsortOrdered_int64__ok _ a0 (hL.get 0 rfl) 0 (a0.length : Int) x5 hx11) ?_)
  rintro e12 wd13 ⟨S15, rfl, hF14⟩
  refine ⟨_, rfl, ?_⟩
  have hL := hL.mut 0 rfl hF14
  simp only [lA, lB, lC, lD] at hL
  refine OW.nil ?_
  obtain rfl := Option.some.inj hm
  exact RR0 rfl  ⟨S15, rfl, hL.mutOut 1 rfl [0] (by decide) (by decide) rfl⟩

theorem M.impl_discardsOf_ok (w0 : World) (a0 : Table) {v1 : Value} {v3 : Value} (h2 : rdL (· < w0.heap.size) w0 v1 a0.Points) (h4 : rdL (· < w0.heap.size) w0 v3 a0.Codes) (a1 : List Int) {v5 : Value} (h6 : rdL (· < w0.heap.size) w0 v5 a1) (a2 : Int) {r : (List Int)} (hm : M.impl_discardsOf a0 a1 a2 = some r) :
    Calls Try.prog 78 #[(.agg #[(.int .i64 a0.Boats), v1, v3]), v5, (.int .i64 a2)] w0 fun e w' => ∃ (rv0 : Value) (rS0 : Nat → Prop), e = .returned rv0 ∧ Fresh w0 w' [Ent.own 2 rS0 rv0 r] := by
  unfold M.impl_discardsOf at hm
  refine calls_CW (args := [(.agg #[(.int .i64 a0.Boats), v1, v3]), v5, (.int .i64 a2)]) Try.func78 rfl rfl rfl ?_
  have hL := Hp.start w0
  refine CW.seq ?_
  refine CW.regionL ?_
  refine OW.cons (S_box (cs := #[(.int .i64 a0.Boats), v1, v3]) hL rfl rfl rfl ?_)
  intro wd7 b8 hL
  refine OW.cons (S_box (cs := #[(.int .i64 a2)]) hL rfl rfl rfl ?_)
  intro wd9 b10 hL
  refine OW.cons (OP.val (v := (.slice none 0 0)) rfl (x_assign) ?_)
  refine OW.nil ?_
  refine CW.seq ?_
  refine CW.regionL ?_
  refine OW.cons (S_lit ([] : List Int) hL Try.underlying25 Try_T2 rfl (by decide) (by first | (simp [Instr.fill, madeCells, Value.cells, ev, upd, Flat.enc, Flat.sz]; done) | rfl | kernel_rfl) rfl rfl ?_)
  intro wd11 v12 S13 hL
  refine OW.cons (OP.val (v := v5) rfl (x_move) ?_)
  refine OW.cons (OP.val (v := (.pointer (some ⟨b8, 1, none⟩))) rfl (x_fieldAddr (fsz := 1) 0 1 1 Try.underlying29 rfl Try_T22 rfl rfl rfl) ?_)
  refine OW.cons (OP.val (v := v1) rfl (x_load1 Try.underlying22 rfl rfl (hL.cellB 2 rfl rfl)) ?_)
  refine OW.cons (OP.val (v := (.int .i64 (a0.Points.length : Int))) rfl (x_lenR Try.underlying22 rfl (hL.rdS 3 rfl h2)) ?_)
  obtain ⟨x14, hx15, hm⟩ := bndE hm
  refine OW.cons (OP.call rfl (x_call (vs := [v5, (.int .i64 (a0.Points.length : Int))]) Try_C82 ⟨rfl, rfl, trivial⟩) (M.impl_discardCount_ok _ a1 (hL.rdS 3 rfl h6) (a0.Points.length : Int) hx15) ?_)
  rintro e16 wd17 ⟨rfl, hF18⟩
  refine ⟨_, rfl, ?_⟩
  have hL := hL.pushAll hF18
  simp only [lA, lB, lC, lD] at hL
  refine OW.cons (OP.val (v := v12) rfl (x_assign) ?_)
  refine OW.cons (OP.val (v := (.int .i64 x14)) rfl (x_assign) ?_)
  refine OW.nil ?_
  refine CW.seq ?_
  refine CW.seq ?_
  refine CW.regionL ?_
  refine OW.cons (OP.val (v := (.pointer (some ⟨b8, 1, none⟩))) rfl (x_fieldAddr (fsz := 1) 0 1 1 Try.underlying29 rfl Try_T22 rfl rfl rfl) ?_)
  refine OW.cons (OP.val (v := v1) rfl (x_load1 Try.underlying22 rfl rfl (hL.cellB 2 rfl rfl)) ?_)
  refine OW.cons (OP.val (v := (.int .i64 (a0.Points.length : Int))) rfl (x_lenR Try.underlying22 rfl (hL.rdS 3 rfl h2)) ?_)
  refine OW.cons (OP.val (v := (.func (.func 106) #[] #[(.pointer (some ⟨b8, 0, none⟩)), (.pointer (some ⟨b10, 0, none⟩))])) rfl (x_makeFunc (vs := [(.pointer (some ⟨b8, 0, none⟩)), (.pointer (some ⟨b10, 0, none⟩))]) ⟨rfl, rfl, trivial⟩) ?_)
  obtain ⟨x19, hx20, hm⟩ := bndE hm
  refine OW.cons (OP.call rfl (x_call (vs := [(.int .i64 (a0.Points.length : Int)), (.func (.func 106) #[] #[(.pointer (some ⟨b8, 0, none⟩)), (.pointer (some ⟨b10, 0, none⟩))])]) Try_C73 ⟨rfl, rfl, trivial⟩) (M.impl_sortedIndices_ok _ (a0.Points.length : Int) (fun y0 y1 => M.impl_discardsOf_1 y0 y1 a0 a2) ⟨Try_C106, fun yw hag yvs yv hR => by obtain ⟨y0, y1, yr, rfl, hyf, rfl⟩ := hR; exact M.impl_discardsOf_1_ok yw y0 y1 a0 (hag.rdL (hL.rdS 3 rfl h2)) (hag.rdL (hL.rdS 3 rfl h4)) (hag.bx (hL.bxB 2 rfl)) a2 (hag.bx (hL.bxB 1 rfl)) hyf⟩ hx20) ?_)
  rintro e23 wd24 ⟨v22, S21, rfl, hF25⟩
  refine ⟨_, rfl, ?_⟩
  have hL := hL.pushAll hF25
  simp only [lA, lB, lC, lD] at hL
  refine OW.cons (OP.val (v := (.int .i64 (x19.length : Int))) rfl (x_lenR Try.underlying25 rfl (hL.rdO 0 rfl)) ?_)
  refine OW.cons (OP.val (v := (.int .i64 0)) rfl (x_move) ?_)
  refine OW.nil ?_
  obtain ⟨o644, ho645, hm⟩ := bndE hm
  have hL := hL.sel [1, 0, 2, 3, 4] (by decide) rfl
  refine CW.loopB (fun (s_l1 : (List Int) × Int × Int) (F : Fr) (w : World) => ∃ (v640 : Value) (S641 : Nat → Prop), F 3 = (.pointer (some ⟨b8, 0, none⟩)) ∧ F 5 = (.pointer (some ⟨b10, 0, none⟩)) ∧ F 7 = v640 ∧ F 8 = (.int .i64 s_l1.2.1) ∧ F 21 = v22 ∧ F 22 = (.int .i64 (x19.length : Int)) ∧ F 23 = (.int .i64 s_l1.2.2) ∧ Hp w0 [Ent.own 2 S641 v640 s_l1.1, Ent.own 2 S21 v22 x19, Ent.blk b10 2 #[(.int .i64 a2)], Ent.blk b8 29 #[(.int .i64 a0.Boats), v1, v3], Ent.snap w0 w0.heap.size] w) (fun o => outc o (fun x => some x) (fun s => M.impl_discardsOf_a1 s) = some r) ho645 hm ⟨v12, S13, rfl, rfl, rfl, rfl, rfl, rfl, rfl, hL⟩ ?_ ?_
  · intro s_l1 F646 wd647 hJ hm
    have hm := outcE hm
    have hm : M.impl_discardsOf_a1 s_l1 = some r := hm
    unfold M.impl_discardsOf_a1 at hm
    obtain ⟨v640, S641, f648, f649, f650, f651, f652, f653, f654, hL⟩ := hJ
    refine CW.seq ?_
    refine CW.regionL ?_
    refine OW.cons (OP.val (v := v640) rfl (x_mv f650) ?_)
    obtain ⟨x655, hx656, hm⟩ := bndE hm
    refine OW.cons (OP.call rfl (x_call (vs := [v640]) Try_C107 ⟨rfl, trivial⟩) (M.slices_Sort___int64_int64__ok _ s_l1.1 (hL.get 0 rfl) hx656) ?_)
    rintro e657 wd658 ⟨S660, rfl, hF659⟩
    refine ⟨_, rfl, ?_⟩
    have hL := hL.mut 0 rfl hF659
    simp only [lA, lB, lC, lD] at hL
    refine OW.nil ?_
    refine CW.seq ?_
    refine CW.regionL ?_
    refine OW.cons (OP.val (v := v640) rfl (x_mv f650) ?_)
    refine OW.cons (OP.val (v := v640) rfl (x_assign) ?_)
    refine OW.nil ?_
    refine CW.ret ?_
    obtain rfl := Option.some.inj hm
    exact RR1 rfl rfl ⟨v640, S660, rfl, hL.fresh 4 rfl [0] (by decide) (by decide) rfl⟩
  · intro s_l1 F661 wd662 t642 hJ hm hr643
    unfold M.impl_discardsOf_l1 at hm
    obtain ⟨v640, S641, f663, f664, f665, f666, f667, f668, f669, hL⟩ := hJ
    refine CW.seq ?_
    refine CW.regionL ?_
    refine OW.cons (OP.val (v := (.bool (decide (s_l1.2.2 < (x19.length : Int))))) rfl (x_lss f669 f668) ?_)
    refine OW.nil ?_
    refine CW.seq ?_
    refine CW.condM (t := decide (s_l1.2.2 < (x19.length : Int))) rfl hm (fun hb670 hm => ?_) (fun hb670 hm => ?_)
    · refine CW.skip ?_
      refine CW.seqJ (fun (s_j1 : (List Int) × Int) (F : Fr) (w : World) => ∃ (v818 : Value) (S819 : Nat → Prop), F 3 = (.pointer (some ⟨b8, 0, none⟩)) ∧ F 5 = (.pointer (some ⟨b10, 0, none⟩)) ∧ F 7 = v818 ∧ F 8 = (.int .i64 s_j1.2) ∧ F 21 = v22 ∧ F 22 = (.int .i64 (x19.length : Int)) ∧ F 23 = (.int .i64 s_l1.2.2) ∧ Hp w0 [Ent.own 2 S819 v818 s_j1.1, Ent.own 2 S21 v22 x19, Ent.blk b10 2 #[(.int .i64 a2)], Ent.blk b8 29 #[(.int .i64 a0.Boats), v1, v3], Ent.snap w0 w0.heap.size] w) (fun s_j1 => M.impl_discardsOf_j1 s_l1 s_j1 = some t642) ?_ ?_
      · refine CW.blockJ (fun (s_j2 : (List Int) × Int) (F : Fr) (w : World) => ∃ (v897 : Value) (S898 : Nat → Prop), F 3 = (.pointer (some ⟨b8, 0, none⟩)) ∧ F 5 = (.pointer (some ⟨b10, 0, none⟩)) ∧ F 7 = v897 ∧ F 8 = (.int .i64 s_j2.2) ∧ F 21 = v22 ∧ F 22 = (.int .i64 (x19.length : Int)) ∧ F 23 = (.int .i64 s_l1.2.2) ∧ Hp w0 [Ent.own 2 S898 v897 s_j2.1, Ent.own 2 S21 v22 x19, Ent.blk b10 2 #[(.int .i64 a2)], Ent.blk b8 29 #[(.int .i64 a0.Boats), v1, v3], Ent.snap w0 w0.heap.size] w) (fun s_j2 => M.impl_discardsOf_j2 s_l1 s_j2 = some t642) ?_ ?_
        · refine CW.seq ?_
          refine CW.regionL ?_
          obtain ⟨x908, ha909, hm⟩ := bndE hm
          obtain ⟨hz910, ha914⟩ := idxE ha909
          obtain ⟨b911, q912, hix913⟩ := rdL_ix (hL.rdO 1 rfl) hz910 ha914
          refine OW.cons (OP.val (v := (.pointer (some ⟨b911, q912, none⟩))) rfl (x_ix Try.underlying25 Try_T2 f667 f669 hix913) ?_)
          refine OW.cons (OP.val (v := (.int .i64 x908)) rfl (x_load1 Try.underlying2 rfl rfl (rdF_cells (hL.rdO 1 rfl) hix913 ha914 0 _ rfl)) ?_)
          refine OW.cons (OP.val (v := (.int .i64 x908)) rfl (x_assign) ?_)
          refine OW.nil ?_
          refine CW.seqJ (fun (s_j3 : Bool) (F : Fr) (w : World) => F 3 = (.pointer (some ⟨b8, 0, none⟩)) ∧ F 5 = (.pointer (some ⟨b10, 0, none⟩)) ∧ F 7 = v640 ∧ F 8 = (.int .i64 s_l1.2.1) ∧ F 10 = (.int .i64 x908) ∧ F 21 = v22 ∧ F 22 = (.int .i64 (x19.length : Int)) ∧ F 23 = (.int .i64 s_l1.2.2) ∧ F 39 = (.bool s_j3) ∧ Hp w0 [Ent.own 2 S641 v640 s_l1.1, Ent.own 2 S21 v22 x19, Ent.blk b10 2 #[(.int .i64 a2)], Ent.blk b8 29 #[(.int .i64 a0.Boats), v1, v3], Ent.snap w0 w0.heap.size] w) (fun s_j3 => M.impl_discardsOf_j3 s_l1 x908 s_j3 = some t642) ?_ ?_
          · refine CW.draw Try_mixed ?_
            have hL := hL.call (Mod.drew _)
            refine DW.pre (fuel := 0) (fin := ((((((((((((((Array.replicate 13 false).setIfInBounds 0 true).setIfInBounds 1 true).setIfInBounds 2 true).setIfInBounds 3 true).setIfInBounds 4 true).setIfInBounds 5 true).setIfInBounds 6 true).setIfInBounds 7 true).setIfInBounds 8 true).setIfInBounds 9 true).setIfInBounds 10 true).setIfInBounds 11 true).setIfInBounds 12 true)) (C := fun w' => Mod None_ _ w') [0, 1, 2, 3, 4, 5, 6, 7, 8, 9, 10, 11, 12] (Mod.refl _ _) (by kernel_rfl) (by kernel_rfl) ?_
            refine QW.cons rfl (QP.val (v := (.int .i64 s_l1.2.1)) rfl (fun w' hm' => x_mv f666) ?_)
            refine QW.cons rfl (QP.val (v := (.bool (decide (0 < s_l1.2.1)))) rfl (fun w' hm' => x_gtr rfl rfl) ?_)
            refine QW.cons rfl (QP.val (v := (.bool (decide (0 < s_l1.2.1)))) rfl (fun w' hm' => x_move) ?_)
            refine ifB_elim hm (fun hb955 hm => ?_) (fun hb955 hm => ?_)
            · refine QW.cons rfl (QP.yes' rfl rfl hb955 (QP.val (v := (.pointer (some ⟨b8, 2, none⟩))) rfl (fun w' hm' => x_fieldAddr (fsz := 1) 0 2 2 Try.underlying29 rfl Try_T22 rfl f663 rfl) ?_))
              refine QW.cons rfl (QP.yes' rfl rfl hb955 (QP.val (v := v3) rfl (fun w' hm' => x_load1 Try.underlying22 rfl rfl ((hL.call hm').cellB 3 rfl rfl)) ?_))
              refine QW.cons rfl (QP.yes' rfl rfl hb955 (QP.val (v := (.int .i64 x908)) rfl (fun w' hm' => x_move) ?_))
              obtain ⟨x956, ha957, hm⟩ := bndE hm
              obtain ⟨hz958, ha966⟩ := idxE ha957
              obtain ⟨b959, q960, v961, hix962, hs963, hc964, hr965⟩ := rdN_at h4 hz958 ha966
              refine QW.cons rfl (QP.yes' rfl rfl hb955 (QP.val (v := (.pointer (some ⟨b959, q960, none⟩))) rfl (fun w' hm' => x_ix Try.underlying22 Try_T25 rfl rfl hix962) ?_))
              refine QW.cons rfl (QP.yes' rfl rfl hb955 (QP.val (v := v961) rfl (fun w' hm' => x_load1 Try.underlying25 rfl rfl ((hL.call hm').cellS 4 rfl hs963 hc964)) ?_))
              refine QW.cons rfl (QP.yes' rfl rfl hb955 (QP.val (v := (.int .i64 a2)) rfl (fun w' hm' => x_load1 Try.underlying2 rfl f664 ((hL.call hm').cellB 2 rfl rfl)) ?_))
              obtain ⟨x967, ha968, hm⟩ := bndE hm
              obtain ⟨hz969, ha973⟩ := idxE ha968
              obtain ⟨b970, q971, hix972⟩ := rdL_ix (hL.rdS 4 rfl hr965) hz969 ha973
              refine QW.cons rfl (QP.yes' rfl rfl hb955 (QP.val (v := (.pointer (some ⟨b970, q971, none⟩))) rfl (fun w' hm' => x_ix Try.underlying25 Try_T2 rfl rfl hix972) ?_))
              refine QW.cons rfl (QP.yes' rfl rfl hb955 (QP.val (v := (.int .i64 x967)) rfl (fun w' hm' => x_load1 Try.underlying2 rfl rfl (rdF_cells ((hL.call hm').rdS 4 rfl hr965) hix972 ha973 0 _ rfl)) ?_))
              refine QW.cons rfl (QP.yes' rfl rfl hb955 (QP.val (v := (.bool (x967 != 7))) rfl (fun w' hm' => x_neq rfl rfl) ?_))
              refine QW.cons rfl (QP.val (v := (.bool (x967 != 7))) rfl (fun w' hm' => x_pickT' rfl hb955 rfl) ?_)
              refine QW.nil ?_
              intro wd974 hmod
              have hL := hL.call hmod
              refine DW.done (by kernel_rfl) ?_
              exact ⟨x967 != 7, hm, ⟨f663, f664, f665, f666, rfl, f667, f668, f669, rfl, hL⟩⟩
            · refine QW.cons rfl (QP.no' rfl rfl hb955 rfl ?_)
              refine QW.cons rfl (QP.no' rfl rfl hb955 rfl ?_)
              refine QW.cons rfl (QP.no' rfl rfl hb955 rfl ?_)
              refine QW.cons rfl (QP.no' rfl rfl hb955 rfl ?_)
              refine QW.cons rfl (QP.no' rfl rfl hb955 rfl ?_)
              refine QW.cons rfl (QP.no' rfl rfl hb955 rfl ?_)
              refine QW.cons rfl (QP.no' rfl rfl hb955 rfl ?_)
              refine QW.cons rfl (QP.no' rfl rfl hb955 rfl ?_)
              refine QW.cons rfl (QP.no' rfl rfl hb955 rfl ?_)
              refine QW.cons rfl (QP.val (v := (.bool false)) rfl (fun w' hm' => x_pickF' rfl hb955 rfl) ?_)
              refine QW.nil ?_
              intro wd975 hmod
              have hL := hL.call hmod
              refine DW.done (by kernel_rfl) ?_
              exact ⟨false, hm, ⟨f663, f664, f665, f666, rfl, f667, f668, f669, rfl, hL⟩⟩
          · intro s_j3 F936 wd937 hJ hm
            unfold M.impl_discardsOf_j3 at hm
            obtain ⟨f938, f939, f940, f941, f942, f943, f944, f945, f946, hL⟩ := hJ
            refine CW.condM (t := s_j3) f946 hm (fun hb947 hm => ?_) (fun hb947 hm => ?_)
            · refine CW.seq ?_
              refine CW.regionL ?_
              refine OW.cons (OP.val (v := v640) rfl (x_mv f940) ?_)
              refine OW.cons (OP.val (v := (.int .i64 x908)) rfl (x_mv f942) ?_)
              refine OW.cons (S_lit ([x908] : List Int) hL Try.underlying25 Try_T2 rfl (by decide) (by first | (simp [Instr.fill, madeCells, Value.cells, ev, upd, Flat.enc, Flat.sz]; done) | rfl | kernel_rfl) rfl rfl ?_)
              intro wd948 v949 S950 hL
              obtain ⟨hc954, hm⟩ := chkE hm
              refine OW.cons (S_append (ys := ([x908] : List Int)) hL 1 rfl Try.underlying25 Try_T2 rfl rfl rfl (hL.rdO 0 rfl) hc954 (by decide) rfl ?_)
              intro wd951 v952 S953 hL
              refine OW.cons (OP.val (v := v952) rfl (x_assign) ?_)
              refine OW.nil ?_
              refine CW.regionL ?_
              refine OW.cons (OP.val (v := (.int .i64 s_l1.2.1)) rfl (x_mv f941) ?_)
              refine OW.cons (OP.val (v := (.int .i64 (w64 (s_l1.2.1 - 1)))) rfl (x_sub rfl rfl) ?_)
              refine OW.cons (OP.val (v := (.int .i64 (w64 (s_l1.2.1 - 1)))) rfl (x_assign) ?_)
              refine OW.nil ?_
              have hL := hL.sel [1, 2, 3, 4, 5] (by decide) rfl
              exact ⟨(s_l1.1 ++ ([x908] : List Int), w64 (s_l1.2.1 - 1)), hm, ⟨v952, S953, f938, f939, rfl, rfl, f943, f944, f945, hL⟩⟩
            · refine CW.skip ?_
              exact ⟨(s_l1.1, s_l1.2.1), hm, ⟨v640, S641, f938, f939, f940, f941, f943, f944, f945, hL⟩⟩
        · intro s_j2 F899 wd900 hJ hm
          unfold M.impl_discardsOf_j2 at hm
          obtain ⟨v897, S898, f901, f902, f903, f904, f905, f906, f907, hL⟩ := hJ
          exact ⟨(s_j2.1, s_j2.2), hm, ⟨v897, S898, f901, f902, f903, f904, f905, f906, f907, hL⟩⟩
      · intro s_j1 F820 wd821 hJ hm
        unfold M.impl_discardsOf_j1 at hm
        obtain ⟨v818, S819, f822, f823, f824, f825, f826, f827, f828, hL⟩ := hJ
        refine CW.regionL ?_
        refine OW.cons (OP.val (v := (.int .i64 (w64 (s_l1.2.2 + 1)))) rfl (x_add f828 rfl) ?_)
        refine OW.cons (OP.val (v := (.int .i64 (w64 (s_l1.2.2 + 1)))) rfl (x_move) ?_)
        refine OW.nil ?_
        obtain rfl := Option.some.inj hm
        exact ⟨_, rfl, ⟨v818, S819, f822, f823, f824, f825, f826, f827, rfl, hL⟩⟩
    · refine CW.exit ?_
      refine XJ.hit ?_
      obtain rfl := Option.some.inj hm
      exact ⟨_, rfl, ⟨v640, S641, f663, f664, f665, f666, f667, f668, f669, hL⟩⟩

theorem M.slices_Index___int64_int64__ok (w0 : World) (a0 : List Int) {v1 : Value} (h2 : rdL (· < w0.heap.size) w0 v1 a0) (a1 : Int) {r : Int} (hm : M.slices_Index___int64_int64_ a0 a1 = some r) :
    Calls Try.prog 117 #[v1, (.int .i64 a1)] w0 fun e w' => e = .returned (.int .i64 r) ∧ Fresh w0 w' [] := by
  unfold M.slices_Index___int64_int64_ at hm
  refine calls_CW (args := [v1, (.int .i64 a1)]) Try.func117 rfl rfl rfl ?_
  have hL := Hp.start w0
  refine CW.seq ?_
  refine CW.regionL ?_
  refine OW.cons (OP.val (v := (.int .i64 0)) rfl (x_assign) ?_)
  refine OW.nil ?_
  refine CW.seq ?_
  refine CW.seq ?_
  refine CW.regionL ?_
  refine OW.cons (OP.val (v := v1) rfl (x_move) ?_)
  refine OW.cons (OP.val (v := (.int .i64 (a0.length : Int))) rfl (x_lenR Try.underlying25 rfl (hL.rdS 0 rfl h2)) ?_)
  refine OW.cons (OP.val (v := (.int .i64 0)) rfl (x_move) ?_)
  refine OW.nil ?_
  obtain ⟨o23, ho24, hm⟩ := bndE hm
  refine CW.loopB (fun (s_l1 : Int) (F : Fr) (w : World) => F 0 = v1 ∧ F 1 = (.int .i64 a1) ∧ F 7 = (.int .i64 (a0.length : Int)) ∧ F 8 = (.int .i64 s_l1) ∧ Hp w0 [Ent.snap w0 w0.heap.size] w) (fun o => outc o (fun x => some x) (fun s => M.slices_Index___int64_int64__a1 s) = some r) ho24 hm ⟨rfl, rfl, rfl, rfl, hL⟩ ?_ ?_
  · intro s_l1 F25 wd26 hJ hm
    have hm := outcE hm
    have hm : M.slices_Index___int64_int64__a1 s_l1 = some r := hm
    unfold M.slices_Index___int64_int64__a1 at hm
    obtain ⟨f27, f28, f29, f30, hL⟩ := hJ
    refine CW.seq ?_
    refine CW.regionL ?_
    refine OW.cons (OP.val (v := (.int .i64 (-1))) rfl (x_assign) ?_)
    refine OW.nil ?_
    refine CW.ret ?_
    obtain rfl := Option.some.inj hm
    exact RR1 rfl rfl ⟨rfl, hL.fresh 0 rfl [] (by decide) (by decide) rfl⟩
  · intro s_l1 F31 wd32 t21 hJ hm hr22
    unfold M.slices_Index___int64_int64__l1 at hm
    obtain ⟨f33, f34, f35, f36, hL⟩ := hJ
    refine CW.seq ?_
    refine CW.regionL ?_
    refine OW.cons (OP.val (v := (.bool (decide (s_l1 < (a0.length : Int))))) rfl (x_lss f36 f35) ?_)
    refine OW.nil ?_
    refine CW.seq ?_
    refine CW.condM (t := decide (s_l1 < (a0.length : Int))) rfl hm (fun hb37 hm => ?_) (fun hb37 hm => ?_)
    · refine CW.skip ?_
      refine CW.seq ?_
      refine CW.block ?_
      refine CW.seq ?_
      refine CW.regionL ?_
      refine OW.cons (OP.val (v := (.int .i64 s_l1)) rfl (x_mv f36) ?_)
      refine OW.cons (OP.val (v := (.int .i64 s_l1)) rfl (x_assign) ?_)
      refine OW.nil ?_
      refine CW.seq ?_
      refine CW.regionL ?_
      refine OW.cons (OP.val (v := (.int .i64 a1)) rfl (x_mv f34) ?_)
      refine OW.cons (OP.val (v := v1) rfl (x_mv f33) ?_)
      refine OW.cons (OP.val (v := (.int .i64 s_l1)) rfl (x_move) ?_)
      obtain ⟨x38, ha39, hm⟩ := bndE hm
      obtain ⟨hz40, ha44⟩ := idxE ha39
      obtain ⟨b41, q42, hix43⟩ := rdL_ix (hL.rdS 0 rfl h2) hz40 ha44
      refine OW.cons (OP.val (v := (.pointer (some ⟨b41, q42, none⟩))) rfl (x_ix Try.underlying25 Try_T2 rfl rfl hix43) ?_)
      refine OW.cons (OP.val (v := (.int .i64 x38)) rfl (x_load1 Try.underlying2 rfl rfl (rdF_cells (hL.rdS 0 rfl h2) hix43 ha44 0 _ rfl)) ?_)
      refine OW.cons (OP.val (v := (.bool (a1 == x38))) rfl (x_eql rfl rfl) ?_)
      refine OW.nil ?_
      refine CW.condM (t := a1 == x38) rfl hm (fun hb45 hm => ?_) (fun hb45 hm => ?_)
      · refine CW.seq ?_
        refine CW.regionL ?_
        refine OW.cons (OP.val (v := (.int .i64 s_l1)) rfl (x_move) ?_)
        refine OW.cons (OP.val (v := (.int .i64 s_l1)) rfl (x_assign) ?_)
        refine OW.nil ?_
        refine CW.ret ?_
        obtain rfl := Option.some.inj hm
        have hm := hr22 _ rfl
        obtain rfl := Option.some.inj hm
        exact RR1 rfl rfl ⟨rfl, hL.fresh 0 rfl [] (by decide) (by decide) rfl⟩
      · refine CW.skip ?_
        refine CW.regionL ?_
        refine OW.cons (OP.val (v := (.int .i64 (w64 (s_l1 + 1)))) rfl (x_add f36 rfl) ?_)
        refine OW.cons (OP.val (v := (.int .i64 (w64 (s_l1 + 1)))) rfl (x_move) ?_)
        refine OW.nil ?_
        obtain rfl := Option.some.inj hm
        exact ⟨_, rfl, ⟨f33, f34, f35, rfl, hL⟩⟩
    · refine CW.exit ?_
      refine XJ.hit ?_
      obtain rfl := Option.some.inj hm
      exact ⟨_, rfl, ⟨f33, f34, f35, f36, hL⟩⟩

theorem M.slices_Contains___int64_int64__ok (w0 : World) (a0 : List Int) {v1 : Value} (h2 : rdL (· < w0.heap.size) w0 v1 a0) (a1 : Int) {r : Bool} (hm : M.slices_Contains___int64_int64_ a0 a1 = some r) :
    Calls Try.prog 108 #[v1, (.int .i64 a1)] w0 fun e w' => e = .returned (.bool r) ∧ Fresh w0 w' [] := by
  unfold M.slices_Contains___int64_int64_ at hm
  refine calls_CW (args := [v1, (.int .i64 a1)]) Try.func108 rfl rfl rfl ?_
  have hL := Hp.start w0
  refine CW.seq ?_
  refine CW.regionL ?_
  refine OW.cons (OP.val (v := (.bool false)) rfl (x_assign) ?_)
  refine OW.nil ?_
  refine CW.seq ?_
  refine CW.regionL ?_
  refine OW.cons (OP.val (v := v1) rfl (x_move) ?_)
  refine OW.cons (OP.val (v := (.int .i64 a1)) rfl (x_move) ?_)
  obtain ⟨x3, hx4, hm⟩ := bndE hm
  refine OW.cons (OP.call rfl (x_call (vs := [v1, (.int .i64 a1)]) Try_C117 ⟨rfl, rfl, trivial⟩) (M.slices_Index___int64_int64__ok _ a0 (hL.rdS 0 rfl h2) a1 hx4) ?_)
  rintro e5 wd6 ⟨rfl, hF7⟩
  refine ⟨_, rfl, ?_⟩
  have hL := hL.pushAll hF7
  simp only [lA, lB, lC, lD] at hL
  refine OW.cons (OP.val (v := (.bool (decide (0 ≤ x3)))) rfl (x_geq rfl rfl) ?_)
  refine OW.cons (OP.val (v := (.bool (decide (0 ≤ x3)))) rfl (x_assign) ?_)
  refine OW.nil ?_
  refine CW.ret ?_
  obtain rfl := Option.some.inj hm
  exact RR1 rfl rfl ⟨rfl, hL.fresh 0 rfl [] (by decide) (by decide) rfl⟩

theorem M.impl_countedPoints_ok (w0 : World) (a0 : Table) {v1 : Value} {v3 : Value} (h2 : rdL (· < w0.heap.size) w0 v1 a0.Points) (h4 : rdL (· < w0.heap.size) w0 v3 a0.Codes) (a1 : List Int) {v5 : Value} (h6 : rdL (· < w0.heap.size) w0 v5 a1) (a2 : Int) {r : (List Int)} (hm : M.impl_countedPoints a0 a1 a2 = some r) :
    Calls Try.prog 90 #[(.agg #[(.int .i64 a0.Boats), v1, v3]), v5, (.int .i64 a2)] w0 fun e w' => ∃ (rv0 : Value) (rS0 : Nat → Prop), e = .returned rv0 ∧ Fresh w0 w' [Ent.own 2 rS0 rv0 r] := by
  unfold M.impl_countedPoints at hm
  refine calls_CW (args := [(.agg #[(.int .i64 a0.Boats), v1, v3]), v5, (.int .i64 a2)]) Try.func90 rfl rfl rfl ?_
  have hL := Hp.start w0
  refine CW.seq ?_
  refine CW.regionL ?_
  refine OW.cons (S_box (cs := #[(.int .i64 a0.Boats), v1, v3]) hL rfl rfl rfl ?_)
  intro wd7 b8 hL
  refine OW.cons (OP.val (v := (.slice none 0 0)) rfl (x_assign) ?_)
  refine OW.nil ?_
  refine CW.seq ?_
  refine CW.regionL ?_
  refine OW.cons (S_lit ([] : List Int) hL Try.underlying25 Try_T2 rfl (by decide) (by first | (simp [Instr.fill, madeCells, Value.cells, ev, upd, Flat.enc, Flat.sz]; done) | rfl | kernel_rfl) rfl rfl ?_)
  intro wd9 v10 S11 hL
  refine OW.cons (OP.val (v := (.agg #[(.int .i64 a0.Boats), v1, v3])) rfl (x_loadN (cs := [(.int .i64 a0.Boats), v1, v3]) Try.underlying29 Try_T29 rfl rfl (hL.cellsB 1 rfl (o := 0) (l := [(.int .i64 a0.Boats), v1, v3]) (by intro j u hj; exact (by simpa using hj)))) ?_)
  refine OW.cons (OP.val (v := v5) rfl (x_move) ?_)
  refine OW.cons (OP.val (v := (.int .i64 a2)) rfl (x_move) ?_)
  obtain ⟨x12, hx13, hm⟩ := bndE hm
  refine OW.cons (OP.call rfl (x_call (vs := [(.agg #[(.int .i64 a0.Boats), v1, v3]), v5, (.int .i64 a2)]) Try_C78 ⟨rfl, rfl, rfl, trivial⟩) (M.impl_discardsOf_ok _ a0 (hL.rdS 2 rfl h2) (hL.rdS 2 rfl h4) a1 (hL.rdS 2 rfl h6) a2 hx13) ?_)
  rintro e16 wd17 ⟨v15, S14, rfl, hF18⟩
  refine ⟨_, rfl, ?_⟩
  have hL := hL.pushAll hF18
  simp only [lA, lB, lC, lD] at hL
  refine OW.cons (OP.val (v := v10) rfl (x_assign) ?_)
  refine OW.cons (OP.val (v := v15) rfl (x_assign) ?_)
  refine OW.nil ?_
  refine CW.seq ?_
  refine CW.seq ?_
  refine CW.regionL ?_
  refine OW.cons (OP.val (v := (.pointer (some ⟨b8, 1, none⟩))) rfl (x_fieldAddr (fsz := 1) 0 1 1 Try.underlying29 rfl Try_T22 rfl rfl rfl) ?_)
  refine OW.cons (OP.val (v := v1) rfl (x_load1 Try.underlying22 rfl rfl (hL.cellB 2 rfl rfl)) ?_)
  refine OW.cons (OP.val (v := (.int .i64 (a0.Points.length : Int))) rfl (x_lenR Try.underlying22 rfl (hL.rdS 3 rfl h2)) ?_)
  refine OW.cons (OP.val (v := (.int .i64 0)) rfl (x_move) ?_)
  refine OW.nil ?_
  obtain ⟨o335, ho336, hm⟩ := bndE hm
  have hL := hL.sel [1, 0, 2, 3] (by decide) rfl
  refine CW.loopB (fun (s_l1 : (List Int) × Int) (F : Fr) (w : World) => ∃ (v331 : Value) (S332 : Nat → Prop), F 2 = (.int .i64 a2) ∧ F 3 = (.pointer (some ⟨b8, 0, none⟩)) ∧ F 7 = v331 ∧ F 8 = v15 ∧ F 17 = (.int .i64 (a0.Points.length : Int)) ∧ F 18 = (.int .i64 s_l1.2) ∧ Hp w0 [Ent.own 2 S332 v331 s_l1.1, Ent.own 2 S14 v15 x12, Ent.blk b8 29 #[(.int .i64 a0.Boats), v1, v3], Ent.snap w0 w0.heap.size] w) (fun o => outc o (fun x => some x) (fun s => M.impl_countedPoints_a1 s) = some r) ho336 hm ⟨v10, S11, rfl, rfl, rfl, rfl, rfl, rfl, hL⟩ ?_ ?_
  · intro s_l1 F337 wd338 hJ hm
    have hm := outcE hm
    have hm : M.impl_countedPoints_a1 s_l1 = some r := hm
    unfold M.impl_countedPoints_a1 at hm
    obtain ⟨v331, S332, f339, f340, f341, f342, f343, f344, hL⟩ := hJ
    refine CW.seq ?_
    refine CW.regionL ?_
    refine OW.cons (OP.val (v := v331) rfl (x_mv f341) ?_)
    refine OW.cons (OP.val (v := v331) rfl (x_assign) ?_)
    refine OW.nil ?_
    refine CW.ret ?_
    obtain rfl := Option.some.inj hm
    exact RR1 rfl rfl ⟨v331, S332, rfl, hL.fresh 3 rfl [0] (by decide) (by decide) rfl⟩
  · intro s_l1 F345 wd346 t333 hJ hm hr334
    unfold M.impl_countedPoints_l1 at hm
    obtain ⟨v331, S332, f347, f348, f349, f350, f351, f352, hL⟩ := hJ
    refine CW.seq ?_
    refine CW.regionL ?_
    refine OW.cons (OP.val (v := (.bool (decide (s_l1.2 < (a0.Points.length : Int))))) rfl (x_lss f352 f351) ?_)
    refine OW.nil ?_
    refine CW.seq ?_
    refine CW.condM (t := decide (s_l1.2 < (a0.Points.length : Int))) rfl hm (fun hb353 hm => ?_) (fun hb353 hm => ?_)
    · refine CW.skip ?_
      refine CW.seqJ (fun (s_j1 : (List Int)) (F : Fr) (w : World) => ∃ (v426 : Value) (S427 : Nat → Prop), F 2 = (.int .i64 a2) ∧ F 3 = (.pointer (some ⟨b8, 0, none⟩)) ∧ F 7 = v426 ∧ F 8 = v15 ∧ F 17 = (.int .i64 (a0.Points.length : Int)) ∧ F 18 = (.int .i64 s_l1.2) ∧ Hp w0 [Ent.own 2 S427 v426 s_j1, Ent.own 2 S14 v15 x12, Ent.blk b8 29 #[(.int .i64 a0.Boats), v1, v3], Ent.snap w0 w0.heap.size] w) (fun s_j1 => M.impl_countedPoints_j1 s_l1 s_j1 = some t333) ?_ ?_
      · refine CW.blockJ (fun (s_j2 : (List Int)) (F : Fr) (w : World) => ∃ (v467 : Value) (S468 : Nat → Prop), F 2 = (.int .i64 a2) ∧ F 3 = (.pointer (some ⟨b8, 0, none⟩)) ∧ F 7 = v467 ∧ F 8 = v15 ∧ F 17 = (.int .i64 (a0.Points.length : Int)) ∧ F 18 = (.int .i64 s_l1.2) ∧ Hp w0 [Ent.own 2 S468 v467 s_j2, Ent.own 2 S14 v15 x12, Ent.blk b8 29 #[(.int .i64 a0.Boats), v1, v3], Ent.snap w0 w0.heap.size] w) (fun s_j2 => M.impl_countedPoints_j2 s_l1 s_j2 = some t333) ?_ ?_
        · refine CW.seq ?_
          refine CW.regionL ?_
          refine OW.cons (OP.val (v := (.int .i64 s_l1.2)) rfl (x_mv f352) ?_)
          refine OW.cons (OP.val (v := (.int .i64 s_l1.2)) rfl (x_assign) ?_)
          refine OW.nil ?_
          refine CW.seq ?_
          refine CW.regionL ?_
          refine OW.cons (OP.val (v := v15) rfl (x_mv f350) ?_)
          refine OW.cons (OP.val (v := (.int .i64 s_l1.2)) rfl (x_move) ?_)
          obtain ⟨x477, hx478, hm⟩ := bndE hm
          refine OW.cons (OP.call rfl (x_call (vs := [v15, (.int .i64 s_l1.2)]) Try_C108 ⟨rfl, rfl, trivial⟩) (M.slices_Contains___int64_int64__ok _ x12 (hL.rdO 1 rfl) s_l1.2 hx478) ?_)
          rintro e479 wd480 ⟨rfl, hF481⟩
          refine ⟨_, rfl, ?_⟩
          have hL := hL.pushAll hF481
          simp only [lA, lB, lC, lD] at hL
          refine OW.cons (OP.val (v := (.bool (!x477))) rfl (x_not rfl) ?_)
          refine OW.nil ?_
          refine CW.condM (t := !x477) rfl hm (fun hb482 hm => ?_) (fun hb482 hm => ?_)
          · refine CW.regionL ?_
            refine OW.cons (OP.val (v := v331) rfl (x_mv f349) ?_)
            refine OW.cons (OP.val (v := (.pointer (some ⟨b8, 1, none⟩))) rfl (x_fieldAddr (fsz := 1) 0 1 1 Try.underlying29 rfl Try_T22 rfl f348 rfl) ?_)
            refine OW.cons (OP.val (v := v1) rfl (x_load1 Try.underlying22 rfl rfl (hL.cellB 2 rfl rfl)) ?_)
            refine OW.cons (OP.val (v := (.int .i64 s_l1.2)) rfl (x_move) ?_)
            obtain ⟨x483, ha484, hm⟩ := bndE hm
            obtain ⟨hz485, ha493⟩ := idxE ha484
            obtain ⟨b486, q487, v488, hix489, hs490, hc491, hr492⟩ := rdN_at h2 hz485 ha493
            refine OW.cons (OP.val (v := (.pointer (some ⟨b486, q487, none⟩))) rfl (x_ix Try.underlying22 Try_T25 rfl rfl hix489) ?_)
            refine OW.cons (OP.val (v := v488) rfl (x_load1 Try.underlying25 rfl rfl (hL.cellS 3 rfl hs490 hc491)) ?_)
            refine OW.cons (OP.val (v := (.int .i64 a2)) rfl (x_mv f347) ?_)
            obtain ⟨x494, ha495, hm⟩ := bndE hm
            obtain ⟨hz496, ha500⟩ := idxE ha495
            obtain ⟨b497, q498, hix499⟩ := rdL_ix (hL.rdS 3 rfl hr492) hz496 ha500
            refine OW.cons (OP.val (v := (.pointer (some ⟨b497, q498, none⟩))) rfl (x_ix Try.underlying25 Try_T2 rfl rfl hix499) ?_)
            refine OW.cons (OP.val (v := (.int .i64 x494)) rfl (x_load1 Try.underlying2 rfl rfl (rdF_cells (hL.rdS 3 rfl hr492) hix499 ha500 0 _ rfl)) ?_)
            refine OW.cons (S_lit ([x494] : List Int) hL Try.underlying25 Try_T2 rfl (by decide) (by first | (simp [Instr.fill, madeCells, Value.cells, ev, upd, Flat.enc, Flat.sz]; done) | rfl | kernel_rfl) rfl rfl ?_)
            intro wd501 v502 S503 hL
            obtain ⟨hc507, hm⟩ := chkE hm
            refine OW.cons (S_append (ys := ([x494] : List Int)) hL 1 rfl Try.underlying25 Try_T2 rfl rfl rfl (hL.rdO 0 rfl) hc507 (by decide) rfl ?_)
            intro wd504 v505 S506 hL
            refine OW.cons (OP.val (v := v505) rfl (x_assign) ?_)
            refine OW.nil ?_
            have hL := hL.sel [1, 2, 3, 4] (by decide) rfl
            exact ⟨s_l1.1 ++ ([x494] : List Int), hm, ⟨v505, S506, f347, f348, rfl, f350, f351, f352, hL⟩⟩
          · refine CW.skip ?_
            exact ⟨s_l1.1, hm, ⟨v331, S332, f347, f348, f349, f350, f351, f352, hL⟩⟩
        · intro s_j2 F469 wd470 hJ hm
          unfold M.impl_countedPoints_j2 at hm
          obtain ⟨v467, S468, f471, f472, f473, f474, f475, f476, hL⟩ := hJ
          exact ⟨s_j2, hm, ⟨v467, S468, f471, f472, f473, f474, f475, f476, hL⟩⟩
      · intro s_j1 F428 wd429 hJ hm
        unfold M.impl_countedPoints_j1 at hm
        obtain ⟨v426, S427, f430, f431, f432, f433, f434, f435, hL⟩ := hJ
        refine CW.regionL ?_
        refine OW.cons (OP.val (v := (.int .i64 (w64 (s_l1.2 + 1)))) rfl (x_add f435 rfl) ?_)
        refine OW.cons (OP.val (v := (.int .i64 (w64 (s_l1.2 + 1)))) rfl (x_move) ?_)
        refine OW.nil ?_
        obtain rfl := Option.some.inj hm
        exact ⟨_, rfl, ⟨v426, S427, f430, f431, f432, f433, f434, rfl, hL⟩⟩
    · refine CW.exit ?_
      refine XJ.hit ?_
      obtain rfl := Option.some.inj hm
      exact ⟨_, rfl, ⟨v331, S332, f347, f348, f349, f350, f351, f352, hL⟩⟩

theorem M.impl_netPoints_ok (w0 : World) (a0 : Table) {v1 : Value} {v3 : Value} (h2 : rdL (· < w0.heap.size) w0 v1 a0.Points) (h4 : rdL (· < w0.heap.size) w0 v3 a0.Codes) (a1 : List Int) {v5 : Value} (h6 : rdL (· < w0.heap.size) w0 v5 a1) (a2 : Int) {r : Int} (hm : M.impl_netPoints a0 a1 a2 = some r) :
    Calls Try.prog 71 #[(.agg #[(.int .i64 a0.Boats), v1, v3]), v5, (.int .i64 a2)] w0 fun e w' => e = .returned (.int .i64 r) ∧ Fresh w0 w' [] := by
  unfold M.impl_netPoints at hm
  refine calls_CW (args := [(.agg #[(.int .i64 a0.Boats), v1, v3]), v5, (.int .i64 a2)]) Try.func71 rfl rfl rfl ?_
  have hL := Hp.start w0
  refine CW.seq ?_
  refine CW.regionL ?_
  refine OW.cons (S_box (cs := #[(.int .i64 a0.Boats), v1, v3]) hL rfl rfl rfl ?_)
  intro wd7 b8 hL
  refine OW.cons (OP.val (v := (.int .i64 0)) rfl (x_assign) ?_)
  refine OW.nil ?_
  refine CW.seq ?_
  refine CW.regionL ?_
  refine OW.cons (OP.val (v := (.int .i64 0)) rfl (x_assign) ?_)
  refine OW.nil ?_
  refine CW.seq ?_
  refine CW.seq ?_
  refine CW.regionL ?_
  refine OW.cons (OP.val (v := (.agg #[(.int .i64 a0.Boats), v1, v3])) rfl (x_loadN (cs := [(.int .i64 a0.Boats), v1, v3]) Try.underlying29 Try_T29 rfl rfl (hL.cellsB 0 rfl (o := 0) (l := [(.int .i64 a0.Boats), v1, v3]) (by intro j u hj; exact (by simpa using hj)))) ?_)
  refine OW.cons (OP.val (v := v5) rfl (x_move) ?_)
  refine OW.cons (OP.val (v := (.int .i64 a2)) rfl (x_move) ?_)
  obtain ⟨x9, hx10, hm⟩ := bndE hm
  refine OW.cons (OP.call rfl (x_call (vs := [(.agg #[(.int .i64 a0.Boats), v1, v3]), v5, (.int .i64 a2)]) Try_C90 ⟨rfl, rfl, rfl, trivial⟩) (M.impl_countedPoints_ok _ a0 (hL.rdS 1 rfl h2) (hL.rdS 1 rfl h4) a1 (hL.rdS 1 rfl h6) a2 hx10) ?_)
  rintro e13 wd14 ⟨v12, S11, rfl, hF15⟩
  refine ⟨_, rfl, ?_⟩
  have hL := hL.pushAll hF15
  simp only [lA, lB, lC, lD] at hL
  refine OW.cons (OP.val (v := (.int .i64 (x9.length : Int))) rfl (x_lenR Try.underlying25 rfl (hL.rdO 0 rfl)) ?_)
  refine OW.cons (OP.val (v := (.int .i64 0)) rfl (x_move) ?_)
  refine OW.nil ?_
  obtain ⟨o34, ho35, hm⟩ := bndE hm
  refine CW.loopB (fun (s_l1 : Int × Int) (F : Fr) (w : World) => F 7 = (.int .i64 s_l1.1) ∧ F 13 = v12 ∧ F 14 = (.int .i64 (x9.length : Int)) ∧ F 15 = (.int .i64 s_l1.2) ∧ Hp w0 [Ent.own 2 S11 v12 x9, Ent.blk b8 29 #[(.int .i64 a0.Boats), v1, v3], Ent.snap w0 w0.heap.size] w) (fun o => outc o (fun x => some x) (fun s => M.impl_netPoints_a1 s) = some r) ho35 hm ⟨rfl, rfl, rfl, rfl, hL⟩ ?_ ?_
  · intro s_l1 F36 wd37 hJ hm
    have hm := outcE hm
    have hm : M.impl_netPoints_a1 s_l1 = some r := hm
    unfold M.impl_netPoints_a1 at hm
    obtain ⟨f38, f39, f40, f41, hL⟩ := hJ
    refine CW.seq ?_
    refine CW.regionL ?_
    refine OW.cons (OP.val (v := (.int .i64 s_l1.1)) rfl (x_mv f38) ?_)
    refine OW.cons (OP.val (v := (.int .i64 s_l1.1)) rfl (x_assign) ?_)
    refine OW.nil ?_
    refine CW.ret ?_
    obtain rfl := Option.some.inj hm
    exact RR1 rfl rfl ⟨rfl, hL.fresh 2 rfl [] (by decide) (by decide) rfl⟩
  · intro s_l1 F42 wd43 t32 hJ hm hr33
    unfold M.impl_netPoints_l1 at hm
    obtain ⟨f44, f45, f46, f47, hL⟩ := hJ
    refine CW.seq ?_
    refine CW.regionL ?_
    refine OW.cons (OP.val (v := (.bool (decide (s_l1.2 < (x9.length : Int))))) rfl (x_lss f47 f46) ?_)
    refine OW.nil ?_
    refine CW.seq ?_
    refine CW.condM (t := decide (s_l1.2 < (x9.length : Int))) rfl hm (fun hb48 hm => ?_) (fun hb48 hm => ?_)
    · refine CW.skip ?_
      refine CW.seq ?_
      refine CW.block ?_
      refine CW.seq ?_
      refine CW.regionL ?_
      obtain ⟨x49, ha50, hm⟩ := bndE hm
      obtain ⟨hz51, ha55⟩ := idxE ha50
      obtain ⟨b52, q53, hix54⟩ := rdL_ix (hL.rdO 0 rfl) hz51 ha55
      refine OW.cons (OP.val (v := (.pointer (some ⟨b52, q53, none⟩))) rfl (x_ix Try.underlying25 Try_T2 f45 f47 hix54) ?_)
      refine OW.cons (OP.val (v := (.int .i64 x49)) rfl (x_load1 Try.underlying2 rfl rfl (rdF_cells (hL.rdO 0 rfl) hix54 ha55 0 _ rfl)) ?_)
      refine OW.cons (OP.val (v := (.int .i64 x49)) rfl (x_assign) ?_)
      refine OW.nil ?_
      refine CW.regionL ?_
      refine OW.cons (OP.val (v := (.int .i64 s_l1.1)) rfl (x_mv f44) ?_)
      refine OW.cons (OP.val (v := (.int .i64 x49)) rfl (x_move) ?_)
      refine OW.cons (OP.val (v := (.int .i64 (w64 (s_l1.1 + x49)))) rfl (x_add rfl rfl) ?_)
      refine OW.cons (OP.val (v := (.int .i64 (w64 (s_l1.1 + x49)))) rfl (x_assign) ?_)
      refine OW.nil ?_
      refine CW.regionL ?_
      refine OW.cons (OP.val (v := (.int .i64 (w64 (s_l1.2 + 1)))) rfl (x_add f47 rfl) ?_)
      refine OW.cons (OP.val (v := (.int .i64 (w64 (s_l1.2 + 1)))) rfl (x_move) ?_)
      refine OW.nil ?_
      obtain rfl := Option.some.inj hm
      exact ⟨_, rfl, ⟨rfl, f45, f46, rfl, hL⟩⟩
    · refine CW.exit ?_
      refine XJ.hit ?_
      obtain rfl := Option.some.inj hm
      exact ⟨_, rfl, ⟨f44, f45, f46, f47, hL⟩⟩

theorem M.impl_sortedPoints_ok (w0 : World) (a0 : Table) {v1 : Value} {v3 : Value} (h2 : rdL (· < w0.heap.size) w0 v1 a0.Points) (h4 : rdL (· < w0.heap.size) w0 v3 a0.Codes) (a1 : List Int) {v5 : Value} (h6 : rdL (· < w0.heap.size) w0 v5 a1) (a2 : Int) {r : (List Int)} (hm : M.impl_sortedPoints a0 a1 a2 = some r) :
    Calls Try.prog 92 #[(.agg #[(.int .i64 a0.Boats), v1, v3]), v5, (.int .i64 a2)] w0 fun e w' => ∃ (rv0 : Value) (rS0 : Nat → Prop), e = .returned rv0 ∧ Fresh w0 w' [Ent.own 2 rS0 rv0 r] := by
  unfold M.impl_sortedPoints at hm
  refine calls_CW (args := [(.agg #[(.int .i64 a0.Boats), v1, v3]), v5, (.int .i64 a2)]) Try.func92 rfl rfl rfl ?_
  have hL := Hp.start w0
  refine CW.seq ?_
  refine CW.regionL ?_
  refine OW.cons (S_box (cs := #[(.int .i64 a0.Boats), v1, v3]) hL rfl rfl rfl ?_)
  intro wd7 b8 hL
  refine OW.cons (OP.val (v := (.slice none 0 0)) rfl (x_assign) ?_)
  refine OW.nil ?_
  refine CW.seq ?_
  refine CW.regionL ?_
  refine OW.cons (OP.val (v := (.agg #[(.int .i64 a0.Boats), v1, v3])) rfl (x_loadN (cs := [(.int .i64 a0.Boats), v1, v3]) Try.underlying29 Try_T29 rfl rfl (hL.cellsB 0 rfl (o := 0) (l := [(.int .i64 a0.Boats), v1, v3]) (by intro j u hj; exact (by simpa using hj)))) ?_)
  refine OW.cons (OP.val (v := v5) rfl (x_move) ?_)
  refine OW.cons (OP.val (v := (.int .i64 a2)) rfl (x_move) ?_)
  obtain ⟨x9, hx10, hm⟩ := bndE hm
  refine OW.cons (OP.call rfl (x_call (vs := [(.agg #[(.int .i64 a0.Boats), v1, v3]), v5, (.int .i64 a2)]) Try_C90 ⟨rfl, rfl, rfl, trivial⟩) (M.impl_countedPoints_ok _ a0 (hL.rdS 1 rfl h2) (hL.rdS 1 rfl h4) a1 (hL.rdS 1 rfl h6) a2 hx10) ?_)
  rintro e13 wd14 ⟨v12, S11, rfl, hF15⟩
  refine ⟨_, rfl, ?_⟩
  have hL := hL.pushAll hF15
  simp only [lA, lB, lC, lD] at hL
  refine OW.cons (OP.val (v := v12) rfl (x_assign) ?_)
  refine OW.nil ?_
  refine CW.seq ?_
  refine CW.regionL ?_
  refine OW.cons (OP.val (v := v12) rfl (x_move) ?_)
  obtain ⟨x16, hx17, hm⟩ := bndE hm
  refine OW.cons (OP.call rfl (x_call (vs := [v12]) Try_C107 ⟨rfl, trivial⟩) (M.slices_Sort___int64_int64__ok _ x9 (hL.get 0 rfl) hx17) ?_)
  rintro e18 wd19 ⟨S21, rfl, hF20⟩
  refine ⟨_, rfl, ?_⟩
  have hL := hL.mut 0 rfl hF20
  simp only [lA, lB, lC, lD] at hL
  refine OW.nil ?_
  refine CW.seq ?_
  refine CW.regionL ?_
  refine OW.cons (OP.val (v := v12) rfl (x_move) ?_)
  refine OW.cons (OP.val (v := v12) rfl (x_assign) ?_)
  refine OW.nil ?_
  refine CW.ret ?_
  obtain rfl := Option.some.inj hm
  exact RR1 rfl rfl ⟨v12, S21, rfl, hL.fresh 2 rfl [0] (by decide) (by decide) rfl⟩

theorem M.back110_ok (w0 : World) {v : Value} {α : Type} [GoT α] {S : Nat → Prop} {xs : List α} (h : rdL S w0 v xs) :
    Calls Try.prog 98 #[v] w0 fun e w' => ∃ b : Nat, e = .returned (.func (.func 110) #[] #[.pointer (some ⟨b, 0, none⟩)]) ∧ Fresh w0 w' [Ent.blk b 22 #[v]] := by
  refine calls_CW (args := [v]) Try.func98 rfl rfl rfl ?_
  have hL := Hp.start w0
  refine CW.seq ?_
  refine CW.regionL ?_
  refine OW.cons (S_box (cs := #[v]) hL rfl (rdL_cells h) rfl ?_)
  intro wd b hL
  refine OW.cons (OP.val rfl x_assign ?_)
  refine OW.nil ?_
  refine CW.seq ?_
  refine CW.regionL ?_
  refine OW.cons (OP.val (v := (.func (.func 110) #[] #[.pointer (some ⟨b, 0, none⟩)])) rfl (x_makeFunc (vs := [(.pointer (some ⟨b, 0, none⟩))]) ⟨rfl, trivial⟩) ?_)
  refine OW.cons (OP.val rfl x_assign ?_)
  refine OW.nil ?_
  refine CW.ret ?_
  exact RR1 rfl rfl ⟨b, rfl, hL.fresh 1 rfl [0] (by decide) (by decide) rfl⟩

theorem M.back110_it {v : Value} {b : Nat} {xs : List (List Int)} : IterB Try.prog 110 22 b v xs := by
  intro l Y Z W hY hr h0
  have hlen : (xs.length : Int) < 9223372036854775808 := by
    obtain ⟨Av, cap, _, h1, h2, _⟩ := (hY _ _ h0).2
    unfold maxLen at h2
    omega
  refine calls_CF (args := [(.func (.yield l) #[] #[]), (.pointer (some ⟨b, 0, none⟩))]) Try.func110 rfl rfl rfl ?_
  refine CF.seq ?_
  refine CF.regionL ?_
  refine OW.cons (OP.val rfl (x_load1 Try.underlying22 rfl rfl (cell_box (hY _ _ h0).1)) ?_)
  refine OW.cons (OP.val rfl (x_lenR Try.underlying22 rfl (hY _ _ h0).2) ?_)
  refine OW.cons (OP.val rfl (x_sub rfl rfl) ?_)
  refine OW.cons (OP.val rfl x_assign ?_)
  refine OW.nil ?_
  refine CF.block ?_
  refine CF.loop (fun F w => ∃ k : Nat, k ≤ xs.length ∧ F 0 = (.func (.yield l) #[] #[]) ∧ F 1 = (.pointer (some ⟨b, 0, none⟩)) ∧ F 3 = .int .i64 ((k : Int) - 1) ∧ Y k w) (fun F _ => match F 3 with | .int _ i => (i + 1).toNat | _ => 0) ⟨xs.length, Nat.le_refl _, rfl, rfl, congrArg (Value.int .i64) (w64_id (by omega)), h0⟩ ?_
  rintro F w ⟨k, hk, f0, f1, f3, hYk⟩
  refine CF.seq ?_
  refine CF.seq ?_
  refine CF.regionL ?_
  refine OW.cons (OP.val rfl (x_mv f3) ?_)
  refine OW.cons (OP.val rfl (x_geq rfl rfl) ?_)
  refine OW.nil ?_
  cases k with
  | zero =>
    refine CF.condF (t := decide ((0 : Int) ≤ ((0 : Nat) : Int) - 1)) rfl (decide_eq_false (by omega)) ?_
    refine CF.exit ?_
    refine XX.hit ?_
    exact RR0 rfl ⟨⟨_, rfl⟩, .inl hYk⟩
  | succ k =>
    refine CF.condT (t := decide ((0 : Int) ≤ ((k + 1 : Nat) : Int) - 1)) rfl (decide_eq_true (by omega)) ?_
    refine CF.skip ?_
    refine CF.seq ?_
    refine CF.block ?_
    refine CF.seq ?_
    have hlt : k < xs.length := by omega
    have e1 : (((k + 1 : Nat) : Int) - 1) = (k : Int) := by omega
    rw [e1] at f3
    obtain ⟨b1, q1, u1, hix, _, hc, _⟩ := rdN_at (hY _ _ hYk).2 (Int.natCast_nonneg k) (by rw [Int.toNat_natCast]; exact List.getElem?_eq_getElem hlt)
    obtain ⟨fn, tmps, assign, body, hy, hR⟩ := hr k w u1 hlt hYk (fun b' q' hix' => by obtain ⟨rfl, rfl⟩ := hix.inj hix'; exact hc)
    refine CF.regionY ?_
    refine OF.cons rfl (OP.val rfl (x_mv f0) ?_)
    refine OF.cons rfl (OP.val rfl (x_mv f3) ?_)
    refine OF.cons rfl (OP.val rfl (x_load1 Try.underlying22 rfl f1 (cell_box (hY _ _ hYk).1)) ?_)
    refine OF.cons rfl (OP.val rfl (x_mv f3) ?_)
    refine OF.cons rfl (OP.val rfl (x_ix Try.underlying22 Try_T25 rfl rfl hix) ?_)
    refine OF.cons rfl (OP.val rfl (x_load1 Try.underlying25 rfl rfl hc) ?_)
    refine OF.yield rfl rfl rfl rfl hy (hR.mono ?_)
    rintro e W' (⟨rfl, hY'⟩ | ⟨rfl, hZ⟩)
    · refine ⟨_, rfl, ?_⟩
      refine OF.cons rfl (OP.val rfl (x_not (b := true) rfl) ?_)
      refine OF.nil ?_
      refine CF.condF (t := !true) rfl rfl ?_
      refine CF.skip ?_
      refine CF.regionL ?_
      refine OW.cons (OP.val rfl (x_mv f3) ?_)
      refine OW.cons (OP.val rfl (x_sub rfl rfl) ?_)
      refine OW.cons (OP.val rfl x_assign ?_)
      refine OW.nil ?_
      have e2 : w64 ((k : Int) - 1) = (k : Int) - 1 := w64_id (by omega)
      refine ⟨⟨k, by omega, f0, f1, congrArg (Value.int .i64) e2, hY'⟩, ?_⟩
      show (w64 ((k : Int) - 1) + 1).toNat < (match F 3 with | .int _ i => (i + 1).toNat | _ => 0)
      rw [e2, f3]
      simp
    · refine ⟨_, rfl, ?_⟩
      refine OF.cons rfl (OP.val rfl (x_not (b := false) rfl) ?_)
      refine OF.nil ?_
      refine CF.condT (t := !false) rfl rfl ?_
      refine CF.ret ?_
      exact RR0 rfl ⟨⟨_, rfl⟩, .inr hZ⟩

theorem M.impl_compareBoats_ok (w0 : World) (a0 : Table) {v1 : Value} {v3 : Value} (h2 : rdL (· < w0.heap.size) w0 v1 a0.Points) (h4 : rdL (· < w0.heap.size) w0 v3 a0.Codes) (a1 : List Int) {v5 : Value} (h6 : rdL (· < w0.heap.size) w0 v5 a1) (a2 : Int) (a3 : Int) {r : Int × Int × Int} (hm : M.impl_compareBoats a0 a1 a2 a3 = some r) :
    Calls Try.prog 62 #[(.agg #[(.int .i64 a0.Boats), v1, v3]), v5, (.int .i64 a2), (.int .i64 a3)] w0 fun e w' => e = .returned (.tuple #[(.int .i64 r.1), (.int .i64 r.2.1), (.int .i64 r.2.2)]) ∧ Fresh w0 w' [] := by
  unfold M.impl_compareBoats at hm
  refine calls_SW (args := [(.agg #[(.int .i64 a0.Boats), v1, v3]), v5, (.int .i64 a2), (.int .i64 a3)]) Try.func62 rfl rfl rfl ?_
  have hL := Hp.start w0
  refine SW.seqC ?_
  refine CW.regionL ?_
  refine OW.cons (S_box (cs := #[(.int .i64 a0.Boats), v1, v3]) hL rfl rfl rfl ?_)
  intro wd7 b8 hL
  refine OW.cons (S_box (cs := #[(.int .i64 a2)]) hL rfl rfl rfl ?_)
  intro wd9 b10 hL
  refine OW.cons (S_box (cs := #[(.int .i64 a3)]) hL rfl rfl rfl ?_)
  intro wd11 b12 hL
  refine OW.cons (S_alloc (cs := #[(.int .i64 0)]) hL Try_T2 rfl rfl ?_)
  intro wd13 b14 hL
  refine OW.cons (S_alloc (cs := #[(.int .i64 0)]) hL Try_T2 rfl rfl ?_)
  intro wd15 b16 hL
  refine OW.cons (S_alloc (cs := #[(.int .i64 0)]) hL Try_T2 rfl rfl ?_)
  intro wd17 b18 hL
  refine OW.nil ?_
  refine SW.seqC ?_
  refine CW.seq ?_
  refine CW.draw Try_mixed ?_
  have hL := hL.call (Mod.drew _)
  refine DW.pre (fuel := 0) (fin := (((((((((((Array.replicate 10 false).setIfInBounds 0 true).setIfInBounds 1 true).setIfInBounds 2 true).setIfInBounds 3 true).setIfInBounds 4 true).setIfInBounds 5 true).setIfInBounds 6 true).setIfInBounds 7 true).setIfInBounds 8 true).setIfInBounds 9 true)) (C := fun w' => Mod None_ _ w') [0, 1, 2, 3, 4, 5, 6, 7, 8, 9] (Mod.refl _ _) (by kernel_rfl) (by kernel_rfl) ?_
  refine QW.cons rfl (QP.val (v := (.agg #[(.int .i64 a0.Boats), v1, v3])) rfl (fun w' hm' => x_loadN (cs := [(.int .i64 a0.Boats), v1, v3]) Try.underlying29 Try_T29 rfl rfl ((hL.call hm').cellsB 5 rfl (o := 0) (l := [(.int .i64 a0.Boats), v1, v3]) (by intro j u hj; exact (by simpa using hj)))) ?_)
  refine QW.cons rfl (QP.val (v := v5) rfl (fun w' hm' => x_move) ?_)
  refine QW.cons rfl (QP.val (v := (.int .i64 a2)) rfl (fun w' hm' => x_load1 Try.underlying2 rfl rfl ((hL.call hm').cellB 4 rfl rfl)) ?_)
  obtain ⟨x19, hx20, hm⟩ := bndE hm
  refine QW.cons rfl (QP.call (v := (.int .i64 x19)) rfl (fun w' hm' => x_call (vs := [(.agg #[(.int .i64 a0.Boats), v1, v3]), v5, (.int .i64 a2)]) Try_C71 ⟨rfl, rfl, rfl, trivial⟩) (fun w' hm' => (M.impl_netPoints_ok w' a0 ((hL.call hm').rdS 6 rfl h2) ((hL.call hm').rdS 6 rfl h4) a1 ((hL.call hm').rdS 6 rfl h6) a2 hx20).mono (fun e w'' h => ⟨h.1, hm'.trans h.2.mod⟩)) ?_)
  refine QW.cons rfl (QP.val (v := (.agg #[(.int .i64 a0.Boats), v1, v3])) rfl (fun w' hm' => x_loadN (cs := [(.int .i64 a0.Boats), v1, v3]) Try.underlying29 Try_T29 rfl rfl ((hL.call hm').cellsB 5 rfl (o := 0) (l := [(.int .i64 a0.Boats), v1, v3]) (by intro j u hj; exact (by simpa using hj)))) ?_)
  refine QW.cons rfl (QP.val (v := v5) rfl (fun w' hm' => x_move) ?_)
  refine QW.cons rfl (QP.val (v := (.int .i64 a3)) rfl (fun w' hm' => x_load1 Try.underlying2 rfl rfl ((hL.call hm').cellB 3 rfl rfl)) ?_)
  obtain ⟨x21, hx22, hm⟩ := bndE hm
  refine QW.cons rfl (QP.call (v := (.int .i64 x21)) rfl (fun w' hm' => x_call (vs := [(.agg #[(.int .i64 a0.Boats), v1, v3]), v5, (.int .i64 a3)]) Try_C71 ⟨rfl, rfl, rfl, trivial⟩) (fun w' hm' => (M.impl_netPoints_ok w' a0 ((hL.call hm').rdS 6 rfl h2) ((hL.call hm').rdS 6 rfl h4) a1 ((hL.call hm').rdS 6 rfl h6) a3 hx22).mono (fun e w'' h => ⟨h.1, hm'.trans h.2.mod⟩)) ?_)
  refine QW.cons rfl (QP.val (v := (.int .i64 (w64 (x19 - x21)))) rfl (fun w' hm' => x_sub rfl rfl) ?_)
  refine QW.cons rfl (QP.val (v := (.int .i64 (w64 (x19 - x21)))) rfl (fun w' hm' => x_assign) ?_)
  refine QW.nil ?_
  intro wd23 hmod
  have hL := hL.call hmod
  refine DW.done (by kernel_rfl) ?_
  refine CW.seq ?_
  refine CW.regionL ?_
  refine OW.cons (OP.val (v := (.int .i64 (w64 (x19 - x21)))) rfl (x_move) ?_)
  refine OW.cons (OP.val (v := (.bool ((w64 (x19 - x21)) != 0))) rfl (x_neq rfl rfl) ?_)
  refine OW.nil ?_
  refine CW.condM (t := (w64 (x19 - x21)) != 0) rfl hm (fun hb24 hm => ?_) (fun hb24 hm => ?_)
  · refine CW.seq ?_
    refine CW.regionL ?_
    refine OW.cons (OP.val (v := (.int .i64 (w64 (x19 - x21)))) rfl (x_move) ?_)
    obtain ⟨x25, hx26, hm⟩ := bndE hm
    refine OW.cons (OP.call rfl (x_call (vs := [(.int .i64 (w64 (x19 - x21)))]) Try_C97 ⟨rfl, trivial⟩) (M.impl_sign_ok _ (w64 (x19 - x21)) hx26) ?_)
    rintro e27 wd28 ⟨rfl, hF29⟩
    refine ⟨_, rfl, ?_⟩
    have hL := hL.pushAll hF29
    simp only [lA, lB, lC, lD] at hL
    refine OW.cons (S_store (cs' := #[(.int .i64 x25)]) hL 2 rfl Try_T2 rfl rfl rfl rfl rfl ?_)
    intro wd30 hL
    refine OW.cons (S_store (cs' := #[(.int .i64 1)]) hL 1 rfl Try_T2 rfl rfl rfl rfl rfl ?_)
    intro wd31 hL
    refine OW.cons (S_store (cs' := #[(.int .i64 0)]) hL 0 rfl Try_T2 rfl rfl rfl rfl rfl ?_)
    intro wd32 hL
    refine OW.nil ?_
    refine CW.ret ?_
    refine RM.nil ?_
    obtain rfl := Option.some.inj hm
    exact RRs (v := (.int .i64 x25)) (v2 := (.int .i64 1)) (vs := [(.int .i64 0)]) (rs := [.cell 8 2, .cell 9 2, .cell 10 2]) rfl ⟨resCell rfl (run_load1 Try.underlying2 rfl (cell_box (hL.get 2 rfl))), resCell rfl (run_load1 Try.underlying2 rfl (cell_box (hL.get 1 rfl))), resCell rfl (run_load1 Try.underlying2 rfl (cell_box (hL.get 0 rfl))), trivial⟩ ⟨rfl, hL.fresh 6 rfl [] (by decide) (by decide) rfl⟩
  · refine CW.skip ?_
    refine SW.seqC ?_
    refine CW.drawH (fun w' => Hp w0 [Ent.blk b18 2 #[(.int .i64 0)], Ent.blk b16 2 #[(.int .i64 0)], Ent.blk b14 2 #[(.int .i64 0)], Ent.blk b12 2 #[(.int .i64 a3)], Ent.blk b10 2 #[(.int .i64 a2)], Ent.blk b8 29 #[(.int .i64 a0.Boats), v1, v3], Ent.snap w0 w0.heap.size] w') Try_mixed ?_
    have hL := hL.call (Mod.drew _)
    have hS := (hL.sel [0, 1, 2, 3, 4, 5, 6] (by decide) rfl)
    refine DH.take 0 rfl (by kernel_rfl) (by kernel_rfl) (by kernel_rfl) rfl rfl hS (YH.val (v := (.agg #[(.int .i64 a0.Boats), v1, v3])) (fun w' hS' => x_loadN (cs := [(.int .i64 a0.Boats), v1, v3]) Try.underlying29 Try_T29 rfl rfl (hS'.cellsB 5 rfl (o := 0) (l := [(.int .i64 a0.Boats), v1, v3]) (by intro j u hj; exact (by simpa using hj))))) ?_
    have hS := (hL.sel [0, 1, 2, 3, 4, 5, 6] (by decide) rfl)
    refine DH.take 1 rfl (by kernel_rfl) (by kernel_rfl) (by kernel_rfl) rfl rfl hS (YH.val (v := v5) (fun w' hS' => x_move)) ?_
    have hS := (hL.sel [0, 1, 2, 3, 4, 5, 6] (by decide) rfl)
    refine DH.take 2 rfl (by kernel_rfl) (by kernel_rfl) (by kernel_rfl) rfl rfl hS (YH.val (v := (.int .i64 a2)) (fun w' hS' => x_load1 Try.underlying2 rfl rfl (hS'.cellB 4 rfl rfl))) ?_
    have hS := (hL.sel [0, 1, 2, 3, 4, 5, 6] (by decide) rfl)
    refine DH.take 4 rfl (by kernel_rfl) (by kernel_rfl) (by kernel_rfl) rfl rfl hS (YH.val (v := (.agg #[(.int .i64 a0.Boats), v1, v3])) (fun w' hS' => x_loadN (cs := [(.int .i64 a0.Boats), v1, v3]) Try.underlying29 Try_T29 rfl rfl (hS'.cellsB 5 rfl (o := 0) (l := [(.int .i64 a0.Boats), v1, v3]) (by intro j u hj; exact (by simpa using hj))))) ?_
    have hS := (hL.sel [0, 1, 2, 3, 4, 5, 6] (by decide) rfl)
    refine DH.take 5 rfl (by kernel_rfl) (by kernel_rfl) (by kernel_rfl) rfl rfl hS (YH.val (v := v5) (fun w' hS' => x_move)) ?_
    have hS := (hL.sel [0, 1, 2, 3, 4, 5, 6] (by decide) rfl)
    refine DH.take 6 rfl (by kernel_rfl) (by kernel_rfl) (by kernel_rfl) rfl rfl hS (YH.val (v := (.int .i64 a3)) (fun w' hS' => x_load1 Try.underlying2 rfl rfl (hS'.cellB 3 rfl rfl))) ?_
    obtain ⟨x47, hx48, hm⟩ := bndE hm
    refine DH.only 3 rfl (by kernel_rfl) (OP.call rfl (x_call (vs := [(.agg #[(.int .i64 a0.Boats), v1, v3]), v5, (.int .i64 a2)]) Try_C92 ⟨rfl, rfl, rfl, trivial⟩) (M.impl_sortedPoints_ok _ a0 (hL.rdS 6 rfl h2) (hL.rdS 6 rfl h4) a1 (hL.rdS 6 rfl h6) a2 hx48) ?_)
    rintro e51 wd52 ⟨v50, S49, rfl, hF53⟩
    refine ⟨_, rfl, ?_⟩
    have hL := hL.pushAll hF53
    simp only [lA, lB, lC, lD] at hL
    refine ⟨(hL.sel [1, 2, 3, 4, 5, 6, 7] (by decide) rfl), ?_⟩
    obtain ⟨x54, hx55, hm⟩ := bndE hm
    refine DH.only 7 rfl (by kernel_rfl) (OP.call rfl (x_call (vs := [(.agg #[(.int .i64 a0.Boats), v1, v3]), v5, (.int .i64 a3)]) Try_C92 ⟨rfl, rfl, rfl, trivial⟩) (M.impl_sortedPoints_ok _ a0 (hL.rdS 7 rfl h2) (hL.rdS 7 rfl h4) a1 (hL.rdS 7 rfl h6) a3 hx55) ?_)
    rintro e58 wd59 ⟨v57, S56, rfl, hF60⟩
    refine ⟨_, rfl, ?_⟩
    have hL := hL.pushAll hF60
    simp only [lA, lB, lC, lD] at hL
    refine ⟨(hL.sel [2, 3, 4, 5, 6, 7, 8] (by decide) rfl), ?_⟩
    have hS := (hL.sel [2, 3, 4, 5, 6, 7, 8] (by decide) rfl)
    refine DH.take 8 rfl (by kernel_rfl) (by kernel_rfl) (by kernel_rfl) rfl rfl hS (YH.val (v := v50) (fun w' hS' => x_assign)) ?_
    have hS := (hL.sel [2, 3, 4, 5, 6, 7, 8] (by decide) rfl)
    refine DH.take 9 rfl (by kernel_rfl) (by kernel_rfl) (by kernel_rfl) rfl rfl hS (YH.val (v := v57) (fun w' hS' => x_assign)) ?_
    refine DH.done (by kernel_rfl) ?_
    refine SW.seqC ?_
    refine CW.seq ?_
    refine CW.regionL ?_
    refine OW.cons (OP.val (v := v50) rfl (x_move) ?_)
    refine OW.cons (OP.val (v := (.int .i64 (x47.length : Int))) rfl (x_lenR Try.underlying25 rfl (hL.rdO 1 rfl)) ?_)
    refine OW.cons (OP.val (v := v57) rfl (x_move) ?_)
    refine OW.cons (OP.val (v := (.int .i64 (x54.length : Int))) rfl (x_lenR Try.underlying25 rfl (hL.rdO 0 rfl)) ?_)
    refine OW.cons (OP.val (v := (.int .i64 (min (x47.length : Int) (x54.length : Int)))) rfl (x_min2 rfl rfl) ?_)
    refine OW.cons (OP.val (v := (.int .i64 0)) rfl (x_move) ?_)
    refine OW.nil ?_
    obtain ⟨o137, ho138, hm⟩ := bndE hm
    refine CW.loopB (fun (s_l1 : Int) (F : Fr) (w : World) => F 4 = (.pointer (some ⟨b8, 0, none⟩)) ∧ F 6 = (.pointer (some ⟨b10, 0, none⟩)) ∧ F 7 = (.pointer (some ⟨b12, 0, none⟩)) ∧ F 8 = (.pointer (some ⟨b14, 0, none⟩)) ∧ F 9 = (.pointer (some ⟨b16, 0, none⟩)) ∧ F 10 = (.pointer (some ⟨b18, 0, none⟩)) ∧ F 12 = v50 ∧ F 13 = v57 ∧ F 42 = (.int .i64 (min (x47.length : Int) (x54.length : Int))) ∧ F 43 = (.int .i64 s_l1) ∧ Hp w0 [Ent.own 2 S56 v57 x54, Ent.own 2 S49 v50 x47, Ent.blk b18 2 #[(.int .i64 0)], Ent.blk b16 2 #[(.int .i64 0)], Ent.blk b14 2 #[(.int .i64 0)], Ent.blk b12 2 #[(.int .i64 a3)], Ent.blk b10 2 #[(.int .i64 a2)], Ent.blk b8 29 #[(.int .i64 a0.Boats), v1, v3], Ent.snap w0 w0.heap.size] w) (fun o => outc o (fun x => some x) (fun s => M.impl_compareBoats_a1 a0 a2 a3 s) = some r) ho138 hm ⟨rfl, rfl, rfl, rfl, rfl, rfl, rfl, rfl, rfl, rfl, hL⟩ ?_ ?_
    · intro s_l1 F139 wd140 hJ hm
      have hm := outcE hm
      have hm : M.impl_compareBoats_a1 a0 a2 a3 s_l1 = some r := hm
      unfold M.impl_compareBoats_a1 at hm
      obtain ⟨f141, f142, f143, f144, f145, f146, f147, f148, f149, f150, hL⟩ := hJ
      refine SW.seq ?_
      refine SW.seqC ?_
      refine CW.regionL ?_
      refine OW.cons (OP.val (v := (.pointer (some ⟨b8, 1, none⟩))) rfl (x_fieldAddr (fsz := 1) 0 1 1 Try.underlying29 rfl Try_T22 rfl f141 rfl) ?_)
      refine OW.cons (OP.val (v := v1) rfl (x_load1 Try.underlying22 rfl rfl (hL.cellB 7 rfl rfl)) ?_)
      refine OW.cons (OP.call rfl (x_call (vs := [v1]) Try_C98 ⟨rfl, trivial⟩) (M.back110_ok _ (hL.rdS 8 rfl h2)) ?_)
      rintro e153 wd152 ⟨b151, rfl, hF154⟩
      refine ⟨_, rfl, ?_⟩
      have hL := hL.pushAll hF154
      simp only [lA, lB, lC, lD] at hL
      refine OW.nil ?_
      refine SW.block ?_
      obtain ⟨o155, ho156, hm⟩ := bndE hm
      refine SW.rangeB (bodyM := M.impl_compareBoats_l2 a0 a2 a3) (fun o => outc o (fun x => some x) (fun s => M.impl_compareBoats_a2 s) = some r) (fun F x y => upd (upd (upd (upd F 69 x) 70 y) 15 x) 16 y) Try_C110 rfl rfl rfl M.back110_it hL (fun Γ0 W h => ⟨h.drops.get 0 rfl, h.drops.rdS 9 rfl h2⟩) ho156 hm ?_ ?_ ?_ ?_
      · intro t ht
        exact (Option.some.inj (show some (Stp.brk (-1)) = some t from ht)).symm
      · intro l x y W K hK
        refine CF.seq ?_
        refine CF.regionL ?_
        refine OW.cons (OP.val rfl x_assign ?_)
        refine OW.nil ?_
        refine CF.regionL ?_
        refine OW.cons (OP.val rfl x_assign ?_)
        refine OW.nil ?_
        exact hK
      · intro l162 D163 lo164 i165 u166 wd167 t168 hi169 hL hu170 hm hr171
        unfold M.impl_compareBoats_l2 at hm
        have hm := ifB_pos (by simp) hm
        obtain ⟨x172, ha173, hm⟩ := bndE hm
        obtain ⟨hz174, ha175⟩ := idxE ha173
        obtain ⟨b176, q177, v178, hix179, hs180, hc181, hr182⟩ := rdN_at h2 hz174 ha175
        have hc183 := Option.some.inj ((hL.cellS 11 rfl hs180 hc181).symm.trans (hu170 b176 q177 hix179))
        subst hc183
        refine CF.block ?_
        refine CF.seq ?_
        refine CF.draw Try_mixed ?_
        have hL := hL.call (Mod.drew _)
        refine DW.pre (fuel := 0) (fin := ((((((((((Array.replicate 9 false).setIfInBounds 0 true).setIfInBounds 1 true).setIfInBounds 2 true).setIfInBounds 3 true).setIfInBounds 4 true).setIfInBounds 5 true).setIfInBounds 6 true).setIfInBounds 7 true).setIfInBounds 8 true)) (C := fun w' => Mod None_ _ w') [0, 1, 2, 3, 4, 5, 6, 7, 8] (Mod.refl _ _) (by kernel_rfl) (by kernel_rfl) ?_
        refine QW.cons rfl (QP.val (v := v178) rfl (fun w' hm' => x_move) ?_)
        refine QW.cons rfl (QP.val (v := (.int .i64 a2)) rfl (fun w' hm' => x_load1 Try.underlying2 rfl f142 ((hL.call hm').cellB 9 rfl rfl)) ?_)
        obtain ⟨x184, ha185, hm⟩ := bndE hm
        obtain ⟨hz186, ha190⟩ := idxE ha185
        obtain ⟨b187, q188, hix189⟩ := rdL_ix (hL.rdS 11 rfl hr182) hz186 ha190
        refine QW.cons rfl (QP.val (v := (.pointer (some ⟨b187, q188, none⟩))) rfl (fun w' hm' => x_ix Try.underlying25 Try_T2 rfl rfl hix189) ?_)
        refine QW.cons rfl (QP.val (v := (.int .i64 x184)) rfl (fun w' hm' => x_load1 Try.underlying2 rfl rfl (rdF_cells ((hL.call hm').rdS 11 rfl hr182) hix189 ha190 0 _ rfl)) ?_)
        refine QW.cons rfl (QP.val (v := v178) rfl (fun w' hm' => x_move) ?_)
        refine QW.cons rfl (QP.val (v := (.int .i64 a3)) rfl (fun w' hm' => x_load1 Try.underlying2 rfl f143 ((hL.call hm').cellB 8 rfl rfl)) ?_)
        obtain ⟨x191, ha192, hm⟩ := bndE hm
        obtain ⟨hz193, ha197⟩ := idxE ha192
        obtain ⟨b194, q195, hix196⟩ := rdL_ix (hL.rdS 11 rfl hr182) hz193 ha197
        refine QW.cons rfl (QP.val (v := (.pointer (some ⟨b194, q195, none⟩))) rfl (fun w' hm' => x_ix Try.underlying25 Try_T2 rfl rfl hix196) ?_)
        refine QW.cons rfl (QP.val (v := (.int .i64 x191)) rfl (fun w' hm' => x_load1 Try.underlying2 rfl rfl (rdF_cells ((hL.call hm').rdS 11 rfl hr182) hix196 ha197 0 _ rfl)) ?_)
        refine QW.cons rfl (QP.val (v := (.bool (x184 != x191))) rfl (fun w' hm' => x_neq rfl rfl) ?_)
        refine QW.nil ?_
        intro wd198 hmod
        have hL := hL.call hmod
        refine DW.done (by kernel_rfl) ?_
        refine CF.condM (t := x184 != x191) rfl hm (fun hb199 hm => ?_) (fun hb199 hm => ?_)
        · refine CF.seq ?_
          refine CF.drawH (fun w' => Hp w0 [Ent.raw l162 lo164, Ent.raw D163 (.deferred (some [])), Ent.blk b151 22 #[v1], Ent.own 2 S56 v57 x54, Ent.own 2 S49 v50 x47, Ent.blk b12 2 #[(.int .i64 a3)], Ent.blk b10 2 #[(.int .i64 a2)], Ent.blk b8 29 #[(.int .i64 a0.Boats), v1, v3], Ent.snap w0 w0.heap.size] w') Try_mixed ?_
          have hL := hL.call (Mod.drew _)
          have hS := (hL.sel [0, 1, 2, 3, 4, 8, 9, 10, 11] (by decide) rfl)
          refine DH.take 0 rfl (by kernel_rfl) (by kernel_rfl) (by kernel_rfl) rfl rfl hS (YH.val (v := v178) (fun w' hS' => x_move)) ?_
          have hS := (hL.sel [0, 1, 2, 3, 4, 8, 9, 10, 11] (by decide) rfl)
          refine DH.take 1 rfl (by kernel_rfl) (by kernel_rfl) (by kernel_rfl) rfl rfl hS (YH.val (v := (.int .i64 a2)) (fun w' hS' => x_load1 Try.underlying2 rfl f142 (hS'.cellB 6 rfl rfl))) ?_
          have hS := (hL.sel [0, 1, 2, 3, 4, 8, 9, 10, 11] (by decide) rfl)
          obtain ⟨x222, ha223, hm⟩ := bndE hm
          obtain ⟨hz224, ha228⟩ := idxE ha223
          obtain ⟨b225, q226, hix227⟩ := rdL_ix (hL.rdS 11 rfl hr182) hz224 ha228
          refine DH.take 2 rfl (by kernel_rfl) (by kernel_rfl) (by kernel_rfl) rfl rfl hS (YH.val (v := (.pointer (some ⟨b225, q226, none⟩))) (fun w' hS' => x_ix Try.underlying25 Try_T2 rfl rfl hix227)) ?_
          have hS := (hL.sel [0, 1, 2, 3, 4, 8, 9, 10, 11] (by decide) rfl)
          refine DH.take 3 rfl (by kernel_rfl) (by kernel_rfl) (by kernel_rfl) rfl rfl hS (YH.val (v := (.int .i64 x222)) (fun w' hS' => x_load1 Try.underlying2 rfl rfl (rdF_cells (hS'.rdS 8 rfl hr182) hix227 ha228 0 _ rfl))) ?_
          have hS := (hL.sel [0, 1, 2, 3, 4, 8, 9, 10, 11] (by decide) rfl)
          refine DH.take 4 rfl (by kernel_rfl) (by kernel_rfl) (by kernel_rfl) rfl rfl hS (YH.val (v := v178) (fun w' hS' => x_move)) ?_
          have hS := (hL.sel [0, 1, 2, 3, 4, 8, 9, 10, 11] (by decide) rfl)
          refine DH.take 5 rfl (by kernel_rfl) (by kernel_rfl) (by kernel_rfl) rfl rfl hS (YH.val (v := (.int .i64 a3)) (fun w' hS' => x_load1 Try.underlying2 rfl f143 (hS'.cellB 5 rfl rfl))) ?_
          have hS := (hL.sel [0, 1, 2, 3, 4, 8, 9, 10, 11] (by decide) rfl)
          obtain ⟨x229, ha230, hm⟩ := bndE hm
          obtain ⟨hz231, ha235⟩ := idxE ha230
          obtain ⟨b232, q233, hix234⟩ := rdL_ix (hL.rdS 11 rfl hr182) hz231 ha235
          refine DH.take 6 rfl (by kernel_rfl) (by kernel_rfl) (by kernel_rfl) rfl rfl hS (YH.val (v := (.pointer (some ⟨b232, q233, none⟩))) (fun w' hS' => x_ix Try.underlying25 Try_T2 rfl rfl hix234)) ?_
          have hS := (hL.sel [0, 1, 2, 3, 4, 8, 9, 10, 11] (by decide) rfl)
          refine DH.take 7 rfl (by kernel_rfl) (by kernel_rfl) (by kernel_rfl) rfl rfl hS (YH.val (v := (.int .i64 x229)) (fun w' hS' => x_load1 Try.underlying2 rfl rfl (rdF_cells (hS'.rdS 8 rfl hr182) hix234 ha235 0 _ rfl))) ?_
          have hS := (hL.sel [0, 1, 2, 3, 4, 8, 9, 10, 11] (by decide) rfl)
          refine DH.take 8 rfl (by kernel_rfl) (by kernel_rfl) (by kernel_rfl) rfl rfl hS (YH.val (v := (.int .i64 (w64 (x222 - x229)))) (fun w' hS' => x_sub rfl rfl)) ?_
          have hS := (hL.sel [0, 1, 2, 3, 4, 8, 9, 10, 11] (by decide) rfl)
          refine DH.take 10 rfl (by kernel_rfl) (by kernel_rfl) (by kernel_rfl) rfl rfl hS (YH.val (v := (.int .i64 (i165 : Int))) (fun w' hS' => x_move)) ?_
          obtain ⟨x236, hx237, hm⟩ := bndE hm
          refine DH.only 9 rfl (by kernel_rfl) (OP.call rfl (x_call (vs := [(.int .i64 (w64 (x222 - x229)))]) Try_C97 ⟨rfl, trivial⟩) (M.impl_sign_ok _ (w64 (x222 - x229)) hx237) ?_)
          rintro e238 wd239 ⟨rfl, hF240⟩
          refine ⟨_, rfl, ?_⟩
          have hL := hL.pushAll hF240
          simp only [lA, lB, lC, lD] at hL
          refine ⟨(hL.sel [0, 1, 2, 3, 4, 8, 9, 10, 11] (by decide) rfl), ?_⟩
          refine DH.only 11 rfl (by kernel_rfl) (S_store (cs' := #[(.int .i64 x236)]) hL 7 rfl Try_T2 f144 rfl rfl rfl rfl ?_)
          intro wd241 hL
          refine ⟨(hL.sel [0, 1, 2, 3, 4, 8, 9, 10, 11] (by decide) rfl), ?_⟩
          refine DH.only 12 rfl (by kernel_rfl) (S_store (cs' := #[(.int .i64 3)]) hL 6 rfl Try_T2 f145 rfl rfl rfl rfl ?_)
          intro wd242 hL
          refine ⟨(hL.sel [0, 1, 2, 3, 4, 8, 9, 10, 11] (by decide) rfl), ?_⟩
          refine DH.only 13 rfl (by kernel_rfl) (S_store (cs' := #[(.int .i64 (i165 : Int))]) hL 5 rfl Try_T2 f146 rfl rfl rfl rfl ?_)
          intro wd243 hL
          refine ⟨(hL.sel [0, 1, 2, 3, 4, 8, 9, 10, 11] (by decide) rfl), ?_⟩
          refine DH.done (by kernel_rfl) ?_
          refine CF.ret ?_
          obtain rfl := Option.some.inj hm
          have hm := hr171 _ rfl
          obtain rfl := Option.some.inj hm
          refine ⟨_, hL, fun wq hL => ?_⟩
          refine RM.mark hL 0 rfl (fun wq hL => ?_)
          simp only [List.set_cons_zero, List.set_cons_succ, List.eraseIdx_cons_zero] at hL
          exact RRs (v := (.int .i64 x236)) (v2 := (.int .i64 3)) (vs := [(.int .i64 (i165 : Int))]) (rs := [.cell 8 2, .cell 9 2, .cell 10 2]) rfl ⟨resCell f144 (run_load1 Try.underlying2 rfl (cell_box (hL.get 5 rfl))), resCell f145 (run_load1 Try.underlying2 rfl (cell_box (hL.get 4 rfl))), resCell f146 (run_load1 Try.underlying2 rfl (cell_box (hL.get 3 rfl))), trivial⟩ ⟨rfl, hL.fresh 9 rfl [] (by decide) (by decide) rfl⟩
        · refine CF.skip ?_
          obtain rfl := Option.some.inj hm
          exact ⟨rfl, hL⟩
      · intro D157 wd158 hL hm
        have hm := outcE hm
        have hm : M.impl_compareBoats_a2 (-1) = some r := hm
        unfold M.impl_compareBoats_a2 at hm
        refine SW.ofCF ?_
        refine CF.seq ?_
        refine CF.regionL ?_
        refine OW.cons (S_store (cs' := #[(.int .i64 0)]) hL 6 rfl Try_T2 f144 rfl rfl rfl rfl ?_)
        intro wd159 hL
        refine OW.cons (S_store (cs' := #[(.int .i64 0)]) hL 5 rfl Try_T2 f145 rfl rfl rfl rfl ?_)
        intro wd160 hL
        refine OW.cons (S_store (cs' := #[(.int .i64 0)]) hL 4 rfl Try_T2 f146 rfl rfl rfl rfl ?_)
        intro wd161 hL
        refine OW.nil ?_
        refine CF.ret ?_
        obtain rfl := Option.some.inj hm
        refine RM.mark hL 0 rfl (fun wq hL => ?_)
        simp only [List.set_cons_zero, List.set_cons_succ, List.eraseIdx_cons_zero] at hL
        exact RRs (v := (.int .i64 0)) (v2 := (.int .i64 0)) (vs := [(.int .i64 0)]) (rs := [.cell 8 2, .cell 9 2, .cell 10 2]) rfl ⟨resCell f144 (run_load1 Try.underlying2 rfl (cell_box (hL.get 5 rfl))), resCell f145 (run_load1 Try.underlying2 rfl (cell_box (hL.get 4 rfl))), resCell f146 (run_load1 Try.underlying2 rfl (cell_box (hL.get 3 rfl))), trivial⟩ ⟨rfl, hL.fresh 9 rfl [] (by decide) (by decide) rfl⟩
    · intro s_l1 F244 wd245 t135 hJ hm hr136
      unfold M.impl_compareBoats_l1 at hm
      obtain ⟨f246, f247, f248, f249, f250, f251, f252, f253, f254, f255, hL⟩ := hJ
      refine CW.seq ?_
      refine CW.regionL ?_
      refine OW.cons (OP.val (v := (.bool (decide (s_l1 < (min (x47.length : Int) (x54.length : Int)))))) rfl (x_lss f255 f254) ?_)
      refine OW.nil ?_
      refine CW.seq ?_
      refine CW.condM (t := decide (s_l1 < (min (x47.length : Int) (x54.length : Int)))) rfl hm (fun hb256 hm => ?_) (fun hb256 hm => ?_)
      · refine CW.skip ?_
        refine CW.seq ?_
        refine CW.block ?_
        refine CW.seq ?_
        refine CW.regionL ?_
        refine OW.cons (OP.val (v := (.int .i64 s_l1)) rfl (x_mv f255) ?_)
        refine OW.cons (OP.val (v := (.int .i64 s_l1)) rfl (x_assign) ?_)
        refine OW.nil ?_
        refine CW.seq ?_
        refine CW.draw Try_mixed ?_
        have hL := hL.call (Mod.drew _)
        refine DW.pre (fuel := 0) (fin := ((((((((((Array.replicate 9 false).setIfInBounds 0 true).setIfInBounds 1 true).setIfInBounds 2 true).setIfInBounds 3 true).setIfInBounds 4 true).setIfInBounds 5 true).setIfInBounds 6 true).setIfInBounds 7 true).setIfInBounds 8 true)) (C := fun w' => Mod None_ _ w') [0, 1, 2, 3, 4, 5, 6, 7, 8] (Mod.refl _ _) (by kernel_rfl) (by kernel_rfl) ?_
        refine QW.cons rfl (QP.val (v := v50) rfl (fun w' hm' => x_mv f252) ?_)
        refine QW.cons rfl (QP.val (v := (.int .i64 s_l1)) rfl (fun w' hm' => x_move) ?_)
        obtain ⟨x257, ha258, hm⟩ := bndE hm
        obtain ⟨hz259, ha263⟩ := idxE ha258
        obtain ⟨b260, q261, hix262⟩ := rdL_ix (hL.rdO 1 rfl) hz259 ha263
        refine QW.cons rfl (QP.val (v := (.pointer (some ⟨b260, q261, none⟩))) rfl (fun w' hm' => x_ix Try.underlying25 Try_T2 rfl rfl hix262) ?_)
        refine QW.cons rfl (QP.val (v := (.int .i64 x257)) rfl (fun w' hm' => x_load1 Try.underlying2 rfl rfl (rdF_cells ((hL.call hm').rdO 1 rfl) hix262 ha263 0 _ rfl)) ?_)
        refine QW.cons rfl (QP.val (v := v57) rfl (fun w' hm' => x_mv f253) ?_)
        refine QW.cons rfl (QP.val (v := (.int .i64 s_l1)) rfl (fun w' hm' => x_move) ?_)
        obtain ⟨x264, ha265, hm⟩ := bndE hm
        obtain ⟨hz266, ha270⟩ := idxE ha265
        obtain ⟨b267, q268, hix269⟩ := rdL_ix (hL.rdO 0 rfl) hz266 ha270
        refine QW.cons rfl (QP.val (v := (.pointer (some ⟨b267, q268, none⟩))) rfl (fun w' hm' => x_ix Try.underlying25 Try_T2 rfl rfl hix269) ?_)
        refine QW.cons rfl (QP.val (v := (.int .i64 x264)) rfl (fun w' hm' => x_load1 Try.underlying2 rfl rfl (rdF_cells ((hL.call hm').rdO 0 rfl) hix269 ha270 0 _ rfl)) ?_)
        refine QW.cons rfl (QP.val (v := (.bool (x257 != x264))) rfl (fun w' hm' => x_neq rfl rfl) ?_)
        refine QW.nil ?_
        intro wd271 hmod
        have hL := hL.call hmod
        refine DW.done (by kernel_rfl) ?_
        refine CW.condM (t := x257 != x264) rfl hm (fun hb272 hm => ?_) (fun hb272 hm => ?_)
        · refine CW.seq ?_
          refine CW.draw Try_mixed ?_
          have hL := hL.call (Mod.drew _)
          refine DW.pre (fuel := 3) (fin := (((((((((((Array.replicate 13 false).setIfInBounds 0 true).setIfInBounds 1 true).setIfInBounds 2 true).setIfInBounds 3 true).setIfInBounds 4 true).setIfInBounds 5 true).setIfInBounds 6 true).setIfInBounds 7 true).setIfInBounds 8 true).setIfInBounds 9 true)) (C := fun w' => Mod None_ _ w') [0, 1, 2, 3, 4, 5, 6, 7, 8, 9] (Mod.refl _ _) (by kernel_rfl) (by kernel_rfl) ?_
          refine QW.cons rfl (QP.val (v := v50) rfl (fun w' hm' => x_mv f252) ?_)
          refine QW.cons rfl (QP.val (v := (.int .i64 s_l1)) rfl (fun w' hm' => x_move) ?_)
          obtain ⟨x273, ha274, hm⟩ := bndE hm
          obtain ⟨hz275, ha279⟩ := idxE ha274
          obtain ⟨b276, q277, hix278⟩ := rdL_ix (hL.rdO 1 rfl) hz275 ha279
          refine QW.cons rfl (QP.val (v := (.pointer (some ⟨b276, q277, none⟩))) rfl (fun w' hm' => x_ix Try.underlying25 Try_T2 rfl rfl hix278) ?_)
          refine QW.cons rfl (QP.val (v := (.int .i64 x273)) rfl (fun w' hm' => x_load1 Try.underlying2 rfl rfl (rdF_cells ((hL.call hm').rdO 1 rfl) hix278 ha279 0 _ rfl)) ?_)
          refine QW.cons rfl (QP.val (v := v57) rfl (fun w' hm' => x_mv f253) ?_)
          refine QW.cons rfl (QP.val (v := (.int .i64 s_l1)) rfl (fun w' hm' => x_move) ?_)
          obtain ⟨x280, ha281, hm⟩ := bndE hm
          obtain ⟨hz282, ha286⟩ := idxE ha281
          obtain ⟨b283, q284, hix285⟩ := rdL_ix (hL.rdO 0 rfl) hz282 ha286
          refine QW.cons rfl (QP.val (v := (.pointer (some ⟨b283, q284, none⟩))) rfl (fun w' hm' => x_ix Try.underlying25 Try_T2 rfl rfl hix285) ?_)
          refine QW.cons rfl (QP.val (v := (.int .i64 x280)) rfl (fun w' hm' => x_load1 Try.underlying2 rfl rfl (rdF_cells ((hL.call hm').rdO 0 rfl) hix285 ha286 0 _ rfl)) ?_)
          refine QW.cons rfl (QP.val (v := (.int .i64 (w64 (x273 - x280)))) rfl (fun w' hm' => x_sub rfl rfl) ?_)
          obtain ⟨x287, hx288, hm⟩ := bndE hm
          refine QW.cons rfl (QP.call (v := (.int .i64 x287)) rfl (fun w' hm' => x_call (vs := [(.int .i64 (w64 (x273 - x280)))]) Try_C97 ⟨rfl, trivial⟩) (fun w' hm' => (M.impl_sign_ok w' (w64 (x273 - x280)) hx288).mono (fun e w'' h => ⟨h.1, hm'.trans h.2.mod⟩)) ?_)
          refine QW.nil ?_
          intro wd289 hmod
          have hL := hL.call hmod
          refine DW.only 10 rfl (by kernel_rfl) (S_store (cs' := #[(.int .i64 x287)]) hL 4 rfl Try_T2 f249 rfl rfl rfl rfl ?_)
          intro wd290 hL
          refine DW.only 11 rfl (by kernel_rfl) (S_store (cs' := #[(.int .i64 2)]) hL 3 rfl Try_T2 f250 rfl rfl rfl rfl ?_)
          intro wd291 hL
          refine DW.only 12 rfl (by kernel_rfl) (S_store (cs' := #[(.int .i64 0)]) hL 2 rfl Try_T2 f251 rfl rfl rfl rfl ?_)
          intro wd292 hL
          refine DW.done (by kernel_rfl) ?_
          refine CW.ret ?_
          refine RM.nil ?_
          obtain rfl := Option.some.inj hm
          have hm := hr136 _ rfl
          obtain rfl := Option.some.inj hm
          exact RRs (v := (.int .i64 x287)) (v2 := (.int .i64 2)) (vs := [(.int .i64 0)]) (rs := [.cell 8 2, .cell 9 2, .cell 10 2]) rfl ⟨resCell f249 (run_load1 Try.underlying2 rfl (cell_box (hL.get 4 rfl))), resCell f250 (run_load1 Try.underlying2 rfl (cell_box (hL.get 3 rfl))), resCell f251 (run_load1 Try.underlying2 rfl (cell_box (hL.get 2 rfl))), trivial⟩ ⟨rfl, hL.fresh 8 rfl [] (by decide) (by decide) rfl⟩
        · refine CW.skip ?_
          refine CW.regionL ?_
          refine OW.cons (OP.val (v := (.int .i64 (w64 (s_l1 + 1)))) rfl (x_add f255 rfl) ?_)
          refine OW.cons (OP.val (v := (.int .i64 (w64 (s_l1 + 1)))) rfl (x_move) ?_)
          refine OW.nil ?_
          obtain rfl := Option.some.inj hm
          exact ⟨_, rfl, ⟨f246, f247, f248, f249, f250, f251, f252, f253, f254, rfl, hL⟩⟩
      · refine CW.exit ?_
        refine XJ.hit ?_
        obtain rfl := Option.some.inj hm
        exact ⟨_, rfl, ⟨f246, f247, f248, f249, f250, f251, f252, f253, f254, f255, hL⟩⟩

theorem M.laws_eqInt64S_ok (w0 : World) (a0 : List Int) {v1 : Value} (h2 : rdL (· < w0.heap.size) w0 v1 a0) (a1 : List Int) {v3 : Value} (h4 : rdL (· < w0.heap.size) w0 v3 a1) {r : Bool} (hm : M.laws_eqInt64S a0 a1 = some r) :
    Calls Try.prog 19 #[v1, v3] w0 fun e w' => e = .returned (.bool r) ∧ Fresh w0 w' [] := by
  unfold M.laws_eqInt64S at hm
  refine calls_CW (args := [v1, v3]) Try.func19 rfl rfl rfl ?_
  have hL := Hp.start w0
  refine CW.seq ?_
  refine CW.regionL ?_
  refine OW.cons (OP.val (v := (.bool false)) rfl (x_assign) ?_)
  refine OW.nil ?_
  refine CW.seq ?_
  refine CW.seq ?_
  refine CW.regionL ?_
  refine OW.cons (OP.val (v := v1) rfl (x_move) ?_)
  refine OW.cons (OP.val (v := (.int .i64 (a0.length : Int))) rfl (x_lenR Try.underlying25 rfl (hL.rdS 0 rfl h2)) ?_)
  refine OW.cons (OP.val (v := v3) rfl (x_move) ?_)
  refine OW.cons (OP.val (v := (.int .i64 (a1.length : Int))) rfl (x_lenR Try.underlying25 rfl (hL.rdS 0 rfl h4)) ?_)
  refine OW.cons (OP.val (v := (.bool ((a0.length : Int) != (a1.length : Int)))) rfl (x_neq rfl rfl) ?_)
  refine OW.nil ?_
  refine CW.condM (t := (a0.length : Int) != (a1.length : Int)) rfl hm (fun hb5 hm => ?_) (fun hb5 hm => ?_)
  · refine CW.seq ?_
    refine CW.regionL ?_
    refine OW.cons (OP.val (v := (.bool false)) rfl (x_assign) ?_)
    refine OW.nil ?_
    refine CW.ret ?_
    obtain rfl := Option.some.inj hm
    exact RR1 rfl rfl ⟨rfl, hL.fresh 0 rfl [] (by decide) (by decide) rfl⟩
  · refine CW.skip ?_
    refine CW.seq ?_
    refine CW.seq ?_
    refine CW.regionL ?_
    refine OW.cons (OP.val (v := (.int .i64 0)) rfl (x_assign) ?_)
    refine OW.nil ?_
    obtain ⟨o42, ho43, hm⟩ := bndE hm
    refine CW.loopB (fun (s_l1 : Int) (F : Fr) (w : World) => F 0 = v1 ∧ F 1 = v3 ∧ F 5 = (.int .i64 s_l1) ∧ Hp w0 [Ent.snap w0 w0.heap.size] w) (fun o => outc o (fun x => some x) (fun s => M.laws_eqInt64S_a1 s) = some r) ho43 hm ⟨rfl, rfl, rfl, hL⟩ ?_ ?_
    · intro s_l1 F44 wd45 hJ hm
      have hm := outcE hm
      have hm : M.laws_eqInt64S_a1 s_l1 = some r := hm
      unfold M.laws_eqInt64S_a1 at hm
      obtain ⟨f46, f47, f48, hL⟩ := hJ
      refine CW.seq ?_
      refine CW.regionL ?_
      refine OW.cons (OP.val (v := (.bool true)) rfl (x_assign) ?_)
      refine OW.nil ?_
      refine CW.ret ?_
      obtain rfl := Option.some.inj hm
      exact RR1 rfl rfl ⟨rfl, hL.fresh 0 rfl [] (by decide) (by decide) rfl⟩
    · intro s_l1 F49 wd50 t40 hJ hm hr41
      unfold M.laws_eqInt64S_l1 at hm
      obtain ⟨f51, f52, f53, hL⟩ := hJ
      refine CW.seq ?_
      refine CW.seq ?_
      refine CW.regionL ?_
      refine OW.cons (OP.val (v := (.int .i64 s_l1)) rfl (x_mv f53) ?_)
      refine OW.cons (OP.val (v := v1) rfl (x_mv f51) ?_)
      refine OW.cons (OP.val (v := (.int .i64 (a0.length : Int))) rfl (x_lenR Try.underlying25 rfl (hL.rdS 0 rfl h2)) ?_)
      refine OW.cons (OP.val (v := (.bool (decide (s_l1 < (a0.length : Int))))) rfl (x_lss rfl rfl) ?_)
      refine OW.nil ?_
      refine CW.condM (t := decide (s_l1 < (a0.length : Int))) rfl hm (fun hb54 hm => ?_) (fun hb54 hm => ?_)
      · refine CW.skip ?_
        refine CW.seq ?_
        refine CW.block ?_
        refine CW.seq ?_
        refine CW.draw Try_mixed ?_
        have hL := hL.call (Mod.drew _)
        refine DW.pre (fuel := 0) (fin := ((((((((((Array.replicate 9 false).setIfInBounds 0 true).setIfInBounds 1 true).setIfInBounds 2 true).setIfInBounds 3 true).setIfInBounds 4 true).setIfInBounds 5 true).setIfInBounds 6 true).setIfInBounds 7 true).setIfInBounds 8 true)) (C := fun w' => Mod None_ _ w') [0, 1, 2, 3, 4, 5, 6, 7, 8] (Mod.refl _ _) (by kernel_rfl) (by kernel_rfl) ?_
        refine QW.cons rfl (QP.val (v := v1) rfl (fun w' hm' => x_mv f51) ?_)
        refine QW.cons rfl (QP.val (v := (.int .i64 s_l1)) rfl (fun w' hm' => x_mv f53) ?_)
        obtain ⟨x55, ha56, hm⟩ := bndE hm
        obtain ⟨hz57, ha61⟩ := idxE ha56
        obtain ⟨b58, q59, hix60⟩ := rdL_ix (hL.rdS 0 rfl h2) hz57 ha61
        refine QW.cons rfl (QP.val (v := (.pointer (some ⟨b58, q59, none⟩))) rfl (fun w' hm' => x_ix Try.underlying25 Try_T2 rfl rfl hix60) ?_)
        refine QW.cons rfl (QP.val (v := (.int .i64 x55)) rfl (fun w' hm' => x_load1 Try.underlying2 rfl rfl (rdF_cells ((hL.call hm').rdS 0 rfl h2) hix60 ha61 0 _ rfl)) ?_)
        refine QW.cons rfl (QP.val (v := v3) rfl (fun w' hm' => x_mv f52) ?_)
        refine QW.cons rfl (QP.val (v := (.int .i64 s_l1)) rfl (fun w' hm' => x_mv f53) ?_)
        obtain ⟨x62, ha63, hm⟩ := bndE hm
        obtain ⟨hz64, ha68⟩ := idxE ha63
        obtain ⟨b65, q66, hix67⟩ := rdL_ix (hL.rdS 0 rfl h4) hz64 ha68
        refine QW.cons rfl (QP.val (v := (.pointer (some ⟨b65, q66, none⟩))) rfl (fun w' hm' => x_ix Try.underlying25 Try_T2 rfl rfl hix67) ?_)
        refine QW.cons rfl (QP.val (v := (.int .i64 x62)) rfl (fun w' hm' => x_load1 Try.underlying2 rfl rfl (rdF_cells ((hL.call hm').rdS 0 rfl h4) hix67 ha68 0 _ rfl)) ?_)
        refine QW.cons rfl (QP.val (v := (.bool (x55 != x62))) rfl (fun w' hm' => x_neq rfl rfl) ?_)
        refine QW.nil ?_
        intro wd69 hmod
        have hL := hL.call hmod
        refine DW.done (by kernel_rfl) ?_
        refine CW.condM (t := x55 != x62) rfl hm (fun hb70 hm => ?_) (fun hb70 hm => ?_)
        · refine CW.seq ?_
          refine CW.regionL ?_
          refine OW.cons (OP.val (v := (.bool false)) rfl (x_assign) ?_)
          refine OW.nil ?_
          refine CW.ret ?_
          obtain rfl := Option.some.inj hm
          have hm := hr41 _ rfl
          obtain rfl := Option.some.inj hm
          exact RR1 rfl rfl ⟨rfl, hL.fresh 0 rfl [] (by decide) (by decide) rfl⟩
        · refine CW.skip ?_
          refine CW.regionL ?_
          refine OW.cons (OP.val (v := (.int .i64 s_l1)) rfl (x_mv f53) ?_)
          refine OW.cons (OP.val (v := (.int .i64 (w64 (s_l1 + 1)))) rfl (x_add rfl rfl) ?_)
          refine OW.cons (OP.val (v := (.int .i64 (w64 (s_l1 + 1)))) rfl (x_assign) ?_)
          refine OW.nil ?_
          obtain rfl := Option.some.inj hm
          exact ⟨_, rfl, ⟨f51, f52, rfl, hL⟩⟩
      · refine CW.exit ?_
        refine XJ.hit ?_
        obtain rfl := Option.some.inj hm
        exact ⟨_, rfl, ⟨f51, f52, f53, hL⟩⟩

theorem M.laws_eqInt64SS_ok (w0 : World) (a0 : List (List Int)) {v1 : Value} (h2 : rdL (· < w0.heap.size) w0 v1 a0) (a1 : List (List Int)) {v3 : Value} (h4 : rdL (· < w0.heap.size) w0 v3 a1) {r : Bool} (hm : M.laws_eqInt64SS a0 a1 = some r) :
    Calls Try.prog 33 #[v1, v3] w0 fun e w' => e = .returned (.bool r) ∧ Fresh w0 w' [] := by
  unfold M.laws_eqInt64SS at hm
  refine calls_CW (args := [v1, v3]) Try.func33 rfl rfl rfl ?_
  have hL := Hp.start w0
  refine CW.seq ?_
  refine CW.regionL ?_
  refine OW.cons (OP.val (v := (.bool false)) rfl (x_assign) ?_)
  refine OW.nil ?_
  refine CW.seq ?_
  refine CW.seq ?_
  refine CW.regionL ?_
  refine OW.cons (OP.val (v := v1) rfl (x_move) ?_)
  refine OW.cons (OP.val (v := (.int .i64 (a0.length : Int))) rfl (x_lenR Try.underlying22 rfl (hL.rdS 0 rfl h2)) ?_)
  refine OW.cons (OP.val (v := v3) rfl (x_move) ?_)
  refine OW.cons (OP.val (v := (.int .i64 (a1.length : Int))) rfl (x_lenR Try.underlying22 rfl (hL.rdS 0 rfl h4)) ?_)
  refine OW.cons (OP.val (v := (.bool ((a0.length : Int) != (a1.length : Int)))) rfl (x_neq rfl rfl) ?_)
  refine OW.nil ?_
  refine CW.condM (t := (a0.length : Int) != (a1.length : Int)) rfl hm (fun hb5 hm => ?_) (fun hb5 hm => ?_)
  · refine CW.seq ?_
    refine CW.regionL ?_
    refine OW.cons (OP.val (v := (.bool false)) rfl (x_assign) ?_)
    refine OW.nil ?_
    refine CW.ret ?_
    obtain rfl := Option.some.inj hm
    exact RR1 rfl rfl ⟨rfl, hL.fresh 0 rfl [] (by decide) (by decide) rfl⟩
  · refine CW.skip ?_
    refine CW.seq ?_
    refine CW.seq ?_
    refine CW.regionL ?_
    refine OW.cons (OP.val (v := (.int .i64 0)) rfl (x_assign) ?_)
    refine OW.nil ?_
    obtain ⟨o62, ho63, hm⟩ := bndE hm
    refine CW.loopB (fun (s_l1 : Int) (F : Fr) (w : World) => F 0 = v1 ∧ F 1 = v3 ∧ F 5 = (.int .i64 s_l1) ∧ Hp w0 [Ent.snap w0 w0.heap.size] w) (fun o => outc o (fun x => some x) (fun s => M.laws_eqInt64SS_a1 s) = some r) ho63 hm ⟨rfl, rfl, rfl, hL⟩ ?_ ?_
    · intro s_l1 F64 wd65 hJ hm
      have hm := outcE hm
      have hm : M.laws_eqInt64SS_a1 s_l1 = some r := hm
      unfold M.laws_eqInt64SS_a1 at hm
      obtain ⟨f66, f67, f68, hL⟩ := hJ
      refine CW.seq ?_
      refine CW.regionL ?_
      refine OW.cons (OP.val (v := (.bool true)) rfl (x_assign) ?_)
      refine OW.nil ?_
      refine CW.ret ?_
      obtain rfl := Option.some.inj hm
      exact RR1 rfl rfl ⟨rfl, hL.fresh 0 rfl [] (by decide) (by decide) rfl⟩
    · intro s_l1 F69 wd70 t60 hJ hm hr61
      unfold M.laws_eqInt64SS_l1 at hm
      obtain ⟨f71, f72, f73, hL⟩ := hJ
      refine CW.seq ?_
      refine CW.seq ?_
      refine CW.regionL ?_
      refine OW.cons (OP.val (v := (.int .i64 s_l1)) rfl (x_mv f73) ?_)
      refine OW.cons (OP.val (v := v1) rfl (x_mv f71) ?_)
      refine OW.cons (OP.val (v := (.int .i64 (a0.length : Int))) rfl (x_lenR Try.underlying22 rfl (hL.rdS 0 rfl h2)) ?_)
      refine OW.cons (OP.val (v := (.bool (decide (s_l1 < (a0.length : Int))))) rfl (x_lss rfl rfl) ?_)
      refine OW.nil ?_
      refine CW.condM (t := decide (s_l1 < (a0.length : Int))) rfl hm (fun hb74 hm => ?_) (fun hb74 hm => ?_)
      · refine CW.skip ?_
        refine CW.seq ?_
        refine CW.block ?_
        refine CW.seq ?_
        refine CW.draw Try_mixed ?_
        have hL := hL.call (Mod.drew _)
        refine DW.pre (fuel := 0) (fin := (((((((((((Array.replicate 10 false).setIfInBounds 0 true).setIfInBounds 1 true).setIfInBounds 2 true).setIfInBounds 3 true).setIfInBounds 4 true).setIfInBounds 5 true).setIfInBounds 6 true).setIfInBounds 7 true).setIfInBounds 8 true).setIfInBounds 9 true)) (C := fun w' => Mod None_ _ w') [0, 1, 2, 3, 4, 5, 6, 7, 8, 9] (Mod.refl _ _) (by kernel_rfl) (by kernel_rfl) ?_
        refine QW.cons rfl (QP.val (v := v1) rfl (fun w' hm' => x_mv f71) ?_)
        refine QW.cons rfl (QP.val (v := (.int .i64 s_l1)) rfl (fun w' hm' => x_mv f73) ?_)
        obtain ⟨x75, ha76, hm⟩ := bndE hm
        obtain ⟨hz77, ha85⟩ := idxE ha76
        obtain ⟨b78, q79, v80, hix81, hs82, hc83, hr84⟩ := rdN_at h2 hz77 ha85
        refine QW.cons rfl (QP.val (v := (.pointer (some ⟨b78, q79, none⟩))) rfl (fun w' hm' => x_ix Try.underlying22 Try_T25 rfl rfl hix81) ?_)
        refine QW.cons rfl (QP.val (v := v80) rfl (fun w' hm' => x_load1 Try.underlying25 rfl rfl ((hL.call hm').cellS 0 rfl hs82 hc83)) ?_)
        refine QW.cons rfl (QP.val (v := v3) rfl (fun w' hm' => x_mv f72) ?_)
        refine QW.cons rfl (QP.val (v := (.int .i64 s_l1)) rfl (fun w' hm' => x_mv f73) ?_)
        obtain ⟨x86, ha87, hm⟩ := bndE hm
        obtain ⟨hz88, ha96⟩ := idxE ha87
        obtain ⟨b89, q90, v91, hix92, hs93, hc94, hr95⟩ := rdN_at h4 hz88 ha96
        refine QW.cons rfl (QP.val (v := (.pointer (some ⟨b89, q90, none⟩))) rfl (fun w' hm' => x_ix Try.underlying22 Try_T25 rfl rfl hix92) ?_)
        refine QW.cons rfl (QP.val (v := v91) rfl (fun w' hm' => x_load1 Try.underlying25 rfl rfl ((hL.call hm').cellS 0 rfl hs93 hc94)) ?_)
        obtain ⟨x97, hx98, hm⟩ := bndE hm
        refine QW.cons rfl (QP.call (v := (.bool x97)) rfl (fun w' hm' => x_call (vs := [v80, v91]) Try_C19 ⟨rfl, rfl, trivial⟩) (fun w' hm' => (M.laws_eqInt64S_ok w' x75 ((hL.call hm').rdS 0 rfl hr84) x86 ((hL.call hm').rdS 0 rfl hr95) hx98).mono (fun e w'' h => ⟨h.1, hm'.trans h.2.mod⟩)) ?_)
        refine QW.cons rfl (QP.val (v := (.bool (!x97))) rfl (fun w' hm' => x_not rfl) ?_)
        refine QW.nil ?_
        intro wd99 hmod
        have hL := hL.call hmod
        refine DW.done (by kernel_rfl) ?_
        refine CW.condM (t := !x97) rfl hm (fun hb100 hm => ?_) (fun hb100 hm => ?_)
        · refine CW.seq ?_
          refine CW.regionL ?_
          refine OW.cons (OP.val (v := (.bool false)) rfl (x_assign) ?_)
          refine OW.nil ?_
          refine CW.ret ?_
          obtain rfl := Option.some.inj hm
          have hm := hr61 _ rfl
          obtain rfl := Option.some.inj hm
          exact RR1 rfl rfl ⟨rfl, hL.fresh 0 rfl [] (by decide) (by decide) rfl⟩
        · refine CW.skip ?_
          refine CW.regionL ?_
          refine OW.cons (OP.val (v := (.int .i64 s_l1)) rfl (x_mv f73) ?_)
          refine OW.cons (OP.val (v := (.int .i64 (w64 (s_l1 + 1)))) rfl (x_add rfl rfl) ?_)
          refine OW.cons (OP.val (v := (.int .i64 (w64 (s_l1 + 1)))) rfl (x_assign) ?_)
          refine OW.nil ?_
          obtain rfl := Option.some.inj hm
          exact ⟨_, rfl, ⟨f71, f72, rfl, hL⟩⟩
      · refine CW.exit ?_
        refine XJ.hit ?_
        obtain rfl := Option.some.inj hm
        exact ⟨_, rfl, ⟨f71, f72, f73, hL⟩⟩

theorem M.laws_eqTable_ok (w0 : World) (a0 : Table) {v1 : Value} {v3 : Value} (h2 : rdL (· < w0.heap.size) w0 v1 a0.Points) (h4 : rdL (· < w0.heap.size) w0 v3 a0.Codes) (a1 : Table) {v5 : Value} {v7 : Value} (h6 : rdL (· < w0.heap.size) w0 v5 a1.Points) (h8 : rdL (· < w0.heap.size) w0 v7 a1.Codes) {r : Bool} (hm : M.laws_eqTable a0 a1 = some r) :
    Calls Try.prog 18 #[(.agg #[(.int .i64 a0.Boats), v1, v3]), (.agg #[(.int .i64 a1.Boats), v5, v7])] w0 fun e w' => e = .returned (.bool r) ∧ Fresh w0 w' [] := by
  unfold M.laws_eqTable at hm
  refine calls_CW (args := [(.agg #[(.int .i64 a0.Boats), v1, v3]), (.agg #[(.int .i64 a1.Boats), v5, v7])]) Try.func18 rfl rfl rfl ?_
  have hL := Hp.start w0
  refine CW.seq ?_
  refine CW.regionL ?_
  refine OW.cons (S_box (cs := #[(.int .i64 a0.Boats), v1, v3]) hL rfl rfl rfl ?_)
  intro wd9 b10 hL
  refine OW.cons (S_box (cs := #[(.int .i64 a1.Boats), v5, v7]) hL rfl rfl rfl ?_)
  intro wd11 b12 hL
  refine OW.cons (OP.val (v := (.bool false)) rfl (x_assign) ?_)
  refine OW.nil ?_
  refine CW.seq ?_
  refine CW.seq ?_
  refine CW.regionL ?_
  refine OW.cons (OP.val (v := (.pointer (some ⟨b10, 0, none⟩))) rfl (x_fieldAddr (fsz := 1) 0 0 0 Try.underlying29 rfl Try_T2 rfl rfl rfl) ?_)
  refine OW.cons (OP.val (v := (.int .i64 a0.Boats)) rfl (x_load1 Try.underlying2 rfl rfl (hL.cellB 1 rfl rfl)) ?_)
  refine OW.cons (OP.val (v := (.pointer (some ⟨b12, 0, none⟩))) rfl (x_fieldAddr (fsz := 1) 0 0 0 Try.underlying29 rfl Try_T2 rfl rfl rfl) ?_)
  refine OW.cons (OP.val (v := (.int .i64 a1.Boats)) rfl (x_load1 Try.underlying2 rfl rfl (hL.cellB 0 rfl rfl)) ?_)
  refine OW.cons (OP.val (v := (.bool (a0.Boats != a1.Boats))) rfl (x_neq rfl rfl) ?_)
  refine OW.nil ?_
  refine CW.condM (t := a0.Boats != a1.Boats) rfl hm (fun hb13 hm => ?_) (fun hb13 hm => ?_)
  · refine CW.seq ?_
    refine CW.regionL ?_
    refine OW.cons (OP.val (v := (.bool false)) rfl (x_assign) ?_)
    refine OW.nil ?_
    refine CW.ret ?_
    obtain rfl := Option.some.inj hm
    exact RR1 rfl rfl ⟨rfl, hL.fresh 2 rfl [] (by decide) (by decide) rfl⟩
  · refine CW.skip ?_
    refine CW.seq ?_
    refine CW.seq ?_
    refine CW.regionL ?_
    refine OW.cons (OP.val (v := (.pointer (some ⟨b10, 1, none⟩))) rfl (x_fieldAddr (fsz := 1) 0 1 1 Try.underlying29 rfl Try_T22 rfl rfl rfl) ?_)
    refine OW.cons (OP.val (v := v1) rfl (x_load1 Try.underlying22 rfl rfl (hL.cellB 1 rfl rfl)) ?_)
    refine OW.cons (OP.val (v := (.pointer (some ⟨b12, 1, none⟩))) rfl (x_fieldAddr (fsz := 1) 0 1 1 Try.underlying29 rfl Try_T22 rfl rfl rfl) ?_)
    refine OW.cons (OP.val (v := v5) rfl (x_load1 Try.underlying22 rfl rfl (hL.cellB 0 rfl rfl)) ?_)
    obtain ⟨x14, hx15, hm⟩ := bndE hm
    refine OW.cons (OP.call rfl (x_call (vs := [v1, v5]) Try_C33 ⟨rfl, rfl, trivial⟩) (M.laws_eqInt64SS_ok _ a0.Points (hL.rdS 2 rfl h2) a1.Points (hL.rdS 2 rfl h6) hx15) ?_)
    rintro e16 wd17 ⟨rfl, hF18⟩
    refine ⟨_, rfl, ?_⟩
    have hL := hL.pushAll hF18
    simp only [lA, lB, lC, lD] at hL
    refine OW.cons (OP.val (v := (.bool (!x14))) rfl (x_not rfl) ?_)
    refine OW.nil ?_
    refine CW.condM (t := !x14) rfl hm (fun hb19 hm => ?_) (fun hb19 hm => ?_)
    · refine CW.seq ?_
      refine CW.regionL ?_
      refine OW.cons (OP.val (v := (.bool false)) rfl (x_assign) ?_)
      refine OW.nil ?_
      refine CW.ret ?_
      obtain rfl := Option.some.inj hm
      exact RR1 rfl rfl ⟨rfl, hL.fresh 2 rfl [] (by decide) (by decide) rfl⟩
    · refine CW.skip ?_
      refine CW.seq ?_
      refine CW.seq ?_
      refine CW.regionL ?_
      refine OW.cons (OP.val (v := (.pointer (some ⟨b10, 2, none⟩))) rfl (x_fieldAddr (fsz := 1) 0 2 2 Try.underlying29 rfl Try_T22 rfl rfl rfl) ?_)
      refine OW.cons (OP.val (v := v3) rfl (x_load1 Try.underlying22 rfl rfl (hL.cellB 1 rfl rfl)) ?_)
      refine OW.cons (OP.val (v := (.pointer (some ⟨b12, 2, none⟩))) rfl (x_fieldAddr (fsz := 1) 0 2 2 Try.underlying29 rfl Try_T22 rfl rfl rfl) ?_)
      refine OW.cons (OP.val (v := v7) rfl (x_load1 Try.underlying22 rfl rfl (hL.cellB 0 rfl rfl)) ?_)
      obtain ⟨x20, hx21, hm⟩ := bndE hm
      refine OW.cons (OP.call rfl (x_call (vs := [v3, v7]) Try_C33 ⟨rfl, rfl, trivial⟩) (M.laws_eqInt64SS_ok _ a0.Codes (hL.rdS 2 rfl h4) a1.Codes (hL.rdS 2 rfl h8) hx21) ?_)
      rintro e22 wd23 ⟨rfl, hF24⟩
      refine ⟨_, rfl, ?_⟩
      have hL := hL.pushAll hF24
      simp only [lA, lB, lC, lD] at hL
      refine OW.cons (OP.val (v := (.bool (!x20))) rfl (x_not rfl) ?_)
      refine OW.nil ?_
      refine CW.condM (t := !x20) rfl hm (fun hb25 hm => ?_) (fun hb25 hm => ?_)
      · refine CW.seq ?_
        refine CW.regionL ?_
        refine OW.cons (OP.val (v := (.bool false)) rfl (x_assign) ?_)
        refine OW.nil ?_
        refine CW.ret ?_
        obtain rfl := Option.some.inj hm
        exact RR1 rfl rfl ⟨rfl, hL.fresh 2 rfl [] (by decide) (by decide) rfl⟩
      · refine CW.skip ?_
        refine CW.seq ?_
        refine CW.regionL ?_
        refine OW.cons (OP.val (v := (.bool true)) rfl (x_assign) ?_)
        refine OW.nil ?_
        refine CW.ret ?_
        obtain rfl := Option.some.inj hm
        exact RR1 rfl rfl ⟨rfl, hL.fresh 2 rfl [] (by decide) (by decide) rfl⟩

theorem M.spec_l28Rank_ok (w0 : World) (a0 : Table) {v1 : Value} {v3 : Value} (h2 : rdL (· < w0.heap.size) w0 v1 a0.Points) (h4 : rdL (· < w0.heap.size) w0 v3 a0.Codes) (a1 : List Int) {v5 : Value} (h6 : rdL (· < w0.heap.size) w0 v5 a1) (a2 : Int) {r : Int} (hm : M.spec_l28Rank a0 a1 a2 = some r) :
    Calls Try.prog 64 #[(.agg #[(.int .i64 a0.Boats), v1, v3]), v5, (.int .i64 a2)] w0 fun e w' => e = .returned (.int .i64 r) ∧ Fresh w0 w' [] := by
  unfold M.spec_l28Rank at hm
  refine calls_CW (args := [(.agg #[(.int .i64 a0.Boats), v1, v3]), v5, (.int .i64 a2)]) Try.func64 rfl rfl rfl ?_
  have hL := Hp.start w0
  refine CW.seq ?_
  refine CW.regionL ?_
  refine OW.cons (S_box (cs := #[(.int .i64 a0.Boats), v1, v3]) hL rfl rfl rfl ?_)
  intro wd7 b8 hL
  refine OW.cons (OP.val (v := (.int .i64 0)) rfl (x_assign) ?_)
  refine OW.nil ?_
  refine CW.seq ?_
  refine CW.regionL ?_
  refine OW.cons (OP.val (v := (.int .i64 1)) rfl (x_assign) ?_)
  refine OW.nil ?_
  refine CW.seq ?_
  refine CW.seq ?_
  refine CW.regionL ?_
  refine OW.cons (OP.val (v := (.int .i64 0)) rfl (x_assign) ?_)
  refine OW.nil ?_
  obtain ⟨o103, ho104, hm⟩ := bndE hm
  refine CW.loopB (fun (s_l1 : Int × Int) (F : Fr) (w : World) => F 1 = v5 ∧ F 2 = (.int .i64 a2) ∧ F 3 = (.pointer (some ⟨b8, 0, none⟩)) ∧ F 7 = (.int .i64 s_l1.1) ∧ F 8 = (.int .i64 s_l1.2) ∧ Hp w0 [Ent.blk b8 29 #[(.int .i64 a0.Boats), v1, v3], Ent.snap w0 w0.heap.size] w) (fun o => outc o (fun x => some x) (fun s => M.spec_l28Rank_a1 s) = some r) ho104 hm ⟨rfl, rfl, rfl, rfl, rfl, hL⟩ ?_ ?_
  · intro s_l1 F105 wd106 hJ hm
    have hm := outcE hm
    have hm : M.spec_l28Rank_a1 s_l1 = some r := hm
    unfold M.spec_l28Rank_a1 at hm
    obtain ⟨f107, f108, f109, f110, f111, hL⟩ := hJ
    refine CW.seq ?_
    refine CW.regionL ?_
    refine OW.cons (OP.val (v := (.int .i64 s_l1.1)) rfl (x_mv f110) ?_)
    refine OW.cons (OP.val (v := (.int .i64 s_l1.1)) rfl (x_assign) ?_)
    refine OW.nil ?_
    refine CW.ret ?_
    obtain rfl := Option.some.inj hm
    exact RR1 rfl rfl ⟨rfl, hL.fresh 1 rfl [] (by decide) (by decide) rfl⟩
  · intro s_l1 F112 wd113 t101 hJ hm hr102
    unfold M.spec_l28Rank_l1 at hm
    obtain ⟨f114, f115, f116, f117, f118, hL⟩ := hJ
    refine CW.seq ?_
    refine CW.seq ?_
    refine CW.regionL ?_
    refine OW.cons (OP.val (v := (.int .i64 s_l1.2)) rfl (x_mv f118) ?_)
    refine OW.cons (OP.val (v := (.pointer (some ⟨b8, 0, none⟩))) rfl (x_fieldAddr (fsz := 1) 0 0 0 Try.underlying29 rfl Try_T2 rfl f116 rfl) ?_)
    refine OW.cons (OP.val (v := (.int .i64 a0.Boats)) rfl (x_load1 Try.underlying2 rfl rfl (hL.cellB 0 rfl rfl)) ?_)
    refine OW.cons (OP.val (v := (.bool (decide (s_l1.2 < a0.Boats)))) rfl (x_lss rfl rfl) ?_)
    refine OW.nil ?_
    refine CW.condM (t := decide (s_l1.2 < a0.Boats)) rfl hm (fun hb119 hm => ?_) (fun hb119 hm => ?_)
    · refine CW.skip ?_
      refine CW.seqJ (fun (s_j1 : Int) (F : Fr) (w : World) => F 1 = v5 ∧ F 2 = (.int .i64 a2) ∧ F 3 = (.pointer (some ⟨b8, 0, none⟩)) ∧ F 7 = (.int .i64 s_j1) ∧ F 8 = (.int .i64 s_l1.2) ∧ Hp w0 [Ent.blk b8 29 #[(.int .i64 a0.Boats), v1, v3], Ent.snap w0 w0.heap.size] w) (fun s_j1 => M.spec_l28Rank_j1 s_l1 s_j1 = some t101) ?_ ?_
      · refine CW.blockJ (fun (s_j2 : Int) (F : Fr) (w : World) => F 1 = v5 ∧ F 2 = (.int .i64 a2) ∧ F 3 = (.pointer (some ⟨b8, 0, none⟩)) ∧ F 7 = (.int .i64 s_j2) ∧ F 8 = (.int .i64 s_l1.2) ∧ Hp w0 [Ent.blk b8 29 #[(.int .i64 a0.Boats), v1, v3], Ent.snap w0 w0.heap.size] w) (fun s_j2 => M.spec_l28Rank_j2 s_l1 s_j2 = some t101) ?_ ?_
        · refine CW.seq ?_
          refine CW.regionL ?_
          refine OW.cons (OP.val (v := (.agg #[(.int .i64 a0.Boats), v1, v3])) rfl (x_loadN (cs := [(.int .i64 a0.Boats), v1, v3]) Try.underlying29 Try_T29 rfl f116 (hL.cellsB 0 rfl (o := 0) (l := [(.int .i64 a0.Boats), v1, v3]) (by intro j u hj; exact (by simpa using hj)))) ?_)
          refine OW.cons (OP.val (v := v5) rfl (x_mv f114) ?_)
          refine OW.cons (OP.val (v := (.int .i64 s_l1.2)) rfl (x_mv f118) ?_)
          refine OW.cons (OP.val (v := (.int .i64 a2)) rfl (x_mv f115) ?_)
          obtain ⟨x159, hx160, hm⟩ := bndE hm
          refine OW.cons (OP.call rfl (x_call (vs := [(.agg #[(.int .i64 a0.Boats), v1, v3]), v5, (.int .i64 s_l1.2), (.int .i64 a2)]) Try_C59 ⟨rfl, rfl, rfl, rfl, trivial⟩) (M.spec_l28Compare_ok _ a0 (hL.rdS 1 rfl h2) (hL.rdS 1 rfl h4) a1 (hL.rdS 1 rfl h6) s_l1.2 a2 hx160) ?_)
          rintro e161 wd162 ⟨rfl, hF163⟩
          refine ⟨_, rfl, ?_⟩
          have hL := hL.pushAll hF163
          simp only [lA, lB, lC, lD] at hL
          refine OW.cons (OP.val (v := (.tuple #[(.int .i64 x159.1), (.int .i64 x159.2.1), (.int .i64 x159.2.2)])) rfl (x_move) ?_)
          refine OW.cons (OP.val (v := (.int .i64 x159.1)) rfl (x_extract rfl rfl) ?_)
          refine OW.cons (OP.val (v := (.int .i64 x159.2.1)) rfl (x_extract rfl rfl) ?_)
          refine OW.cons (OP.val (v := (.int .i64 x159.2.2)) rfl (x_extract rfl rfl) ?_)
          refine OW.cons (OP.val (v := (.int .i64 x159.1)) rfl (x_assign) ?_)
          refine OW.cons (OP.val (v := (.int .i64 x159.2.1)) rfl (x_assign) ?_)
          refine OW.cons (OP.val (v := (.int .i64 x159.2.2)) rfl (x_assign) ?_)
          refine OW.nil ?_
          refine CW.seq ?_
          refine CW.regionL ?_
          refine OW.cons (OP.val (v := (.int .i64 x159.1)) rfl (x_move) ?_)
          refine OW.cons (OP.val (v := (.bool (decide (x159.1 < 0)))) rfl (x_lss rfl rfl) ?_)
          refine OW.nil ?_
          refine CW.condM (t := decide (x159.1 < 0)) rfl hm (fun hb164 hm => ?_) (fun hb164 hm => ?_)
          · refine CW.regionL ?_
            refine OW.cons (OP.val (v := (.int .i64 s_l1.1)) rfl (x_mv f117) ?_)
            refine OW.cons (OP.val (v := (.int .i64 (w64 (s_l1.1 + 1)))) rfl (x_add rfl rfl) ?_)
            refine OW.cons (OP.val (v := (.int .i64 (w64 (s_l1.1 + 1)))) rfl (x_assign) ?_)
            refine OW.nil ?_
            exact ⟨w64 (s_l1.1 + 1), hm, ⟨f114, f115, f116, rfl, f118, hL⟩⟩
          · refine CW.skip ?_
            exact ⟨s_l1.1, hm, ⟨f114, f115, f116, f117, f118, hL⟩⟩
        · intro s_j2 F152 wd153 hJ hm
          unfold M.spec_l28Rank_j2 at hm
          obtain ⟨f154, f155, f156, f157, f158, hL⟩ := hJ
          exact ⟨s_j2, hm, ⟨f154, f155, f156, f157, f158, hL⟩⟩
      · intro s_j1 F139 wd140 hJ hm
        unfold M.spec_l28Rank_j1 at hm
        obtain ⟨f141, f142, f143, f144, f145, hL⟩ := hJ
        refine CW.regionL ?_
        refine OW.cons (OP.val (v := (.int .i64 s_l1.2)) rfl (x_mv f145) ?_)
        refine OW.cons (OP.val (v := (.int .i64 (w64 (s_l1.2 + 1)))) rfl (x_add rfl rfl) ?_)
        refine OW.cons (OP.val (v := (.int .i64 (w64 (s_l1.2 + 1)))) rfl (x_assign) ?_)
        refine OW.nil ?_
        obtain rfl := Option.some.inj hm
        exact ⟨_, rfl, ⟨f141, f142, f143, f144, rfl, hL⟩⟩
    · refine CW.exit ?_
      refine XJ.hit ?_
      obtain rfl := Option.some.inj hm
      exact ⟨_, rfl, ⟨f114, f115, f116, f117, f118, hL⟩⟩

theorem M.spec_l28Standing_ok (w0 : World) (a0 : Table) {v1 : Value} {v3 : Value} (h2 : rdL (· < w0.heap.size) w0 v1 a0.Points) (h4 : rdL (· < w0.heap.size) w0 v3 a0.Codes) (a1 : List Int) {v5 : Value} (h6 : rdL (· < w0.heap.size) w0 v5 a1) {r : (List Int)} (hm : M.spec_l28Standing a0 a1 = some r) :
    Calls Try.prog 67 #[(.agg #[(.int .i64 a0.Boats), v1, v3]), v5] w0 fun e w' => ∃ (rv0 : Value) (rS0 : Nat → Prop), e = .returned rv0 ∧ Fresh w0 w' [Ent.own 2 rS0 rv0 r] := by
  unfold M.spec_l28Standing at hm
  refine calls_CW (args := [(.agg #[(.int .i64 a0.Boats), v1, v3]), v5]) Try.func67 rfl rfl rfl ?_
  have hL := Hp.start w0
  refine CW.seq ?_
  refine CW.regionL ?_
  refine OW.cons (S_box (cs := #[(.int .i64 a0.Boats), v1, v3]) hL rfl rfl rfl ?_)
  intro wd7 b8 hL
  refine OW.cons (OP.val (v := (.slice none 0 0)) rfl (x_assign) ?_)
  refine OW.nil ?_
  refine CW.seq ?_
  refine CW.regionL ?_
  refine OW.cons (S_lit ([] : List Int) hL Try.underlying25 Try_T2 rfl (by decide) (by first | (simp [Instr.fill, madeCells, Value.cells, ev, upd, Flat.enc, Flat.sz]; done) | rfl | kernel_rfl) rfl rfl ?_)
  intro wd9 v10 S11 hL
  refine OW.cons (OP.val (v := v10) rfl (x_assign) ?_)
  refine OW.nil ?_
  refine CW.seq ?_
  refine CW.seq ?_
  refine CW.regionL ?_
  refine OW.cons (OP.val (v := (.int .i64 1)) rfl (x_assign) ?_)
  refine OW.nil ?_
  obtain ⟨o544, ho545, hm⟩ := bndE hm
  refine CW.loopB (fun (s_l1 : (List Int) × Int) (F : Fr) (w : World) => ∃ (v540 : Value) (S541 : Nat → Prop), F 1 = v5 ∧ F 2 = (.pointer (some ⟨b8, 0, none⟩)) ∧ F 5 = v540 ∧ F 6 = (.int .i64 s_l1.2) ∧ Hp w0 [Ent.own 2 S541 v540 s_l1.1, Ent.blk b8 29 #[(.int .i64 a0.Boats), v1, v3], Ent.snap w0 w0.heap.size] w) (fun o => outc o (fun x => some x) (fun s => M.spec_l28Standing_a1 s) = some r) ho545 hm ⟨v10, S11, rfl, rfl, rfl, rfl, hL⟩ ?_ ?_
  · intro s_l1 F546 wd547 hJ hm
    have hm := outcE hm
    have hm : M.spec_l28Standing_a1 s_l1 = some r := hm
    unfold M.spec_l28Standing_a1 at hm
    obtain ⟨v540, S541, f548, f549, f550, f551, hL⟩ := hJ
    refine CW.seq ?_
    refine CW.regionL ?_
    refine OW.cons (OP.val (v := v540) rfl (x_mv f550) ?_)
    refine OW.cons (OP.val (v := v540) rfl (x_assign) ?_)
    refine OW.nil ?_
    refine CW.ret ?_
    obtain rfl := Option.some.inj hm
    exact RR1 rfl rfl ⟨v540, S541, rfl, hL.fresh 2 rfl [0] (by decide) (by decide) rfl⟩
  · intro s_l1 F552 wd553 t542 hJ hm hr543
    unfold M.spec_l28Standing_l1 at hm
    obtain ⟨v540, S541, f554, f555, f556, f557, hL⟩ := hJ
    refine CW.seq ?_
    refine CW.seq ?_
    refine CW.regionL ?_
    refine OW.cons (OP.val (v := (.int .i64 s_l1.2)) rfl (x_mv f557) ?_)
    refine OW.cons (OP.val (v := (.pointer (some ⟨b8, 0, none⟩))) rfl (x_fieldAddr (fsz := 1) 0 0 0 Try.underlying29 rfl Try_T2 rfl f555 rfl) ?_)
    refine OW.cons (OP.val (v := (.int .i64 a0.Boats)) rfl (x_load1 Try.underlying2 rfl rfl (hL.cellB 1 rfl rfl)) ?_)
    refine OW.cons (OP.val (v := (.bool (decide (s_l1.2 ≤ a0.Boats)))) rfl (x_leq rfl rfl) ?_)
    refine OW.nil ?_
    refine CW.condM (t := decide (s_l1.2 ≤ a0.Boats)) rfl hm (fun hb558 hm => ?_) (fun hb558 hm => ?_)
    · refine CW.skip ?_
      refine CW.seq ?_
      refine CW.block ?_
      refine CW.seq ?_
      refine CW.regionL ?_
      refine OW.cons (OP.val (v := (.int .i64 0)) rfl (x_assign) ?_)
      refine OW.nil ?_
      obtain ⟨o725, ho726, hm⟩ := bndE hm
      refine CW.loopB (fun (s_l2 : (List Int) × Int) (F : Fr) (w : World) => ∃ (v721 : Value) (S722 : Nat → Prop), F 1 = v5 ∧ F 2 = (.pointer (some ⟨b8, 0, none⟩)) ∧ F 5 = v721 ∧ F 6 = (.int .i64 s_l1.2) ∧ F 7 = (.int .i64 s_l2.2) ∧ Hp w0 [Ent.own 2 S722 v721 s_l2.1, Ent.blk b8 29 #[(.int .i64 a0.Boats), v1, v3], Ent.snap w0 w0.heap.size] w) (fun o => outc o (fun x => some (.ret x)) (fun s => M.spec_l28Standing_a2 s_l1 s) = some t542) ho726 hm ⟨v540, S541, f554, f555, f556, f557, rfl, hL⟩ ?_ ?_
      · intro s_l2 F727 wd728 hJ hm
        have hm := outcE hm
        have hm : M.spec_l28Standing_a2 s_l1 s_l2 = some t542 := hm
        unfold M.spec_l28Standing_a2 at hm
        obtain ⟨v721, S722, f729, f730, f731, f732, f733, hL⟩ := hJ
        refine CW.regionL ?_
        refine OW.cons (OP.val (v := (.int .i64 s_l1.2)) rfl (x_mv f732) ?_)
        refine OW.cons (OP.val (v := (.int .i64 (w64 (s_l1.2 + 1)))) rfl (x_add rfl rfl) ?_)
        refine OW.cons (OP.val (v := (.int .i64 (w64 (s_l1.2 + 1)))) rfl (x_assign) ?_)
        refine OW.nil ?_
        obtain rfl := Option.some.inj hm
        exact ⟨_, rfl, ⟨v721, S722, f729, f730, f731, rfl, hL⟩⟩
      · intro s_l2 F734 wd735 t723 hJ hm hr724
        unfold M.spec_l28Standing_l2 at hm
        obtain ⟨v721, S722, f736, f737, f738, f739, f740, hL⟩ := hJ
        refine CW.seq ?_
        refine CW.seq ?_
        refine CW.regionL ?_
        refine OW.cons (OP.val (v := (.int .i64 s_l2.2)) rfl (x_mv f740) ?_)
        refine OW.cons (OP.val (v := (.pointer (some ⟨b8, 0, none⟩))) rfl (x_fieldAddr (fsz := 1) 0 0 0 Try.underlying29 rfl Try_T2 rfl f737 rfl) ?_)
        refine OW.cons (OP.val (v := (.int .i64 a0.Boats)) rfl (x_load1 Try.underlying2 rfl rfl (hL.cellB 1 rfl rfl)) ?_)
        refine OW.cons (OP.val (v := (.bool (decide (s_l2.2 < a0.Boats)))) rfl (x_lss rfl rfl) ?_)
        refine OW.nil ?_
        refine CW.condM (t := decide (s_l2.2 < a0.Boats)) rfl hm (fun hb741 hm => ?_) (fun hb741 hm => ?_)
        · refine CW.skip ?_
          refine CW.seqJ (fun (s_j1 : (List Int)) (F : Fr) (w : World) => ∃ (v777 : Value) (S778 : Nat → Prop), F 1 = v5 ∧ F 2 = (.pointer (some ⟨b8, 0, none⟩)) ∧ F 5 = v777 ∧ F 6 = (.int .i64 s_l1.2) ∧ F 7 = (.int .i64 s_l2.2) ∧ Hp w0 [Ent.own 2 S778 v777 s_j1, Ent.blk b8 29 #[(.int .i64 a0.Boats), v1, v3], Ent.snap w0 w0.heap.size] w) (fun s_j1 => M.spec_l28Standing_j1 s_l2 s_j1 = some t723) ?_ ?_
          · refine CW.blockJ (fun (s_j2 : (List Int)) (F : Fr) (w : World) => ∃ (v799 : Value) (S800 : Nat → Prop), F 1 = v5 ∧ F 2 = (.pointer (some ⟨b8, 0, none⟩)) ∧ F 5 = v799 ∧ F 6 = (.int .i64 s_l1.2) ∧ F 7 = (.int .i64 s_l2.2) ∧ Hp w0 [Ent.own 2 S800 v799 s_j2, Ent.blk b8 29 #[(.int .i64 a0.Boats), v1, v3], Ent.snap w0 w0.heap.size] w) (fun s_j2 => M.spec_l28Standing_j2 s_l2 s_j2 = some t723) ?_ ?_
            · refine CW.seq ?_
              refine CW.regionL ?_
              refine OW.cons (OP.val (v := (.agg #[(.int .i64 a0.Boats), v1, v3])) rfl (x_loadN (cs := [(.int .i64 a0.Boats), v1, v3]) Try.underlying29 Try_T29 rfl f737 (hL.cellsB 1 rfl (o := 0) (l := [(.int .i64 a0.Boats), v1, v3]) (by intro j u hj; exact (by simpa using hj)))) ?_)
              refine OW.cons (OP.val (v := v5) rfl (x_mv f736) ?_)
              refine OW.cons (OP.val (v := (.int .i64 s_l2.2)) rfl (x_mv f740) ?_)
              obtain ⟨x808, hx809, hm⟩ := bndE hm
              refine OW.cons (OP.call rfl (x_call (vs := [(.agg #[(.int .i64 a0.Boats), v1, v3]), v5, (.int .i64 s_l2.2)]) Try_C64 ⟨rfl, rfl, rfl, trivial⟩) (M.spec_l28Rank_ok _ a0 (hL.rdS 2 rfl h2) (hL.rdS 2 rfl h4) a1 (hL.rdS 2 rfl h6) s_l2.2 hx809) ?_)
              rintro e810 wd811 ⟨rfl, hF812⟩
              refine ⟨_, rfl, ?_⟩
              have hL := hL.pushAll hF812
              simp only [lA, lB, lC, lD] at hL
              refine OW.cons (OP.val (v := (.int .i64 s_l1.2)) rfl (x_mv f739) ?_)
              refine OW.cons (OP.val (v := (.bool (x808 == s_l1.2))) rfl (x_eql rfl rfl) ?_)
              refine OW.nil ?_
              refine CW.condM (t := x808 == s_l1.2) rfl hm (fun hb813 hm => ?_) (fun hb813 hm => ?_)
              · refine CW.regionL ?_
                refine OW.cons (OP.val (v := v721) rfl (x_mv f738) ?_)
                refine OW.cons (OP.val (v := (.int .i64 s_l2.2)) rfl (x_mv f740) ?_)
                refine OW.cons (S_lit ([s_l2.2] : List Int) hL Try.underlying25 Try_T2 rfl (by decide) (by first | (simp [Instr.fill, madeCells, Value.cells, ev, upd, Flat.enc, Flat.sz]; done) | rfl | kernel_rfl) rfl rfl ?_)
                intro wd814 v815 S816 hL
                obtain ⟨hc820, hm⟩ := chkE hm
                refine OW.cons (S_append (ys := ([s_l2.2] : List Int)) hL 1 rfl Try.underlying25 Try_T2 rfl rfl rfl (hL.rdO 0 rfl) hc820 (by decide) rfl ?_)
                intro wd817 v818 S819 hL
                refine OW.cons (OP.val (v := v818) rfl (x_assign) ?_)
                refine OW.nil ?_
                have hL := hL.sel [1, 2, 3] (by decide) rfl
                exact ⟨s_l2.1 ++ ([s_l2.2] : List Int), hm, ⟨v818, S819, f736, f737, rfl, f739, f740, hL⟩⟩
              · refine CW.skip ?_
                exact ⟨s_l2.1, hm, ⟨v721, S722, f736, f737, f738, f739, f740, hL⟩⟩
            · intro s_j2 F801 wd802 hJ hm
              unfold M.spec_l28Standing_j2 at hm
              obtain ⟨v799, S800, f803, f804, f805, f806, f807, hL⟩ := hJ
              exact ⟨s_j2, hm, ⟨v799, S800, f803, f804, f805, f806, f807, hL⟩⟩
          · intro s_j1 F779 wd780 hJ hm
            unfold M.spec_l28Standing_j1 at hm
            obtain ⟨v777, S778, f781, f782, f783, f784, f785, hL⟩ := hJ
            refine CW.regionL ?_
            refine OW.cons (OP.val (v := (.int .i64 s_l2.2)) rfl (x_mv f785) ?_)
            refine OW.cons (OP.val (v := (.int .i64 (w64 (s_l2.2 + 1)))) rfl (x_add rfl rfl) ?_)
            refine OW.cons (OP.val (v := (.int .i64 (w64 (s_l2.2 + 1)))) rfl (x_assign) ?_)
            refine OW.nil ?_
            obtain rfl := Option.some.inj hm
            exact ⟨_, rfl, ⟨v777, S778, f781, f782, f783, f784, rfl, hL⟩⟩
        · refine CW.exit ?_
          refine XJ.hit ?_
          obtain rfl := Option.some.inj hm
          exact ⟨_, rfl, ⟨v721, S722, f736, f737, f738, f739, f740, hL⟩⟩
    · refine CW.exit ?_
      refine XJ.hit ?_
      obtain rfl := Option.some.inj hm
      exact ⟨_, rfl, ⟨v540, S541, f554, f555, f556, f557, hL⟩⟩

theorem M.impl_standingOf_1_ok (w0 : World) (a0 : Int) (a1 : Int) (a2 : Table) {v3 : Value} {v5 : Value} {b1 : Nat} (h4 : rdL (· < w0.heap.size) w0 v3 a2.Points) (h6 : rdL (· < w0.heap.size) w0 v5 a2.Codes) (hb2 : bxA (· < w0.heap.size) w0 b1 29 #[(.int .i64 a2.Boats), v3, v5]) (a3 : List Int) {v9 : Value} {b7 : Nat} (h10 : rdL (· < w0.heap.size) w0 v9 a3) (hb8 : bxA (· < w0.heap.size) w0 b7 25 #[v9]) {r : Int} (hm : M.impl_standingOf_1 a0 a1 a2 a3 = some r) :
    Calls Try.prog 100 #[(.int .i64 a0), (.int .i64 a1), (.pointer (some ⟨b1, 0, none⟩)), (.pointer (some ⟨b7, 0, none⟩))] w0 fun e w' => e = .returned (.int .i64 r) ∧ Fresh w0 w' [] := by
  unfold M.impl_standingOf_1 at hm
  refine calls_CW (args := [(.int .i64 a0), (.int .i64 a1), (.pointer (some ⟨b1, 0, none⟩)), (.pointer (some ⟨b7, 0, none⟩))]) Try.func100 rfl rfl rfl ?_
  have hL := Hp.start w0
  refine CW.seq ?_
  refine CW.regionL ?_
  refine OW.cons (OP.val (v := (.int .i64 0)) rfl (x_assign) ?_)
  refine OW.nil ?_
  refine CW.seq ?_
  refine CW.regionL ?_
  refine OW.cons (OP.val (v := (.agg #[(.int .i64 a2.Boats), v3, v5])) rfl (x_loadN (cs := [(.int .i64 a2.Boats), v3, v5]) Try.underlying29 Try_T29 rfl rfl ((hL.bxS 0 rfl hb2).cells (o := 0) (l := [(.int .i64 a2.Boats), v3, v5]) (by intro j u hj; exact (by simpa using hj)))) ?_)
  refine OW.cons (OP.val (v := v9) rfl (x_load1 Try.underlying25 rfl rfl ((hL.bxS 0 rfl hb8).cell rfl)) ?_)
  refine OW.cons (OP.val (v := (.int .i64 a0)) rfl (x_move) ?_)
  refine OW.cons (OP.val (v := (.int .i64 a1)) rfl (x_move) ?_)
  obtain ⟨x11, hx12, hm⟩ := bndE hm
  refine OW.cons (OP.call rfl (x_call (vs := [(.agg #[(.int .i64 a2.Boats), v3, v5]), v9, (.int .i64 a0), (.int .i64 a1)]) Try_C62 ⟨rfl, rfl, rfl, rfl, trivial⟩) (M.impl_compareBoats_ok _ a2 (hL.rdS 0 rfl h4) (hL.rdS 0 rfl h6) a3 (hL.rdS 0 rfl h10) a0 a1 hx12) ?_)
  rintro e13 wd14 ⟨rfl, hF15⟩
  refine ⟨_, rfl, ?_⟩
  have hL := hL.pushAll hF15
  simp only [lA, lB, lC, lD] at hL
  refine OW.cons (OP.val (v := (.tuple #[(.int .i64 x11.1), (.int .i64 x11.2.1), (.int .i64 x11.2.2)])) rfl (x_move) ?_)
  refine OW.cons (OP.val (v := (.int .i64 x11.1)) rfl (x_extract rfl rfl) ?_)
  refine OW.cons (OP.val (v := (.int .i64 x11.2.1)) rfl (x_extract rfl rfl) ?_)
  refine OW.cons (OP.val (v := (.int .i64 x11.2.2)) rfl (x_extract rfl rfl) ?_)
  refine OW.cons (OP.val (v := (.int .i64 x11.1)) rfl (x_assign) ?_)
  refine OW.cons (OP.val (v := (.int .i64 x11.2.1)) rfl (x_assign) ?_)
  refine OW.cons (OP.val (v := (.int .i64 x11.2.2)) rfl (x_assign) ?_)
  refine OW.nil ?_
  refine CW.seq ?_
  refine CW.regionL ?_
  refine OW.cons (OP.val (v := (.int .i64 x11.1)) rfl (x_move) ?_)
  refine OW.cons (OP.val (v := (.int .i64 x11.1)) rfl (x_assign) ?_)
  refine OW.nil ?_
  refine CW.ret ?_
  obtain rfl := Option.some.inj hm
  exact RR1 rfl rfl ⟨rfl, hL.fresh 0 rfl [] (by decide) (by decide) rfl⟩

theorem M.impl_standingOf_ok (w0 : World) (a0 : Table) {v1 : Value} {v3 : Value} (h2 : rdL (· < w0.heap.size) w0 v1 a0.Points) (h4 : rdL (· < w0.heap.size) w0 v3 a0.Codes) (a1 : List Int) {v5 : Value} (h6 : rdL (· < w0.heap.size) w0 v5 a1) {r : (List Int)} (hm : M.impl_standingOf a0 a1 = some r) :
    Calls Try.prog 68 #[(.agg #[(.int .i64 a0.Boats), v1, v3]), v5] w0 fun e w' => ∃ (rv0 : Value) (rS0 : Nat → Prop), e = .returned rv0 ∧ Fresh w0 w' [Ent.own 2 rS0 rv0 r] := by
  unfold M.impl_standingOf at hm
  refine calls_CW (args := [(.agg #[(.int .i64 a0.Boats), v1, v3]), v5]) Try.func68 rfl rfl rfl ?_
  have hL := Hp.start w0
  refine CW.seq ?_
  refine CW.regionL ?_
  refine OW.cons (S_box (cs := #[(.int .i64 a0.Boats), v1, v3]) hL rfl rfl rfl ?_)
  intro wd7 b8 hL
  refine OW.cons (S_box (cs := #[v5]) hL rfl (rdL_cells (hL.rdS 1 rfl h6)) rfl ?_)
  intro wd9 b10 hL
  refine OW.cons (OP.val (v := (.slice none 0 0)) rfl (x_assign) ?_)
  refine OW.nil ?_
  refine CW.seq ?_
  refine CW.regionL ?_
  refine OW.cons (OP.val (v := (.pointer (some ⟨b8, 0, none⟩))) rfl (x_fieldAddr (fsz := 1) 0 0 0 Try.underlying29 rfl Try_T2 rfl rfl rfl) ?_)
  refine OW.cons (OP.val (v := (.int .i64 a0.Boats)) rfl (x_load1 Try.underlying2 rfl rfl (hL.cellB 1 rfl rfl)) ?_)
  refine OW.cons (OP.val (v := (.func (.func 100) #[] #[(.pointer (some ⟨b8, 0, none⟩)), (.pointer (some ⟨b10, 0, none⟩))])) rfl (x_makeFunc (vs := [(.pointer (some ⟨b8, 0, none⟩)), (.pointer (some ⟨b10, 0, none⟩))]) ⟨rfl, rfl, trivial⟩) ?_)
  obtain ⟨x11, hx12, hm⟩ := bndE hm
  refine OW.cons (OP.call rfl (x_call (vs := [(.int .i64 a0.Boats), (.func (.func 100) #[] #[(.pointer (some ⟨b8, 0, none⟩)), (.pointer (some ⟨b10, 0, none⟩))])]) Try_C73 ⟨rfl, rfl, trivial⟩) (M.impl_sortedIndices_ok _ a0.Boats (fun y0 y1 => M.impl_standingOf_1 y0 y1 a0 a1) ⟨Try_C100, fun yw hag yvs yv hR => by obtain ⟨y0, y1, yr, rfl, hyf, rfl⟩ := hR; exact M.impl_standingOf_1_ok yw y0 y1 a0 (hag.rdL (hL.rdS 2 rfl h2)) (hag.rdL (hL.rdS 2 rfl h4)) (hag.bx (hL.bxB 1 rfl)) a1 (hag.rdL (hL.rdS 2 rfl h6)) (hag.bx (hL.bxB 0 rfl)) hyf⟩ hx12) ?_)
  rintro e15 wd16 ⟨v14, S13, rfl, hF17⟩
  refine ⟨_, rfl, ?_⟩
  have hL := hL.pushAll hF17
  simp only [lA, lB, lC, lD] at hL
  refine OW.cons (OP.val (v := v14) rfl (x_assign) ?_)
  refine OW.nil ?_
  refine CW.ret ?_
  obtain rfl := Option.some.inj hm
  exact RR1 rfl rfl ⟨v14, S13, rfl, hL.fresh 3 rfl [0] (by decide) (by decide) rfl⟩

theorem M.impl_StandingOf_ok (w0 : World) (a0 : Table) {v1 : Value} {v3 : Value} (h2 : rdL (· < w0.heap.size) w0 v1 a0.Points) (h4 : rdL (· < w0.heap.size) w0 v3 a0.Codes) (a1 : List Int) {v5 : Value} (h6 : rdL (· < w0.heap.size) w0 v5 a1) {r : (List Int) × Int} (hm : M.impl_StandingOf a0 a1 = some r) :
    Calls Try.prog 28 #[(.agg #[(.int .i64 a0.Boats), v1, v3]), v5] w0 fun e w' => ∃ (rv0 : Value) (rS0 : Nat → Prop), e = .returned (.tuple #[rv0, (.int .i64 r.2)]) ∧ Fresh w0 w' [Ent.own 2 rS0 rv0 r.1] := by
  unfold M.impl_StandingOf at hm
  refine calls_CW (args := [(.agg #[(.int .i64 a0.Boats), v1, v3]), v5]) Try.func28 rfl rfl rfl ?_
  have hL := Hp.start w0
  refine CW.seq ?_
  refine CW.regionL ?_
  refine OW.cons (S_box (cs := #[(.int .i64 a0.Boats), v1, v3]) hL rfl rfl rfl ?_)
  intro wd7 b8 hL
  refine OW.cons (OP.val (v := (.slice none 0 0)) rfl (x_assign) ?_)
  refine OW.cons (OP.val (v := (.int .i64 0)) rfl (x_assign) ?_)
  refine OW.nil ?_
  refine CW.seq ?_
  refine CW.seq ?_
  refine CW.regionL ?_
  refine OW.cons (OP.val (v := (.agg #[(.int .i64 a0.Boats), v1, v3])) rfl (x_loadN (cs := [(.int .i64 a0.Boats), v1, v3]) Try.underlying29 Try_T29 rfl rfl (hL.cellsB 0 rfl (o := 0) (l := [(.int .i64 a0.Boats), v1, v3]) (by intro j u hj; exact (by simpa using hj)))) ?_)
  refine OW.cons (OP.val (v := v5) rfl (x_move) ?_)
  obtain ⟨x9, hx10, hm⟩ := bndE hm
  refine OW.cons (OP.call rfl (x_call (vs := [(.agg #[(.int .i64 a0.Boats), v1, v3]), v5, (.int .i64 0)]) Try_C65 ⟨rfl, rfl, rfl, trivial⟩) (M.impl_tableCode_ok _ a0 (hL.rdS 1 rfl h2) (hL.rdS 1 rfl h4) a1 (hL.rdS 1 rfl h6) 0 hx10) ?_)
  rintro e11 wd12 ⟨rfl, hF13⟩
  refine ⟨_, rfl, ?_⟩
  have hL := hL.pushAll hF13
  simp only [lA, lB, lC, lD] at hL
  refine OW.cons (OP.val (v := (.int .i64 x9)) rfl (x_assign) ?_)
  refine OW.nil ?_
  refine CW.seq ?_
  refine CW.regionL ?_
  refine OW.cons (OP.val (v := (.int .i64 x9)) rfl (x_move) ?_)
  refine OW.cons (OP.val (v := (.bool (x9 != 0))) rfl (x_neq rfl rfl) ?_)
  refine OW.nil ?_
  refine CW.condM (t := x9 != 0) rfl hm (fun hb14 hm => ?_) (fun hb14 hm => ?_)
  · refine CW.seq ?_
    refine CW.regionL ?_
    refine OW.cons (OP.val (v := (.int .i64 x9)) rfl (x_move) ?_)
    refine OW.cons (OP.val (v := (.slice none 0 0)) rfl (x_assign) ?_)
    refine OW.cons (OP.val (v := (.int .i64 x9)) rfl (x_assign) ?_)
    refine OW.nil ?_
    refine CW.ret ?_
    have hL := hL.pushNil Int 2
    obtain rfl := Option.some.inj hm
    exact RR2 rfl rfl rfl ⟨(.slice none 0 0), None_, rfl, hL.fresh 2 rfl [0] (by decide) (by decide) rfl⟩
  · refine CW.skip ?_
    refine CW.seq ?_
    refine CW.regionL ?_
    refine OW.cons (OP.val (v := (.agg #[(.int .i64 a0.Boats), v1, v3])) rfl (x_loadN (cs := [(.int .i64 a0.Boats), v1, v3]) Try.underlying29 Try_T29 rfl rfl (hL.cellsB 0 rfl (o := 0) (l := [(.int .i64 a0.Boats), v1, v3]) (by intro j u hj; exact (by simpa using hj)))) ?_)
    refine OW.cons (OP.val (v := v5) rfl (x_move) ?_)
    obtain ⟨x15, hx16, hm⟩ := bndE hm
    refine OW.cons (OP.call rfl (x_call (vs := [(.agg #[(.int .i64 a0.Boats), v1, v3]), v5]) Try_C68 ⟨rfl, rfl, trivial⟩) (M.impl_standingOf_ok _ a0 (hL.rdS 1 rfl h2) (hL.rdS 1 rfl h4) a1 (hL.rdS 1 rfl h6) hx16) ?_)
    rintro e19 wd20 ⟨v18, S17, rfl, hF21⟩
    refine ⟨_, rfl, ?_⟩
    have hL := hL.pushAll hF21
    simp only [lA, lB, lC, lD] at hL
    refine OW.cons (OP.val (v := v18) rfl (x_assign) ?_)
    refine OW.cons (OP.val (v := (.int .i64 0)) rfl (x_assign) ?_)
    refine OW.nil ?_
    refine CW.ret ?_
    obtain rfl := Option.some.inj hm
    exact RR2 rfl rfl rfl ⟨v18, S17, rfl, hL.fresh 2 rfl [0] (by decide) (by decide) rfl⟩

theorem M.spec_LeadOf_ok (w0 : World) (a0 : Table) {v1 : Value} {v3 : Value} (h2 : rdL (· < w0.heap.size) w0 v1 a0.Points) (h4 : rdL (· < w0.heap.size) w0 v3 a0.Codes) (a1 : List Int) {v5 : Value} (h6 : rdL (· < w0.heap.size) w0 v5 a1) {r : Int × Int} (hm : M.spec_LeadOf a0 a1 = some r) :
    Calls Try.prog 29 #[(.agg #[(.int .i64 a0.Boats), v1, v3]), v5] w0 fun e w' => e = .returned (.tuple #[(.int .i64 r.1), (.int .i64 r.2)]) ∧ Fresh w0 w' [] := by
  unfold M.spec_LeadOf at hm
  refine calls_CW (args := [(.agg #[(.int .i64 a0.Boats), v1, v3]), v5]) Try.func29 rfl rfl rfl ?_
  have hL := Hp.start w0
  refine CW.seq ?_
  refine CW.regionL ?_
  refine OW.cons (S_box (cs := #[(.int .i64 a0.Boats), v1, v3]) hL rfl rfl rfl ?_)
  intro wd7 b8 hL
  refine OW.cons (OP.val (v := (.int .i64 0)) rfl (x_assign) ?_)
  refine OW.cons (OP.val (v := (.int .i64 0)) rfl (x_assign) ?_)
  refine OW.nil ?_
  refine CW.seq ?_
  refine CW.regionL ?_
  refine OW.cons (OP.val (v := (.agg #[(.int .i64 a0.Boats), v1, v3])) rfl (x_loadN (cs := [(.int .i64 a0.Boats), v1, v3]) Try.underlying29 Try_T29 rfl rfl (hL.cellsB 0 rfl (o := 0) (l := [(.int .i64 a0.Boats), v1, v3]) (by intro j u hj; exact (by simpa using hj)))) ?_)
  refine OW.cons (OP.val (v := v5) rfl (x_move) ?_)
  obtain ⟨x9, hx10, hm⟩ := bndE hm
  refine OW.cons (OP.call rfl (x_call (vs := [(.agg #[(.int .i64 a0.Boats), v1, v3]), v5, (.int .i64 0)]) Try_C63 ⟨rfl, rfl, rfl, trivial⟩) (M.spec_l27Code_ok _ a0 (hL.rdS 1 rfl h2) (hL.rdS 1 rfl h4) a1 (hL.rdS 1 rfl h6) 0 hx10) ?_)
  rintro e11 wd12 ⟨rfl, hF13⟩
  refine ⟨_, rfl, ?_⟩
  have hL := hL.pushAll hF13
  simp only [lA, lB, lC, lD] at hL
  refine OW.cons (OP.val (v := (.int .i64 x9)) rfl (x_assign) ?_)
  refine OW.nil ?_
  refine CW.seq ?_
  refine CW.seq ?_
  refine CW.regionL ?_
  refine OW.cons (OP.val (v := (.int .i64 x9)) rfl (x_move) ?_)
  refine OW.cons (OP.val (v := (.bool (x9 != 0))) rfl (x_neq rfl rfl) ?_)
  refine OW.nil ?_
  refine CW.condM (t := x9 != 0) rfl hm (fun hb14 hm => ?_) (fun hb14 hm => ?_)
  · refine CW.seq ?_
    refine CW.regionL ?_
    refine OW.cons (OP.val (v := (.int .i64 x9)) rfl (x_move) ?_)
    refine OW.cons (OP.val (v := (.int .i64 0)) rfl (x_assign) ?_)
    refine OW.cons (OP.val (v := (.int .i64 x9)) rfl (x_assign) ?_)
    refine OW.nil ?_
    refine CW.ret ?_
    obtain rfl := Option.some.inj hm
    exact RR2 rfl rfl rfl ⟨rfl, hL.fresh 1 rfl [] (by decide) (by decide) rfl⟩
  · refine CW.skip ?_
    refine CW.seq ?_
    refine CW.seq ?_
    refine CW.regionL ?_
    refine OW.cons (OP.val (v := (.pointer (some ⟨b8, 0, none⟩))) rfl (x_fieldAddr (fsz := 1) 0 0 0 Try.underlying29 rfl Try_T2 rfl rfl rfl) ?_)
    refine OW.cons (OP.val (v := (.int .i64 a0.Boats)) rfl (x_load1 Try.underlying2 rfl rfl (hL.cellB 0 rfl rfl)) ?_)
    refine OW.cons (OP.val (v := (.bool (a0.Boats == 1))) rfl (x_eql rfl rfl) ?_)
    refine OW.nil ?_
    refine CW.condM (t := a0.Boats == 1) rfl hm (fun hb15 hm => ?_) (fun hb15 hm => ?_)
    · refine CW.seq ?_
      refine CW.regionL ?_
      refine OW.cons (OP.val (v := (.int .i64 0)) rfl (x_assign) ?_)
      refine OW.cons (OP.val (v := (.int .i64 5)) rfl (x_assign) ?_)
      refine OW.nil ?_
      refine CW.ret ?_
      obtain rfl := Option.some.inj hm
      exact RR2 rfl rfl rfl ⟨rfl, hL.fresh 1 rfl [] (by decide) (by decide) rfl⟩
    · refine CW.skip ?_
      refine CW.seq ?_
      refine CW.regionL ?_
      refine OW.cons (OP.val (v := (.agg #[(.int .i64 a0.Boats), v1, v3])) rfl (x_loadN (cs := [(.int .i64 a0.Boats), v1, v3]) Try.underlying29 Try_T29 rfl rfl (hL.cellsB 0 rfl (o := 0) (l := [(.int .i64 a0.Boats), v1, v3]) (by intro j u hj; exact (by simpa using hj)))) ?_)
      refine OW.cons (OP.val (v := v5) rfl (x_move) ?_)
      obtain ⟨x16, hx17, hm⟩ := bndE hm
      refine OW.cons (OP.call rfl (x_call (vs := [(.agg #[(.int .i64 a0.Boats), v1, v3]), v5]) Try_C67 ⟨rfl, rfl, trivial⟩) (M.spec_l28Standing_ok _ a0 (hL.rdS 1 rfl h2) (hL.rdS 1 rfl h4) a1 (hL.rdS 1 rfl h6) hx17) ?_)
      rintro e20 wd21 ⟨v19, S18, rfl, hF22⟩
      refine ⟨_, rfl, ?_⟩
      have hL := hL.pushAll hF22
      simp only [lA, lB, lC, lD] at hL
      refine OW.cons (OP.val (v := v19) rfl (x_assign) ?_)
      refine OW.nil ?_
      refine CW.seq ?_
      refine CW.drawH (fun w' => Hp w0 [Ent.own 2 S18 v19 x16, Ent.blk b8 29 #[(.int .i64 a0.Boats), v1, v3], Ent.snap w0 w0.heap.size] w') Try_mixed ?_
      have hL := hL.call (Mod.drew _)
      have hS := (hL.sel [0, 1, 2] (by decide) rfl)
      refine DH.take 0 rfl (by kernel_rfl) (by kernel_rfl) (by kernel_rfl) rfl rfl hS (YH.val (v := (.agg #[(.int .i64 a0.Boats), v1, v3])) (fun w' hS' => x_loadN (cs := [(.int .i64 a0.Boats), v1, v3]) Try.underlying29 Try_T29 rfl rfl (hS'.cellsB 1 rfl (o := 0) (l := [(.int .i64 a0.Boats), v1, v3]) (by intro j u hj; exact (by simpa using hj))))) ?_
      have hS := (hL.sel [0, 1, 2] (by decide) rfl)
      refine DH.take 1 rfl (by kernel_rfl) (by kernel_rfl) (by kernel_rfl) rfl rfl hS (YH.val (v := v5) (fun w' hS' => x_move)) ?_
      have hS := (hL.sel [0, 1, 2] (by decide) rfl)
      refine DH.take 2 rfl (by kernel_rfl) (by kernel_rfl) (by kernel_rfl) rfl rfl hS (YH.val (v := v19) (fun w' hS' => x_move)) ?_
      have hS := (hL.sel [0, 1, 2] (by decide) rfl)
      obtain ⟨x61, ha62, hm⟩ := bndE hm
      obtain ⟨hz63, ha67⟩ := idxE ha62
      obtain ⟨b64, q65, hix66⟩ := rdL_ix (hL.rdO 0 rfl) hz63 ha67
      refine DH.take 3 rfl (by kernel_rfl) (by kernel_rfl) (by kernel_rfl) rfl rfl hS (YH.val (v := (.pointer (some ⟨b64, q65, none⟩))) (fun w' hS' => x_ix Try.underlying25 Try_T2 rfl rfl hix66)) ?_
      have hS := (hL.sel [0, 1, 2] (by decide) rfl)
      refine DH.take 4 rfl (by kernel_rfl) (by kernel_rfl) (by kernel_rfl) rfl rfl hS (YH.val (v := (.int .i64 x61)) (fun w' hS' => x_load1 Try.underlying2 rfl rfl (rdF_cells (hS'.rdO 0 rfl) hix66 ha67 0 _ rfl))) ?_
      have hS := (hL.sel [0, 1, 2] (by decide) rfl)
      refine DH.take 7 rfl (by kernel_rfl) (by kernel_rfl) (by kernel_rfl) rfl rfl hS (YH.val (v := (.agg #[(.int .i64 a0.Boats), v1, v3])) (fun w' hS' => x_loadN (cs := [(.int .i64 a0.Boats), v1, v3]) Try.underlying29 Try_T29 rfl rfl (hS'.cellsB 1 rfl (o := 0) (l := [(.int .i64 a0.Boats), v1, v3]) (by intro j u hj; exact (by simpa using hj))))) ?_
      have hS := (hL.sel [0, 1, 2] (by decide) rfl)
      refine DH.take 8 rfl (by kernel_rfl) (by kernel_rfl) (by kernel_rfl) rfl rfl hS (YH.val (v := v5) (fun w' hS' => x_move)) ?_
      have hS := (hL.sel [0, 1, 2] (by decide) rfl)
      refine DH.take 9 rfl (by kernel_rfl) (by kernel_rfl) (by kernel_rfl) rfl rfl hS (YH.val (v := v19) (fun w' hS' => x_move)) ?_
      have hS := (hL.sel [0, 1, 2] (by decide) rfl)
      obtain ⟨x68, ha69, hm⟩ := bndE hm
      obtain ⟨hz70, ha74⟩ := idxE ha69
      obtain ⟨b71, q72, hix73⟩ := rdL_ix (hL.rdO 0 rfl) hz70 ha74
      refine DH.take 10 rfl (by kernel_rfl) (by kernel_rfl) (by kernel_rfl) rfl rfl hS (YH.val (v := (.pointer (some ⟨b71, q72, none⟩))) (fun w' hS' => x_ix Try.underlying25 Try_T2 rfl rfl hix73)) ?_
      have hS := (hL.sel [0, 1, 2] (by decide) rfl)
      refine DH.take 11 rfl (by kernel_rfl) (by kernel_rfl) (by kernel_rfl) rfl rfl hS (YH.val (v := (.int .i64 x68)) (fun w' hS' => x_load1 Try.underlying2 rfl rfl (rdF_cells (hS'.rdO 0 rfl) hix73 ha74 0 _ rfl))) ?_
      obtain ⟨x75, hx76, hm⟩ := bndE hm
      refine DH.only 5 rfl (by kernel_rfl) (OP.call rfl (x_call (vs := [(.agg #[(.int .i64 a0.Boats), v1, v3]), v5, (.int .i64 x61)]) Try_C70 ⟨rfl, rfl, rfl, trivial⟩) (M.spec_l27Counted_ok _ a0 (hL.rdS 2 rfl h2) (hL.rdS 2 rfl h4) a1 (hL.rdS 2 rfl h6) x61 hx76) ?_)
      rintro e79 wd80 ⟨v78, S77, rfl, hF81⟩
      refine ⟨_, rfl, ?_⟩
      have hL := hL.pushAll hF81
      simp only [lA, lB, lC, lD] at hL
      refine ⟨(hL.sel [1, 2, 3] (by decide) rfl), ?_⟩
      obtain ⟨x82, hx83, hm⟩ := bndE hm
      refine DH.only 6 rfl (by kernel_rfl) (OP.call rfl (x_call (vs := [v78]) Try_C69 ⟨rfl, trivial⟩) (M.spec_l27Sum_ok _ x75 (hL.rdO 0 rfl) hx83) ?_)
      rintro e84 wd85 ⟨rfl, hF86⟩
      refine ⟨_, rfl, ?_⟩
      have hL := hL.pushAll hF86
      simp only [lA, lB, lC, lD] at hL
      refine ⟨(hL.sel [1, 2, 3] (by decide) rfl), ?_⟩
      obtain ⟨x87, hx88, hm⟩ := bndE hm
      refine DH.only 12 rfl (by kernel_rfl) (OP.call rfl (x_call (vs := [(.agg #[(.int .i64 a0.Boats), v1, v3]), v5, (.int .i64 x68)]) Try_C70 ⟨rfl, rfl, rfl, trivial⟩) (M.spec_l27Counted_ok _ a0 (hL.rdS 3 rfl h2) (hL.rdS 3 rfl h4) a1 (hL.rdS 3 rfl h6) x68 hx88) ?_)
      rintro e91 wd92 ⟨v90, S89, rfl, hF93⟩
      refine ⟨_, rfl, ?_⟩
      have hL := hL.pushAll hF93
      simp only [lA, lB, lC, lD] at hL
      refine ⟨(hL.sel [2, 3, 4] (by decide) rfl), ?_⟩
      obtain ⟨x94, hx95, hm⟩ := bndE hm
      refine DH.only 13 rfl (by kernel_rfl) (OP.call rfl (x_call (vs := [v90]) Try_C69 ⟨rfl, trivial⟩) (M.spec_l27Sum_ok _ x87 (hL.rdO 0 rfl) hx95) ?_)
      rintro e96 wd97 ⟨rfl, hF98⟩
      refine ⟨_, rfl, ?_⟩
      have hL := hL.pushAll hF98
      simp only [lA, lB, lC, lD] at hL
      refine ⟨(hL.sel [2, 3, 4] (by decide) rfl), ?_⟩
      have hS := (hL.sel [2, 3, 4] (by decide) rfl)
      refine DH.take 14 rfl (by kernel_rfl) (by kernel_rfl) (by kernel_rfl) rfl rfl hS (YH.val (v := (.int .i64 (w64 (x82 - x94)))) (fun w' hS' => x_sub rfl rfl)) ?_
      have hS := (hL.sel [2, 3, 4] (by decide) rfl)
      refine DH.take 15 rfl (by kernel_rfl) (by kernel_rfl) (by kernel_rfl) rfl rfl hS (YH.val (v := (.int .i64 (w64 (x82 - x94)))) (fun w' hS' => x_assign)) ?_
      have hS := (hL.sel [2, 3, 4] (by decide) rfl)
      refine DH.take 16 rfl (by kernel_rfl) (by kernel_rfl) (by kernel_rfl) rfl rfl hS (YH.val (v := (.int .i64 0)) (fun w' hS' => x_assign)) ?_
      refine DH.done (by kernel_rfl) ?_
      refine CW.ret ?_
      obtain rfl := Option.some.inj hm
      exact RR2 rfl rfl rfl ⟨rfl, hL.fresh 4 rfl [] (by decide) (by decide) rfl⟩

theorem M.impl_LeadOf_ok (w0 : World) (a0 : Table) {v1 : Value} {v3 : Value} (h2 : rdL (· < w0.heap.size) w0 v1 a0.Points) (h4 : rdL (· < w0.heap.size) w0 v3 a0.Codes) (a1 : List Int) {v5 : Value} (h6 : rdL (· < w0.heap.size) w0 v5 a1) {r : Int × Int} (hm : M.impl_LeadOf a0 a1 = some r) :
    Calls Try.prog 30 #[(.agg #[(.int .i64 a0.Boats), v1, v3]), v5] w0 fun e w' => e = .returned (.tuple #[(.int .i64 r.1), (.int .i64 r.2)]) ∧ Fresh w0 w' [] := by
  unfold M.impl_LeadOf at hm
  refine calls_CW (args := [(.agg #[(.int .i64 a0.Boats), v1, v3]), v5]) Try.func30 rfl rfl rfl ?_
  have hL := Hp.start w0
  refine CW.seq ?_
  refine CW.regionL ?_
  refine OW.cons (S_box (cs := #[(.int .i64 a0.Boats), v1, v3]) hL rfl rfl rfl ?_)
  intro wd7 b8 hL
  refine OW.cons (OP.val (v := (.int .i64 0)) rfl (x_assign) ?_)
  refine OW.cons (OP.val (v := (.int .i64 0)) rfl (x_assign) ?_)
  refine OW.nil ?_
  refine CW.seq ?_
  refine CW.regionL ?_
  refine OW.cons (OP.val (v := (.agg #[(.int .i64 a0.Boats), v1, v3])) rfl (x_loadN (cs := [(.int .i64 a0.Boats), v1, v3]) Try.underlying29 Try_T29 rfl rfl (hL.cellsB 0 rfl (o := 0) (l := [(.int .i64 a0.Boats), v1, v3]) (by intro j u hj; exact (by simpa using hj)))) ?_)
  refine OW.cons (OP.val (v := v5) rfl (x_move) ?_)
  obtain ⟨x9, hx10, hm⟩ := bndE hm
  refine OW.cons (OP.call rfl (x_call (vs := [(.agg #[(.int .i64 a0.Boats), v1, v3]), v5]) Try_C28 ⟨rfl, rfl, trivial⟩) (M.impl_StandingOf_ok _ a0 (hL.rdS 1 rfl h2) (hL.rdS 1 rfl h4) a1 (hL.rdS 1 rfl h6) hx10) ?_)
  rintro e13 wd14 ⟨v12, S11, rfl, hF15⟩
  refine ⟨_, rfl, ?_⟩
  have hL := hL.pushAll hF15
  simp only [lA, lB, lC, lD] at hL
  refine OW.cons (OP.val (v := (.tuple #[v12, (.int .i64 x9.2)])) rfl (x_move) ?_)
  refine OW.cons (OP.val (v := v12) rfl (x_extract rfl rfl) ?_)
  refine OW.cons (OP.val (v := (.int .i64 x9.2)) rfl (x_extract rfl rfl) ?_)
  refine OW.cons (OP.val (v := v12) rfl (x_assign) ?_)
  refine OW.cons (OP.val (v := (.int .i64 x9.2)) rfl (x_assign) ?_)
  refine OW.nil ?_
  refine CW.seq ?_
  refine CW.seq ?_
  refine CW.regionL ?_
  refine OW.cons (OP.val (v := (.int .i64 x9.2)) rfl (x_move) ?_)
  refine OW.cons (OP.val (v := (.bool (x9.2 != 0))) rfl (x_neq rfl rfl) ?_)
  refine OW.nil ?_
  refine CW.condM (t := x9.2 != 0) rfl hm (fun hb16 hm => ?_) (fun hb16 hm => ?_)
  · refine CW.seq ?_
    refine CW.regionL ?_
    refine OW.cons (OP.val (v := (.int .i64 x9.2)) rfl (x_move) ?_)
    refine OW.cons (OP.val (v := (.int .i64 0)) rfl (x_assign) ?_)
    refine OW.cons (OP.val (v := (.int .i64 x9.2)) rfl (x_assign) ?_)
    refine OW.nil ?_
    refine CW.ret ?_
    obtain rfl := Option.some.inj hm
    exact RR2 rfl rfl rfl ⟨rfl, hL.fresh 2 rfl [] (by decide) (by decide) rfl⟩
  · refine CW.skip ?_
    refine CW.seq ?_
    refine CW.seq ?_
    refine CW.regionL ?_
    refine OW.cons (OP.val (v := v12) rfl (x_move) ?_)
    refine OW.cons (OP.val (v := (.int .i64 (x9.1.length : Int))) rfl (x_lenR Try.underlying25 rfl (hL.rdO 0 rfl)) ?_)
    refine OW.cons (OP.val (v := (.bool (decide ((x9.1.length : Int) < 2)))) rfl (x_lss rfl rfl) ?_)
    refine OW.nil ?_
    refine CW.condM (t := decide ((x9.1.length : Int) < 2)) rfl hm (fun hb17 hm => ?_) (fun hb17 hm => ?_)
    · refine CW.seq ?_
      refine CW.regionL ?_
      refine OW.cons (OP.val (v := (.int .i64 0)) rfl (x_assign) ?_)
      refine OW.cons (OP.val (v := (.int .i64 5)) rfl (x_assign) ?_)
      refine OW.nil ?_
      refine CW.ret ?_
      obtain rfl := Option.some.inj hm
      exact RR2 rfl rfl rfl ⟨rfl, hL.fresh 2 rfl [] (by decide) (by decide) rfl⟩
    · refine CW.skip ?_
      refine CW.seq ?_
      refine CW.draw Try_mixed ?_
      have hL := hL.call (Mod.drew _)
      refine DW.pre (fuel := 0) (fin := ((((((((((((((((Array.replicate 15 false).setIfInBounds 0 true).setIfInBounds 1 true).setIfInBounds 2 true).setIfInBounds 3 true).setIfInBounds 4 true).setIfInBounds 5 true).setIfInBounds 6 true).setIfInBounds 7 true).setIfInBounds 8 true).setIfInBounds 9 true).setIfInBounds 10 true).setIfInBounds 11 true).setIfInBounds 12 true).setIfInBounds 13 true).setIfInBounds 14 true)) (C := fun w' => Mod None_ _ w') [0, 1, 2, 3, 4, 5, 6, 7, 8, 9, 10, 11, 12, 13, 14] (Mod.refl _ _) (by kernel_rfl) (by kernel_rfl) ?_
      refine QW.cons rfl (QP.val (v := (.agg #[(.int .i64 a0.Boats), v1, v3])) rfl (fun w' hm' => x_loadN (cs := [(.int .i64 a0.Boats), v1, v3]) Try.underlying29 Try_T29 rfl rfl ((hL.call hm').cellsB 1 rfl (o := 0) (l := [(.int .i64 a0.Boats), v1, v3]) (by intro j u hj; exact (by simpa using hj)))) ?_)
      refine QW.cons rfl (QP.val (v := v5) rfl (fun w' hm' => x_move) ?_)
      refine QW.cons rfl (QP.val (v := v12) rfl (fun w' hm' => x_move) ?_)
      obtain ⟨x18, ha19, hm⟩ := bndE hm
      obtain ⟨hz20, ha24⟩ := idxE ha19
      obtain ⟨b21, q22, hix23⟩ := rdL_ix (hL.rdO 0 rfl) hz20 ha24
      refine QW.cons rfl (QP.val (v := (.pointer (some ⟨b21, q22, none⟩))) rfl (fun w' hm' => x_ix Try.underlying25 Try_T2 rfl rfl hix23) ?_)
      refine QW.cons rfl (QP.val (v := (.int .i64 x18)) rfl (fun w' hm' => x_load1 Try.underlying2 rfl rfl (rdF_cells ((hL.call hm').rdO 0 rfl) hix23 ha24 0 _ rfl)) ?_)
      obtain ⟨x25, hx26, hm⟩ := bndE hm
      refine QW.cons rfl (QP.call (v := (.int .i64 x25)) rfl (fun w' hm' => x_call (vs := [(.agg #[(.int .i64 a0.Boats), v1, v3]), v5, (.int .i64 x18)]) Try_C71 ⟨rfl, rfl, rfl, trivial⟩) (fun w' hm' => (M.impl_netPoints_ok w' a0 ((hL.call hm').rdS 2 rfl h2) ((hL.call hm').rdS 2 rfl h4) a1 ((hL.call hm').rdS 2 rfl h6) x18 hx26).mono (fun e w'' h => ⟨h.1, hm'.trans h.2.mod⟩)) ?_)
      refine QW.cons rfl (QP.val (v := (.agg #[(.int .i64 a0.Boats), v1, v3])) rfl (fun w' hm' => x_loadN (cs := [(.int .i64 a0.Boats), v1, v3]) Try.underlying29 Try_T29 rfl rfl ((hL.call hm').cellsB 1 rfl (o := 0) (l := [(.int .i64 a0.Boats), v1, v3]) (by intro j u hj; exact (by simpa using hj)))) ?_)
      refine QW.cons rfl (QP.val (v := v5) rfl (fun w' hm' => x_move) ?_)
      refine QW.cons rfl (QP.val (v := v12) rfl (fun w' hm' => x_move) ?_)
      obtain ⟨x27, ha28, hm⟩ := bndE hm
      obtain ⟨hz29, ha33⟩ := idxE ha28
      obtain ⟨b30, q31, hix32⟩ := rdL_ix (hL.rdO 0 rfl) hz29 ha33
      refine QW.cons rfl (QP.val (v := (.pointer (some ⟨b30, q31, none⟩))) rfl (fun w' hm' => x_ix Try.underlying25 Try_T2 rfl rfl hix32) ?_)
      refine QW.cons rfl (QP.val (v := (.int .i64 x27)) rfl (fun w' hm' => x_load1 Try.underlying2 rfl rfl (rdF_cells ((hL.call hm').rdO 0 rfl) hix32 ha33 0 _ rfl)) ?_)
      obtain ⟨x34, hx35, hm⟩ := bndE hm
      refine QW.cons rfl (QP.call (v := (.int .i64 x34)) rfl (fun w' hm' => x_call (vs := [(.agg #[(.int .i64 a0.Boats), v1, v3]), v5, (.int .i64 x27)]) Try_C71 ⟨rfl, rfl, rfl, trivial⟩) (fun w' hm' => (M.impl_netPoints_ok w' a0 ((hL.call hm').rdS 2 rfl h2) ((hL.call hm').rdS 2 rfl h4) a1 ((hL.call hm').rdS 2 rfl h6) x27 hx35).mono (fun e w'' h => ⟨h.1, hm'.trans h.2.mod⟩)) ?_)
      refine QW.cons rfl (QP.val (v := (.int .i64 (w64 (x25 - x34)))) rfl (fun w' hm' => x_sub rfl rfl) ?_)
      refine QW.cons rfl (QP.val (v := (.int .i64 (w64 (x25 - x34)))) rfl (fun w' hm' => x_assign) ?_)
      refine QW.cons rfl (QP.val (v := (.int .i64 0)) rfl (fun w' hm' => x_assign) ?_)
      refine QW.nil ?_
      intro wd36 hmod
      have hL := hL.call hmod
      refine DW.done (by kernel_rfl) ?_
      refine CW.ret ?_
      obtain rfl := Option.some.inj hm
      exact RR2 rfl rfl rfl ⟨rfl, hL.fresh 2 rfl [] (by decide) (by decide) rfl⟩

theorem M.laws_FnExactLeadOf_ok (w0 : World) (a0 : Table) {v1 : Value} {v3 : Value} (h2 : rdL (· < w0.heap.size) w0 v1 a0.Points) (h4 : rdL (· < w0.heap.size) w0 v3 a0.Codes) (a1 : List Int) {v5 : Value} (h6 : rdL (· < w0.heap.size) w0 v5 a1) {r : Bool} (hm : M.laws_FnExactLeadOf a0 a1 = some r) :
    Calls Try.prog 7 #[(.agg #[(.int .i64 a0.Boats), v1, v3]), v5] w0 fun e w' => e = .returned (.bool r) ∧ Fresh w0 w' [] := by
  unfold M.laws_FnExactLeadOf at hm
  refine calls_CW (args := [(.agg #[(.int .i64 a0.Boats), v1, v3]), v5]) Try.func7 rfl rfl rfl ?_
  have hL := Hp.start w0
  refine CW.seq ?_
  refine CW.regionL ?_
  refine OW.cons (S_box (cs := #[(.int .i64 a0.Boats), v1, v3]) hL rfl rfl rfl ?_)
  intro wd7 b8 hL
  refine OW.cons (OP.val (v := (.bool false)) rfl (x_assign) ?_)
  refine OW.nil ?_
  refine CW.seq ?_
  refine CW.seq ?_
  refine CW.regionL ?_
  refine OW.cons (OP.val (v := v5) rfl (x_move) ?_)
  refine OW.cons (OP.val (v := (.int .i64 (a1.length : Int))) rfl (x_lenR Try.underlying25 rfl (hL.rdS 1 rfl h6)) ?_)
  refine OW.cons (OP.val (v := (.bool (decide (1048576 < (a1.length : Int))))) rfl (x_gtr rfl rfl) ?_)
  refine OW.nil ?_
  refine CW.condM (t := decide (1048576 < (a1.length : Int))) rfl hm (fun hb9 hm => ?_) (fun hb9 hm => ?_)
  · refine CW.seq ?_
    refine CW.regionL ?_
    refine OW.cons (OP.val (v := (.bool true)) rfl (x_assign) ?_)
    refine OW.nil ?_
    refine CW.ret ?_
    obtain rfl := Option.some.inj hm
    exact RR1 rfl rfl ⟨rfl, hL.fresh 1 rfl [] (by decide) (by decide) rfl⟩
  · refine CW.skip ?_
    refine CW.seq ?_
    refine CW.regionL ?_
    refine OW.cons (OP.val (v := (.int .i64 1048576)) rfl (x_assign) ?_)
    refine OW.nil ?_
    refine CW.seq ?_
    refine CW.regionL ?_
    refine OW.cons (OP.val (v := (.agg #[(.int .i64 a0.Boats), v1, v3])) rfl (x_loadN (cs := [(.int .i64 a0.Boats), v1, v3]) Try.underlying24 Try_T24 rfl rfl (hL.cellsB 0 rfl (o := 0) (l := [(.int .i64 a0.Boats), v1, v3]) (by intro j u hj; exact (by simpa using hj)))) ?_)
    refine OW.cons (OP.val (v := (.int .i64 1048576)) rfl (x_move) ?_)
    obtain ⟨x10, hx11, hm⟩ := bndE hm
    refine OW.cons (OP.call rfl (x_call (vs := [(.agg #[(.int .i64 a0.Boats), v1, v3]), (.int .i64 1048576)]) Try_C13 ⟨rfl, rfl, trivial⟩) (M.laws_szTable_ok _ a0 (hL.rdS 1 rfl h2) (hL.rdS 1 rfl h4) 1048576 hx11) ?_)
    rintro e12 wd13 ⟨rfl, hF14⟩
    refine ⟨_, rfl, ?_⟩
    have hL := hL.pushAll hF14
    simp only [lA, lB, lC, lD] at hL
    refine OW.cons (OP.val (v := (.int .i64 x10)) rfl (x_assign) ?_)
    refine OW.nil ?_
    refine CW.seq ?_
    refine CW.seq ?_
    refine CW.regionL ?_
    refine OW.cons (OP.val (v := (.int .i64 x10)) rfl (x_move) ?_)
    refine OW.cons (OP.val (v := (.bool (decide (x10 < 0)))) rfl (x_lss rfl rfl) ?_)
    refine OW.nil ?_
    refine CW.condM (t := decide (x10 < 0)) rfl hm (fun hb15 hm => ?_) (fun hb15 hm => ?_)
    · refine CW.seq ?_
      refine CW.regionL ?_
      refine OW.cons (OP.val (v := (.bool true)) rfl (x_assign) ?_)
      refine OW.nil ?_
      refine CW.ret ?_
      obtain rfl := Option.some.inj hm
      exact RR1 rfl rfl ⟨rfl, hL.fresh 1 rfl [] (by decide) (by decide) rfl⟩
    · refine CW.skip ?_
      refine CW.seq ?_
      refine CW.regionL ?_
      refine OW.cons (OP.val (v := (.agg #[(.int .i64 a0.Boats), v1, v3])) rfl (x_loadN (cs := [(.int .i64 a0.Boats), v1, v3]) Try.underlying24 Try_T24 rfl rfl (hL.cellsB 0 rfl (o := 0) (l := [(.int .i64 a0.Boats), v1, v3]) (by intro j u hj; exact (by simpa using hj)))) ?_)
      obtain ⟨x16, hx17, hm⟩ := bndE hm
      refine OW.cons (OP.call rfl (x_call (vs := [(.agg #[(.int .i64 a0.Boats), v1, v3])]) Try_C15 ⟨rfl, trivial⟩) (M.laws_toTable_ok _ a0 (hL.rdS 1 rfl h2) (hL.rdS 1 rfl h4) hx17) ?_)
      rintro e22 wd23 ⟨v19, S18, v21, S20, rfl, hF24⟩
      refine ⟨_, rfl, ?_⟩
      have hL := hL.pushAll hF24
      simp only [lA, lB, lC, lD] at hL
      refine OW.cons (OP.val (v := v5) rfl (x_move) ?_)
      obtain ⟨x25, hx26, hm⟩ := bndE hm
      refine OW.cons (OP.call rfl (x_call (vs := [v5]) Try_C16 ⟨rfl, trivial⟩) (M.laws_toInt64S_ok _ a1 (hL.rdS 3 rfl h6) hx26) ?_)
      rintro e29 wd30 ⟨v28, S27, rfl, hF31⟩
      refine ⟨_, rfl, ?_⟩
      have hL := hL.pushAll hF31
      simp only [lA, lB, lC, lD] at hL
      obtain ⟨x32, hx33, hm⟩ := bndE hm
      refine OW.cons (OP.call rfl (x_call (vs := [(.agg #[(.int .i64 x16.Boats), v19, v21]), v28]) Try_C29 ⟨rfl, rfl, trivial⟩) (M.spec_LeadOf_ok _ x16 (hL.rdO 1 rfl) (hL.rdO 2 rfl) x25 (hL.rdO 0 rfl) hx33) ?_)
      rintro e34 wd35 ⟨rfl, hF36⟩
      refine ⟨_, rfl, ?_⟩
      have hL := hL.pushAll hF36
      simp only [lA, lB, lC, lD] at hL
      refine OW.cons (OP.val (v := (.tuple #[(.int .i64 x32.1), (.int .i64 x32.2)])) rfl (x_move) ?_)
      refine OW.cons (OP.val (v := (.int .i64 x32.1)) rfl (x_extract rfl rfl) ?_)
      refine OW.cons (OP.val (v := (.int .i64 x32.2)) rfl (x_extract rfl rfl) ?_)
      refine OW.cons (OP.val (v := (.int .i64 x32.1)) rfl (x_assign) ?_)
      refine OW.cons (OP.val (v := (.int .i64 x32.2)) rfl (x_assign) ?_)
      refine OW.nil ?_
      refine CW.seq ?_
      refine CW.regionL ?_
      refine OW.cons (OP.val (v := (.agg #[(.int .i64 a0.Boats), v1, v3])) rfl (x_loadN (cs := [(.int .i64 a0.Boats), v1, v3]) Try.underlying24 Try_T24 rfl rfl (hL.cellsB 3 rfl (o := 0) (l := [(.int .i64 a0.Boats), v1, v3]) (by intro j u hj; exact (by simpa using hj)))) ?_)
      obtain ⟨x37, hx38, hm⟩ := bndE hm
      refine OW.cons (OP.call rfl (x_call (vs := [(.agg #[(.int .i64 a0.Boats), v1, v3])]) Try_C15 ⟨rfl, trivial⟩) (M.laws_toTable_ok _ a0 (hL.rdS 4 rfl h2) (hL.rdS 4 rfl h4) hx38) ?_)
      rintro e43 wd44 ⟨v40, S39, v42, S41, rfl, hF45⟩
      refine ⟨_, rfl, ?_⟩
      have hL := hL.pushAll hF45
      simp only [lA, lB, lC, lD] at hL
      refine OW.cons (S_alloc (cs := #[(.int .i64 0), (.slice none 0 0), (.slice none 0 0)]) hL Try_T29 rfl rfl ?_)
      intro wd46 b47 hL
      refine OW.cons (S_storeN (l := [(.int .i64 x37.Boats), v40, v42]) (cs' := #[(.int .i64 x37.Boats), v40, v42]) hL 0 rfl Try_T29 rfl rfl (List.forall_mem_cons.2 ⟨rfl, (List.forall_mem_cons.2 ⟨rdL_one (hL.rdO 1 rfl), (List.forall_mem_cons.2 ⟨rdL_one (hL.rdO 2 rfl), (fun _ h => by cases h)⟩)⟩)⟩) rfl (Nat.le_of_ble_eq_true rfl) rfl ?_)
      intro wd48 hL
      refine OW.nil ?_
      refine CW.seq ?_
      refine CW.regionL ?_
      refine OW.cons (OP.val (v := v5) rfl (x_move) ?_)
      obtain ⟨x49, hx50, hm⟩ := bndE hm
      refine OW.cons (OP.call rfl (x_call (vs := [v5]) Try_C16 ⟨rfl, trivial⟩) (M.laws_toInt64S_ok _ a1 (hL.rdS 7 rfl h6) hx50) ?_)
      rintro e53 wd54 ⟨v52, S51, rfl, hF55⟩
      refine ⟨_, rfl, ?_⟩
      have hL := hL.pushAll hF55
      simp only [lA, lB, lC, lD] at hL
      refine OW.cons (OP.val (v := v52) rfl (x_assign) ?_)
      refine OW.nil ?_
      refine CW.seq ?_
      refine CW.regionL ?_
      refine OW.cons (OP.val (v := (.agg #[(.int .i64 x37.Boats), v40, v42])) rfl (x_loadN (cs := [(.int .i64 x37.Boats), v40, v42]) Try.underlying29 Try_T29 rfl rfl (hL.cellsB 1 rfl (o := 0) (l := [(.int .i64 x37.Boats), v40, v42]) (by intro j u hj; exact (by simpa using hj)))) ?_)
      refine OW.cons (OP.val (v := v52) rfl (x_move) ?_)
      obtain ⟨x56, hx57, hm⟩ := bndE hm
      refine OW.cons (OP.call rfl (x_call (vs := [(.agg #[(.int .i64 x37.Boats), v40, v42]), v52]) Try_C30 ⟨rfl, rfl, trivial⟩) (M.impl_LeadOf_ok _ x37 (hL.rdO 2 rfl) (hL.rdO 3 rfl) x49 (hL.rdO 0 rfl) hx57) ?_)
      rintro e58 wd59 ⟨rfl, hF60⟩
      refine ⟨_, rfl, ?_⟩
      have hL := hL.pushAll hF60
      simp only [lA, lB, lC, lD] at hL
      refine OW.cons (OP.val (v := (.tuple #[(.int .i64 x56.1), (.int .i64 x56.2)])) rfl (x_move) ?_)
      refine OW.cons (OP.val (v := (.int .i64 x56.1)) rfl (x_extract rfl rfl) ?_)
      refine OW.cons (OP.val (v := (.int .i64 x56.2)) rfl (x_extract rfl rfl) ?_)
      refine OW.cons (OP.val (v := (.int .i64 x56.1)) rfl (x_assign) ?_)
      refine OW.cons (OP.val (v := (.int .i64 x56.2)) rfl (x_assign) ?_)
      refine OW.nil ?_
      refine CW.seq ?_
      refine CW.seqJ (fun (s_j1 : Bool) (F : Fr) (w : World) => F 1 = v5 ∧ F 2 = (.pointer (some ⟨b8, 0, none⟩)) ∧ F 8 = (.pointer (some ⟨b47, 0, none⟩)) ∧ F 9 = v52 ∧ F 45 = (.bool s_j1) ∧ Hp w0 [Ent.own 2 S51 v52 x49, Ent.blk b47 29 #[(.int .i64 x37.Boats), v40, v42], Ent.own 25 S39 v40 x37.Points, Ent.own 25 S41 v42 x37.Codes, Ent.blk b8 24 #[(.int .i64 a0.Boats), v1, v3], Ent.snap w0 w0.heap.size] w) (fun s_j1 => M.laws_FnExactLeadOf_j1 a0 a1 x37 x49 s_j1 = some r) ?_ ?_
      · refine CW.regionL ?_
        refine OW.cons (OP.val (v := (.int .i64 x56.1)) rfl (x_move) ?_)
        refine OW.cons (OP.val (v := (.int .i64 x32.1)) rfl (x_move) ?_)
        refine OW.cons (OP.val (v := (.bool (x56.1 != x32.1))) rfl (x_neq rfl rfl) ?_)
        refine OW.cons (OP.val (v := (.bool (x56.1 != x32.1))) rfl (x_move) ?_)
        refine ifB_elim hm (fun hb112 hm => ?_) (fun hb112 hm => ?_)
        · refine OW.cons (OP.no' rfl rfl hb112 rfl ?_)
          refine OW.cons (OP.no' rfl rfl hb112 rfl ?_)
          refine OW.cons (OP.no' rfl rfl hb112 rfl ?_)
          refine OW.cons (OP.val (v := (.bool true)) rfl (x_pickT' rfl hb112 rfl) ?_)
          refine OW.nil ?_
          have hL := hL.sel [0, 1, 2, 3, 7, 8] (by decide) rfl
          exact ⟨true, hm, ⟨rfl, rfl, rfl, rfl, rfl, hL⟩⟩
        · refine OW.cons (OP.yes' rfl rfl hb112 (OP.val (v := (.int .i64 x56.2)) rfl (x_move) ?_))
          refine OW.cons (OP.yes' rfl rfl hb112 (OP.val (v := (.int .i64 x32.2)) rfl (x_move) ?_))
          refine OW.cons (OP.yes' rfl rfl hb112 (OP.val (v := (.bool (x56.2 != x32.2))) rfl (x_neq rfl rfl) ?_))
          refine OW.cons (OP.val (v := (.bool (x56.2 != x32.2))) rfl (x_pickF' rfl hb112 rfl) ?_)
          refine OW.nil ?_
          have hL := hL.sel [0, 1, 2, 3, 7, 8] (by decide) rfl
          exact ⟨x56.2 != x32.2, hm, ⟨rfl, rfl, rfl, rfl, rfl, hL⟩⟩
      · intro s_j1 F62 wd63 hJ hm
        unfold M.laws_FnExactLeadOf_j1 at hm
        obtain ⟨f64, f65, f66, f67, f68, hL⟩ := hJ
        refine CW.condM (t := s_j1) f68 hm (fun hb69 hm => ?_) (fun hb69 hm => ?_)
        · refine CW.seq ?_
          refine CW.regionL ?_
          refine OW.cons (OP.val (v := (.bool false)) rfl (x_assign) ?_)
          refine OW.nil ?_
          refine CW.ret ?_
          obtain rfl := Option.some.inj hm
          exact RR1 rfl rfl ⟨rfl, hL.fresh 5 rfl [] (by decide) (by decide) rfl⟩
        · refine CW.skip ?_
          refine CW.seq ?_
          refine CW.seq ?_
          refine CW.drawH (fun w' => Hp w0 [Ent.own 2 S51 v52 x49, Ent.blk b47 29 #[(.int .i64 x37.Boats), v40, v42], Ent.own 25 S39 v40 x37.Points, Ent.own 25 S41 v42 x37.Codes, Ent.blk b8 24 #[(.int .i64 a0.Boats), v1, v3], Ent.snap w0 w0.heap.size] w') Try_mixed ?_
          have hL := hL.call (Mod.drew _)
          have hS := (hL.sel [0, 1, 2, 3, 4, 5] (by decide) rfl)
          refine DH.take 0 rfl (by kernel_rfl) (by kernel_rfl) (by kernel_rfl) rfl rfl hS (YH.val (v := (.agg #[(.int .i64 x37.Boats), v40, v42])) (fun w' hS' => x_loadN (cs := [(.int .i64 x37.Boats), v40, v42]) Try.underlying29 Try_T29 rfl f66 (hS'.cellsB 1 rfl (o := 0) (l := [(.int .i64 x37.Boats), v40, v42]) (by intro j u hj; exact (by simpa using hj))))) ?_
          have hS := (hL.sel [0, 1, 2, 3, 4, 5] (by decide) rfl)
          refine DH.take 1 rfl (by kernel_rfl) (by kernel_rfl) (by kernel_rfl) rfl rfl hS (YH.val (v := (.agg #[(.int .i64 a0.Boats), v1, v3])) (fun w' hS' => x_loadN (cs := [(.int .i64 a0.Boats), v1, v3]) Try.underlying24 Try_T24 rfl f65 (hS'.cellsB 4 rfl (o := 0) (l := [(.int .i64 a0.Boats), v1, v3]) (by intro j u hj; exact (by simpa using hj))))) ?_
          obtain ⟨x84, hx85, hm⟩ := bndE hm
          refine DH.only 2 rfl (by kernel_rfl) (OP.call rfl (x_call (vs := [(.agg #[(.int .i64 a0.Boats), v1, v3])]) Try_C15 ⟨rfl, trivial⟩) (M.laws_toTable_ok _ a0 (hL.rdS 5 rfl h2) (hL.rdS 5 rfl h4) hx85) ?_)
          rintro e90 wd91 ⟨v87, S86, v89, S88, rfl, hF92⟩
          refine ⟨_, rfl, ?_⟩
          have hL := hL.pushAll hF92
          simp only [lA, lB, lC, lD] at hL
          refine ⟨(hL.sel [2, 3, 4, 5, 6, 7] (by decide) rfl), ?_⟩
          obtain ⟨x93, hx94, hm⟩ := bndE hm
          refine DH.only 3 rfl (by kernel_rfl) (OP.call rfl (x_call (vs := [(.agg #[(.int .i64 x37.Boats), v40, v42]), (.agg #[(.int .i64 x84.Boats), v87, v89])]) Try_C18 ⟨rfl, rfl, trivial⟩) (M.laws_eqTable_ok _ x37 (hL.rdO 4 rfl) (hL.rdO 5 rfl) x84 (hL.rdO 0 rfl) (hL.rdO 1 rfl) hx94) ?_)
          rintro e95 wd96 ⟨rfl, hF97⟩
          refine ⟨_, rfl, ?_⟩
          have hL := hL.pushAll hF97
          simp only [lA, lB, lC, lD] at hL
          refine ⟨(hL.sel [2, 3, 4, 5, 6, 7] (by decide) rfl), ?_⟩
          have hS := (hL.sel [2, 3, 4, 5, 6, 7] (by decide) rfl)
          refine DH.take 4 rfl (by kernel_rfl) (by kernel_rfl) (by kernel_rfl) rfl rfl hS (YH.val (v := (.bool (!x93))) (fun w' hS' => x_not rfl)) ?_
          refine DH.done (by kernel_rfl) ?_
          refine CW.condM (t := !x93) rfl hm (fun hb98 hm => ?_) (fun hb98 hm => ?_)
          · refine CW.seq ?_
            refine CW.regionL ?_
            refine OW.cons (OP.val (v := (.bool false)) rfl (x_assign) ?_)
            refine OW.nil ?_
            refine CW.ret ?_
            obtain rfl := Option.some.inj hm
            exact RR1 rfl rfl ⟨rfl, hL.fresh 7 rfl [] (by decide) (by decide) rfl⟩
          · refine CW.skip ?_
            refine CW.seq ?_
            refine CW.seq ?_
            refine CW.regionL ?_
            refine OW.cons (OP.val (v := v52) rfl (x_mv f67) ?_)
            refine OW.cons (OP.val (v := v5) rfl (x_mv f64) ?_)
            obtain ⟨x99, hx100, hm⟩ := bndE hm
            refine OW.cons (OP.call rfl (x_call (vs := [v5]) Try_C16 ⟨rfl, trivial⟩) (M.laws_toInt64S_ok _ a1 (hL.rdS 7 rfl h6) hx100) ?_)
            rintro e103 wd104 ⟨v102, S101, rfl, hF105⟩
            refine ⟨_, rfl, ?_⟩
            have hL := hL.pushAll hF105
            simp only [lA, lB, lC, lD] at hL
            obtain ⟨x106, hx107, hm⟩ := bndE hm
            refine OW.cons (OP.call rfl (x_call (vs := [v52, v102]) Try_C19 ⟨rfl, rfl, trivial⟩) (M.laws_eqInt64S_ok _ x49 (hL.rdO 3 rfl) x99 (hL.rdO 0 rfl) hx107) ?_)
            rintro e108 wd109 ⟨rfl, hF110⟩
            refine ⟨_, rfl, ?_⟩
            have hL := hL.pushAll hF110
            simp only [lA, lB, lC, lD] at hL
            refine OW.cons (OP.val (v := (.bool (!x106))) rfl (x_not rfl) ?_)
            refine OW.nil ?_
            refine CW.condM (t := !x106) rfl hm (fun hb111 hm => ?_) (fun hb111 hm => ?_)
            · refine CW.seq ?_
              refine CW.regionL ?_
              refine OW.cons (OP.val (v := (.bool false)) rfl (x_assign) ?_)
              refine OW.nil ?_
              refine CW.ret ?_
              obtain rfl := Option.some.inj hm
              exact RR1 rfl rfl ⟨rfl, hL.fresh 8 rfl [] (by decide) (by decide) rfl⟩
            · refine CW.skip ?_
              refine CW.seq ?_
              refine CW.regionL ?_
              refine OW.cons (OP.val (v := (.bool true)) rfl (x_assign) ?_)
              refine OW.nil ?_
              refine CW.ret ?_
              obtain rfl := Option.some.inj hm
              exact RR1 rfl rfl ⟨rfl, hL.fresh 8 rfl [] (by decide) (by decide) rfl⟩

end Go.Proofs.Ytpobaajdhfoomaa
